/- The walk of exec.Run's closure: a program is run in a state's block. -/
import Derived.Test.YtkomfeeimdlokaaGreatDoorExC
import Derived.Test.YtkomfeeimdlokaaGreatDoorIsaK
import Derived.StillTailTactics
set_option linter.unusedVariables false
set_option linter.unusedSimpArgs false
namespace Go.Proofs.Sat
open Go Go.RowKit
theorem ins_imm {width regs : Int} {x : In} (h : insErr width regs x = 0) (h1 : x.op = 1) : x.imm ≤ maskI width := by
  unfold insErr at h
  split at h
  · exact absurd h (by decide)
  split at h
  · exact absurd h (by decide)
  split at h
  · exact absurd h (by decide)
  split at h
  · exact absurd h (by decide)
  rename_i hm
  exact Int.not_lt.1 fun hlt => hm ⟨h1, hlt⟩
theorem ins_dst {width regs : Int} {x : In} (h : insErr width regs x = 0) (h1 : x.op = 0) : x.dst = 0 := by
  unfold insErr at h
  split at h
  · exact absurd h (by decide)
  split at h
  · exact absurd h (by decide)
  split at h
  · exact absurd h (by decide)
  split at h
  · exact absurd h (by decide)
  split at h
  · exact absurd h (by decide)
  rename_i hz
  by_cases h0 : x.dst = 0
  · exact h0
  · exact absurd (Or.inr (Or.inl ⟨h1, h0⟩)) hz
theorem stepE_stepN {n : Nat} {s : Nat → Nat} {x : In} {regs : Int} (hx : insErr (n : Int) regs x = 0) (hi : 0 ≤ x.imm) : stepE n s x = stepN n s x := by
  unfold stepN
  by_cases e0 : x.op = 0
  · rw [if_pos e0, stepE_nop e0]
  rw [if_neg e0]
  by_cases e1 : x.op = 1
  · have ht : ¬ trapE s x := fun ⟨h, _⟩ => by omega
    have hm := ins_imm hx e1
    rw [mask_int] at hm
    have hp := Nat.two_pow_pos n
    rw [if_pos e1, stepE_some e0 ht]
    unfold valE
    rw [if_pos e1, Nat.mod_eq_of_lt (by omega)]
  rw [if_neg e1]
  by_cases e2 : (x.op = 11 ∨ x.op = 12) ∧ s x.b.toNat = 0
  · rw [if_pos e2, stepE_trap e0 e2]
  rw [if_neg e2, stepE_some e0 e2]
  unfold valE
  rw [if_neg e1]
  by_cases e3 : x.op = 19
  · rw [if_pos e3, if_pos e3]
  · rw [if_neg e3, if_neg e3]
theorem valN_lt2 (op : Int) (n a b : Nat) (h1 : 1 ≤ n) (ha : a < 2 ^ n) : valN op n a b < 2 ^ n := by
  have hp0 := Nat.two_pow_pos n
  have h2 : 2 ≤ 2 ^ n := by
    have := Nat.pow_le_pow_right (show 0 < 2 by omega) h1
    simpa using this
  have hm := Nat.mod_lt a hp0
  have hsh : ∀ (d : Int) (fl : Nat), fl ≤ 1 → shiftN n a d fl < 2 ^ n := fun d fl hf => shSum_lt hf n
  have hb1 : bitN a (n - 1) ≤ 1 := by unfold bitN; omega
  have it : ∀ (p : Prop) [Decidable p] (x y : Nat), x < 2 ^ n → y < 2 ^ n → (if p then x else y) < 2 ^ n := fun p _ x y hx hy => by by_cases h : p <;> simp [h, hx, hy]
  have hno : ∀ a, notN n a < 2 ^ n := fun a => by unfold notN; omega
  have k10 : udivN n a b < 2 ^ n := by unfold udivN; have := Nat.div_le_self (a % 2 ^ n) (b % 2 ^ n); exact it _ _ _ (by omega) (by omega)
  have k11 : uremN n a b < 2 ^ n := by unfold uremN; have := Nat.mod_le (a % 2 ^ n) (b % 2 ^ n); exact it _ _ _ (by omega) (by omega)
  have k7 : xorN n a b < 2 ^ n := by unfold xorN; have : orN n a b < 2 ^ n := hno _; omega
  have k16 : eqN n a b < 2 ^ n := it _ _ _ (by omega) (by omega)
  have k17 : ultN n a b < 2 ^ n := it _ _ _ (by omega) (by omega)
  have k18 : sltN n a b < 2 ^ n := it _ _ _ (by omega) (by omega)
  exact it _ _ _ ha (it _ _ _ (hno _) (it _ _ _ (Nat.mod_lt _ hp0) (it _ _ _ (Nat.mod_lt _ hp0) (it _ _ _ (hno _) (it _ _ _ k7 (it _ _ _ (Nat.mod_lt _ hp0) (it _ _ _ (Nat.mod_lt _ hp0) (it _ _ _ (Nat.mod_lt _ hp0) (it _ _ _ k10 (it _ _ _ k11 (it _ _ _ (hsh _ _ (by omega)) (it _ _ _ (hsh _ _ (by omega)) (it _ _ _ (hsh _ _ hb1) (it _ _ _ k16 (it _ _ _ k17 k18)))))))))))))))
/-- The states stay within the width. -/
theorem stepE_lt {n R : Nat} {s s' : Nat → Nat} {x : In} (h1 : 1 ≤ n) (h2 : n ≤ 64) (hA : x.a.toNat < R) (hB : x.b.toNat < R) (hC : x.c.toNat < R) (hv : ∀ i, i < R → s i < 2 ^ n) (h : stepE n s x = some s') : ∀ i, i < R → s' i < 2 ^ n := by
  by_cases e0 : x.op = 0
  · rw [stepE_nop e0] at h
    obtain rfl := Option.some.inj h
    exact hv
  by_cases ht : trapE s x
  · rw [stepE_trap e0 ht] at h; cases h
  rw [stepE_some e0 ht] at h
  obtain rfl := Option.some.inj h
  have hp := Nat.two_pow_pos n
  have hV : valE n s x < 2 ^ n := by
    unfold valE
    split
    · exact Nat.mod_lt _ hp
    · split
      · split
        · exact hv _ hB
        · exact hv _ hC
      · exact valN_lt2 _ _ _ _ h1 (hv _ hA)
  intro i hi
  unfold updN
  by_cases e : i = x.dst.toNat
  · rw [if_pos e]; exact hV
  · rw [if_neg e]; exact hv i hi
/-- Nothing but the blocks g and a has changed, and new blocks. -/
def But2 (g a : Nat) (w w' : World) : Prop := Below (min g a) w w' ∧ Same (fun b => b ≠ g ∧ b ≠ a) w w'
theorem But2.refl (g a : Nat) (w : World) : But2 g a w w := ⟨Below.refl _ _, Same.refl _ _⟩
theorem But2.trans {g a : Nat} {w w1 w2 : World} (h : But2 g a w w1) (k : But2 g a w1 w2) : But2 g a w w2 := ⟨h.1.trans k.1, h.2.trans k.2⟩
theorem But2.of_but {g a : Nat} {w w' : World} (h : But g w w') : But2 g a w w' := ⟨h.below (Nat.min_le_left _ _), ⟨h.size, fun b hb hl => h.2.2 b hb.1 hl⟩⟩
theorem But2.drawn {g a : Nat} {w w' : World} (h : Drawn w w') : But2 g a w w' := ⟨h.below _, Same.drawn _ h⟩
theorem But2.set {g a i : Nat} {w w' : World} (h : But2 g a w w') (v : Value) : But2 g a w (w'.setCell ⟨a, i, none⟩ v) :=
  ⟨h.1.setCell (Nat.min_le_right _ _) _, h.2.trans (Same.setCell _ _ (fun b hb => hb.2))⟩
theorem But2.block {g a b : Nat} {ob : Obj} {w w' : World} (h : But2 g a w w') (hb : w.heap[b]? = some ob) (h1 : b ≠ g) (h2 : b ≠ a) : w'.heap[b]? = some ob := (h.2.2 b ⟨h1, h2⟩ (Array.getElem?_eq_some_iff.1 hb).1).trans hb
theorem But2.below {B g a : Nat} {w w' : World} (h : But2 g a w w') (h1 : B ≤ g) (h2 : B ≤ a) : Below B w w' := ⟨h.1.os, h.1.tape, h.1.output, h.1.size, fun i hi => h.1.block i (by have := Nat.le_min.2 ⟨h1, h2⟩; omega)⟩
/-- How the closure ends. -/
def RunP (g R : Nat) (o : (Nat → Nat) × Bool) (e : Ending) (w' : World) : Prop := (o.2 = true ∧ e = .returned (.tuple #[]) ∧ St8 w' g R o.1) ∨ (o.2 = false ∧ e = .panicked [{ v := .iface 99 (.agg #[]), recovered := false }])
set_option maxRecDepth 20000 in
set_option maxHeartbeats 4000000 in
theorem exec_Run1 (S : Nat → Prop) (c : Cd) (ia : Option Addr) (ic : Nat) (oa : Option Addr) (oc : Nat) (n R g pa pc ps : Nat) (s : Nat → Nat) (w : World) (hok : CdOK c) (hn : c.width = (n : Int)) (hR : c.regs = (R : Int)) (himm : ∀ x ∈ c.ins, 0 ≤ x.imm ∧ x.imm < 18446744073709551616)
    (hI : Rd kIn S w ia ic c.ins) (hSg : ∀ b, S b → b ≠ g ∧ b ≠ pa) (hs : St8 w g R s) (hv : ∀ i, i < R → s i < 2 ^ n) (ka : w.heap[pa]? = some (.cells #[.int .i64 0] 3 (0, 0))) (kc : w.heap[pc]? = some (.cells (cellsC c ia ic oa oc) 25 (0, 0))) (ks : w.heap[ps]? = some (.cells #[.slice (some ⟨g, 0, none⟩) R R] 32 (0, 0)))
    (hd : pa ≠ g ∧ pc ≠ g ∧ ps ≠ g ∧ pa ≠ pc ∧ pa ≠ ps) :
    Calls Tryz.prog 52 #[.pointer (some ⟨pa, 0, none⟩), .pointer (some ⟨pc, 0, none⟩), .pointer (some ⟨ps, 0, none⟩)] w fun e w' => RunP g R (runN n c.ins s) e w' ∧ (∃ k : Nat, k ≤ c.ins.length ∧ w'.heap[pa]? = some (.cells #[.int .i64 (k : Int)] 3 (0, 0))) ∧ But2 g pa w w' := by
  obtain ⟨d1, d2, d3, d4, d5⟩ := hd
  have HOK := Lib.hid hok
  have HI := Lib.hid hI
  have HSG := Lib.hid hSg
  have HIM := Lib.hid himm
  have HN := Lib.hid hn
  have HRR := Lib.hid hR
  have KA := Lib.hid ka
  have KC := Lib.hid kc
  have KS := Lib.hid ks
  have HS := Lib.hid hs
  have HV := Lib.hid hv
  have hil := hI.le
  have w1 := hok.w1
  have w2 := hok.w2
  have hn1 : 1 ≤ n := by omega
  have hn2 : n ≤ 64 := by omega
  clear hok hI hSg himm hn hR ka kc ks hs hv w1 w2
  go_enter Tryz.func52, Tryz.ntmps52
  go_wp2_with fail
  go_loopw [3] (fun i wr => ∃ (k : Nat) (s' : Nat → Nat), k ≤ c.ins.length ∧ Hid (runN n c.ins s = runN n (c.ins.drop k) s') ∧ Hid (∀ i, i < R → s' i < 2 ^ n) ∧ Hid (St8 wr g R s') ∧ Hid (wr.heap[pa]? = some (.cells #[.int .i64 (k : Int)] 3 (0, 0))) ∧ Hid (But2 g pa w wr)) (fun _ wr => c.ins.length - (match wr.cell? ⟨pa, 0, none⟩ with | some (.int _ k) => k.toNat | _ => 0))
  case atStart => exact ⟨0, s, by omega, by show _ = _; rw [List.drop_zero], HV.out, HS.out, KA.out, But2.refl _ _ _⟩
  case round =>
    obtain ⟨k, s', hk, HRUN, HV2, HS2, KA2, B2⟩ := hrel
    have KC2 := Lib.hid (B2.out.block KC.out d2 (Ne.symm d4))
    have KS2 := Lib.hid (B2.out.block KS.out d3 (Ne.symm d5))
    obtain ⟨z0, z1, z2, z3⟩ := cd_block4 KC2.out
    have a0 := cell_of_block KA2.out
    have sl := cell_of_block KS2.out
    rw [HN.out] at z0
    by_cases hlt : k < c.ins.length
    · have hkl : (k : Int) < (c.ins.length : Int) := by omega
      obtain ⟨b, o, rfl, hSb, hbw0, hat0⟩ := in_elem HI.out hlt
      obtain ⟨c0, c1, c2, c3, c4, c5⟩ := hat0.frame (w' := wr) (B2.out.2.2 b (HSG.out b hSb) hbw0)
      have hx := HOK.out.ins _ (List.getElem_mem hlt)
      have hf := ins_fields HOK.out.r1 hx
      have hi := HIM.out _ (List.getElem_mem hlt)
      have hdr : Hid (runN n (c.ins.drop k) s' = match stepN n s' c.ins[k] with | none => (s', false) | some s2 => runN n (c.ins.drop (k + 1)) s2) := by show _ = _; rw [List.drop_eq_getElem_cons hlt]; rfl
      rw [HN.out] at hx
      have HES := Lib.hid (stepE_stepN (n := n) (s := s') hx hi.1)
      have hd0 := fun h0 => ins_dst hx h0
      clear hat0 hx
      generalize c.ins[k] = x at *
      obtain ⟨op, xd, xa, xb, xc, xi⟩ := x
      obtain ⟨⟨ho0, ho1⟩, hd, ha, hb, hc⟩ := hf
      replace ho0 : 0 ≤ op := ho0
      replace ho1 : op ≤ 19 := ho1
      replace hd0 : op = 0 → xd = 0 := hd0
      replace hd : 1 ≤ op → 0 ≤ xd ∧ xd < c.regs := hd
      replace ha : 0 ≤ xa ∧ xa < c.regs := ha
      replace hb : 0 ≤ xb ∧ xb < c.regs := hb
      replace hc : 0 ≤ xc ∧ xc < c.regs := hc
      replace hi : 0 ≤ xi ∧ xi < 18446744073709551616 := hi
      have hrr := HRR.out
      have hr1 := HOK.out.r1
      have hdd : 0 ≤ xd ∧ xd < (R : Int) := by
        by_cases h0 : op = 0
        · have := hd0 h0; omega
        · have := hd (by omega); omega
      obtain ⟨O, rfl⟩ := Int.eq_ofNat_of_zero_le ho0
      obtain ⟨D, rfl⟩ := Int.eq_ofNat_of_zero_le hdd.1
      obtain ⟨A, rfl⟩ := Int.eq_ofNat_of_zero_le ha.1
      obtain ⟨B, rfl⟩ := Int.eq_ofNat_of_zero_le hb.1
      obtain ⟨C, rfl⟩ := Int.eq_ofNat_of_zero_le hc.1
      obtain ⟨I, rfl⟩ := Int.eq_ofNat_of_zero_le hi.1
      have CX := Lib.hid (exec_step n R O D A B C I g s' wr.drew (HS2.out.drawn ⟨1, rfl⟩) hn1 hn2 (by omega) (by omega) (by omega) (by omega) (by omega) HV2.out (by omega))
      have HLT : Hid (∀ s2, stepN n s' ⟨O, D, A, B, C, I⟩ = some s2 → ∀ i, i < R → s2 i < 2 ^ n) := fun s2 h2 => stepE_lt (x := ⟨O, D, A, B, C, I⟩) hn1 hn2 (by show (A : Int).toNat < R; omega) (by show (B : Int).toNat < R; omega) (by show (C : Int).toNat < R; omega) HV2.out (by rw [HES.out]; exact h2)
      rw [HES.out] at CX
      clear hd0 hd ha hb hc hi hdd hrr hr1 ho0 ho1 HES
      generalize hq : stepN n s' ⟨O, D, A, B, C, I⟩ = q at *
      have HQ := Lib.hid hq
      clear hq
      go_wp2_with fail
      go_still_tail 8, (by kernel_rfl)
      change wpList _ _ _ _ _ wr.drew
      go_wp2_with fail
      refine CX.out.mono ?_
      rintro e w5 ⟨hp, b5⟩
      have B5 := Lib.hid ((B2.out.trans (But2.drawn (w' := wr.drew) ⟨1, rfl⟩)).trans (But2.of_but b5))
      have KA5 := Lib.hid (b5.block (w := wr.drew) KA2.out d1)
      clear b5 CX
      cases q with
      | none =>
        obtain rfl : e = .panicked [{ v := .iface 99 (.agg #[]), recovered := false }] := hp
        have HEND : Hid (runN n c.ins s = (s', false)) := HRUN.out.trans hdr.out
        go_wp2_with fail
        exact ⟨rfl, .inr ⟨by rw [HEND.out], rfl⟩, ⟨k, by omega, KA5.out⟩, B5.out⟩
      | some s2 =>
        obtain ⟨rfl, hs2⟩ : e = .returned (.tuple #[]) ∧ St8 w5 g R s2 := hp
        have HS5 := Lib.hid hs2
        clear hs2
        have a5 := cell_of_block KA5.out
        have f5 := frozen_of_block (o := 0) KA5.out
        go_wp2_with fail
        go_roundw
        case rel => exact ⟨k + 1, s2, by omega, HRUN.out.trans hdr.out, HLT.out s2 rfl, HS5.out.frame (Below.heap_setCell _ _ _ _ (Ne.symm d1)), by have := block_set (u := .int .i64 ((k : Int) + 1)) KA5.out; rw [show ((k + 1 : Nat) : Int) = (k : Int) + 1 by omega]; exact this, B5.out.set _⟩
        case measure =>
          rw [cell_of_block (block_set (u := .int .i64 ((k : Int) + 1)) KA5.out), a0]
          show c.ins.length - ((k : Int) + 1).toNat < c.ins.length - (k : Int).toNat
          omega
    · have hnl : ¬ ((k : Int) < (c.ins.length : Int)) := by omega
      have hkk : k = c.ins.length := by omega
      have HEND : Hid (runN n c.ins s = (s', true)) := by show _ = _; rw [HRUN.out, hkk, List.drop_length]; rfl
      clear hkk hlt
      go_wp2_with fail
      go_end0
      exact ⟨.inl ⟨by rw [HEND.out], rfl, by rw [HEND.out]; exact HS2.out⟩, ⟨k, hk, KA2.out⟩, B2.out⟩
end Go.Proofs.Sat
