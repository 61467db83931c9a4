/- LvQ, LvQ2, LvQ3, LvQ4, one after the other. -/
import Derived.Test.YtkomfeeimdlokaaGreatDoorLvK
import Derived.Test.YtkomfeeimdlokaaGreatDoorLvT
import Derived.Test.YtkomfeeimdlokaaGreatDoorLvP
set_option linter.unusedVariables false
set_option linter.unusedSimpArgs false
/- The walks of the reference's used, Before, Inputs. -/
namespace Go.Proofs.Sat
open Go Go.RowKit
set_option maxRecDepth 20000 in
set_option maxHeartbeats 2000000 in
theorem ref50_used (S : Nat → Prop) (c : Cd) (p : CdAt) (i m : Nat) (w : World) (h : CdRd S w c p) (hi : i ≤ c.ins.length) : Calls Tryz.prog 73 #[cdVal c p, .int .i64 (i : Int), .int .i64 (m : Int)] w fun e w' => e = .returned (.bool (stateR c.out (c.ins.drop i) m)) ∧ Below w.heap.size w w' := by
  obtain ⟨ia, ic, oa, oc⟩ := p
  have HI : Hid (Rd kIn S w ia ic c.ins) := h.ins
  have HO : Hid (Rd (Kd.int .i64) S w oa oc c.out) := h.out
  have hil := h.ins.le
  have hol := h.out.le
  have BW := Lib.hid (below_alloc (Below.refl w.heap.size w) (.cells (cellsC c ia ic oa oc) 25))
  have KC := Lib.hid (heap_alloc_new w (.cells (cellsC c ia ic oa oc) 25))
  unfold cdVal
  go_enter Tryz.func73, Tryz.ntmps73
  go_wp2
  go_loopw [7] (fun v wr => ∃ k : Nat, i ≤ k ∧ k ≤ c.ins.length ∧ v = .int .i64 k ∧ Hid (stateR c.out (c.ins.drop i) m = stateR c.out (c.ins.drop k) m) ∧ Hid (Below w.heap.size w wr) ∧ Hid (wr.heap[w.heap.size]? = some (.cells (cellsC c ia ic oa oc) 25 (0, 0)))) (fun v _ => c.ins.length - (intOf v).toNat)
  case atStart => exact ⟨i, by omega, hi, rfl, rfl, BW.out, KC.out⟩
  case round =>
    obtain ⟨k, hk1, hk2, rfl, HV, HB, KC1⟩ := hrel
    obtain ⟨z0, z1, z2, z3⟩ := cd_block4 KC1.out
    by_cases hlt : k < c.ins.length
    · obtain ⟨b, o, rfl, -, hbw0, hat0⟩ := in_elem HI.out hlt
      have HAT0 := Lib.hid hat0
      obtain ⟨c0, c1, c2, c3, c4, c5⟩ := hat0.frame (w' := wr) (HB.out.block b hbw0)
      have HS2 := Lib.hid (stateR_drop c.out c.ins hlt)
      clear hat0
      generalize c.ins[k] = x at *
      go_wp2_with fail
      refine (ref50_Uses x wr).mono ?_
      rintro e w2 ⟨ua, uc, rfl, ru, b2⟩
      have B2 := Lib.hid (below_both HB.out b2)
      have KC2 := Lib.hid (block_below b2 KC1.out)
      have CH := Lib.hid (ref50_Has _ ua uc (usesI x) (m : Int) w2 ru)
      clear ru b2 c0 c1 c2 c3 c4 c5 z0 z1 z2 z3
      go_wp2_with fail
      refine CH.out.mono ?_
      rintro e w3 ⟨rfl, d3⟩
      have B3 := Lib.hid (B2.out.trans (d3.below _))
      have KC3 := Lib.hid (d3.heap KC2.out)
      clear d3 CH
      by_cases hu : (m : Int) ∈ usesI x
      · have HE : Hid (stateR c.out (c.ins.drop i) m = true) := by show _ = _; rw [HV.out, HS2.out]; simp [backS, hu]
        have t0 : decide ((m : Int) ∈ usesI x) = true := decide_eq_true hu
        rw [t0]
        clear hu t0
        go_wp2_with fail
        go_ret
        exact ⟨ret_bool HE.out.symm, B3.out⟩
      · have t0 : decide ((m : Int) ∈ usesI x) = false := decide_eq_false hu
        have HU := Lib.hid hu
        rw [t0]
        clear hu t0
        obtain ⟨z0, z1, z2, z3⟩ := cd_block4 KC3.out
        obtain ⟨c0, c1, c2, c3, c4, c5⟩ := HAT0.out.frame (w' := w3) (B3.out.block b hbw0)
        go_wp2_with fail
        refine (ref50_Defines x (m : Int) w3).mono ?_
        rintro e w4 ⟨rfl, b4⟩
        have B4 := Lib.hid (below_both B3.out b4)
        have KC4 := Lib.hid (block_below b4 KC3.out)
        clear b4 c0 c1 c2 c3 c4 c5 z0 z1 z2 z3
        cases hd : (defsI x && (x.dst == (m : Int)))
        · have HV2 : Hid (stateR c.out (c.ins.drop i) m = stateR c.out (c.ins.drop (k + 1)) m) := by
            show _ = _
            rw [HV.out, HS2.out]
            have : (defsI x && decide (x.dst = (m : Int))) = false := by rw [← hd]; congr 1
            simp [backS, HU.out, this]
          clear hd
          go_wp2_with fail
          go_roundw
          case rel => exact ⟨k + 1, by omega, by omega, by go_num, HV2.out, B4.out, KC4.out⟩
          case measure => simp [intOf]; omega
        · have HE : Hid (stateR c.out (c.ins.drop i) m = false) := by
            show _ = _
            rw [HV.out, HS2.out]
            have : (defsI x && decide (x.dst = (m : Int))) = true := by rw [← hd]; congr 1
            simp [backS, HU.out, this]
          clear hd
          go_wp2_with fail
          go_ret
          exact ⟨ret_bool HE.out.symm, B4.out⟩
    · obtain rfl : k = c.ins.length := by omega
      have HE : Hid (stateR c.out (c.ins.drop i) m = decide ((m : Int) ∈ c.out)) := by show _ = _; rw [HV.out, List.drop_length]; rfl
      have CH := Lib.hid (ref50_Has _ oa oc c.out (m : Int) wr (HO.out.frame (Same.below HB.out)))
      go_wp2_with fail
      refine CH.out.mono ?_
      rintro e w3 ⟨rfl, d3⟩
      go_wp2_with fail
      go_ret
      exact ⟨ret_bool HE.out.symm, HB.out.trans (d3.below _)⟩
set_option maxRecDepth 20000 in
set_option maxHeartbeats 2000000 in
theorem ref50_Before (S : Nat → Prop) (c : Cd) (p : CdAt) (i' R : Nat) (w : World) (h : CdRd S w c p) (hi : i' ≤ c.ins.length) (hR : c.regs = (R : Int)) (hR8 : R ≤ 8) : Calls Tryz.prog 45 #[cdVal c p, .int .i64 (i' : Int)] w fun e w' => ∃ v, e = .returned v ∧ Own (Kd.int .i64) 3 NoS w' w.heap.size v (regsK (stateR c.out (c.ins.drop i')) R) ∧ Below w.heap.size w w' := by
  obtain ⟨ia, ic, oa, oc⟩ := p
  have HC := Lib.hid h
  have hil := h.ins.le
  have hol := h.out.le
  have HR := Lib.hid hR
  clear h hR
  have BW := Lib.hid (below_alloc (Below.refl w.heap.size w) (.cells (cellsC c ia ic oa oc) 25))
  have KC := Lib.hid (heap_alloc_new w (.cells (cellsC c ia ic oa oc) 25))
  unfold cdVal
  go_enter Tryz.func45, Tryz.ntmps45
  go_wp2
  go_loopw [5, 6] (fun v i wr => ∃ k : Nat, k ≤ R ∧ i = .int .i64 k ∧ Hid (Own (Kd.int .i64) 3 NoS wr (w.heap.size + 1) v (regsK (stateR c.out (c.ins.drop i')) k)) ∧ Hid (Below w.heap.size w wr) ∧ Hid (wr.heap[w.heap.size]? = some (.cells (cellsC c ia ic oa oc) 25 (0, 0)))) (fun _ i _ => R - (intOf i).toNat)
  case atStart =>
    refine ⟨0, by omega, rfl, ?_, below_alloc BW.out _, block_alloc KC.out _⟩
    exact Own.of_block (enc := fun x => .int .i64 x) (xs := []) (cur := #[]) NoS (by simp) (block_at1 w _ _) (by simp) (by simp [maxLen]) rfl rfl
  case round =>
    obtain ⟨k, hk, rfl, HO, HB, KC1⟩ := hrel
    obtain ⟨z0, z1, z2, z3⟩ := cd_block4 KC1.out
    by_cases hlt : k < R
    · have hrl := regsK_length (stateR c.out (c.ins.drop i')) k
      have HT := Lib.hid (regsK_succ (stateR c.out (c.ins.drop i')) k)
      have hkR : (k : Int) < c.regs := by rw [HR.out]; omega
      go_wp2_with fail
      refine (ref50_used S c ⟨ia, ic, oa, oc⟩ i' k wr (HC.out.frame (Same.below HB.out)) hi).mono ?_
      rintro e w2 ⟨rfl, b2⟩
      have B2 := Lib.hid (below_both HB.out b2)
      have KC2 := Lib.hid (block_below b2 KC1.out)
      have O2 := Lib.hid (HO.out.below b2)
      have H2 : Hid (w.heap.size + 1 ≤ w2.heap.size) := (Array.getElem?_eq_some_iff.1 KC2.out).1
      clear b2 z0 z1 z2 z3
      cases hq : stateR c.out (c.ins.drop i') k
      · rw [hq] at HT
        go_wp2_with fail
        go_roundw
        case rel => exact ⟨k + 1, by omega, by go_num, by show Own _ _ _ _ _ _ _; rw [HT.out]; exact O2.out, B2.out, KC2.out⟩
        case measure => simp [intOf]; omega
      · rw [hq] at HT
        go_wp2_with (first
          | (at_builtin; refine wpList_append_ev _ rfl _ _ 23 rfl _ _ rfl rfl _ (run_app1 w2 infoInt rfl _ O2.out 3 [.int .i64 _] _ rfl (by omega) (by omega) H2.out) ?_; rintro n2 w3 ⟨ow3, g3, v3, _⟩; have B3 := Lib.hid (B2.out.grown g3 B2.out.size (fun k hk => Nat.le_of_succ_le (O2.out.lt k hk).1)); have KC3 := Lib.hid (block_grown g3 KC2.out (fun e => Nat.not_succ_le_self _ (O2.out.lt _ e.symm).1)); have O3 := Lib.hid ow3; clear ow3 g3 v3)
          | fail)
        go_roundw
        case rel => exact ⟨k + 1, by omega, by go_num, by show Own _ _ _ _ _ _ _; rw [HT.out]; exact O3.out, B3.out, KC3.out⟩
        case measure => simp [intOf]; omega
    · obtain rfl : k = R := by omega
      have hkR : ¬ (k : Int) < c.regs := by rw [HR.out]; omega
      go_wp2_with fail
      go_ret
      exact ⟨_, rfl, HO.out.mono (fun _ _ h => h) (by omega), HB.out⟩
end Go.Proofs.Sat
/- The walks of the reference's Inputs, Both, Dead, After. -/
namespace Go.Proofs.Sat
open Go Go.RowKit
theorem mem_regsK (s : Nat → Bool) (n : Nat) (z : Int) : z ∈ regsK s n ↔ 0 ≤ z ∧ z < n ∧ s z.toNat = true := by
  unfold regsK
  rw [List.mem_map]
  constructor
  · rintro ⟨k, hk, rfl⟩
    rw [List.mem_filter, List.mem_range] at hk
    refine ⟨Int.natCast_nonneg _, Int.ofNat_lt.2 hk.1, by simpa using hk.2⟩
  · rintro ⟨h0, h1, h2⟩
    obtain ⟨k, rfl⟩ := Int.eq_ofNat_of_zero_le h0
    exact ⟨k, by rw [List.mem_filter, List.mem_range]; exact ⟨by omega, by simpa using h2⟩, rfl⟩
theorem stateR_lt {c : Cd} (h : CdOK c) : ∀ (l : List In), (∀ x ∈ l, insErr c.width c.regs x = 0) → ∀ k, stateR c.out l k = true → (k : Int) < c.regs
  | [], _, k, hk => by
    have := h.out k (by simpa [stateR] using hk)
    exact this.2
  | x :: l, hl, k, hk => by
    unfold stateR backS at hk
    rw [Bool.or_eq_true, Bool.and_eq_true] at hk
    rcases hk with hk | hk
    · exact ((ins_ok (hl x (by simp))).2.2 _ (by simpa using hk)).2
    · exact stateR_lt h l (fun y hy => hl y (List.mem_cons_of_mem _ hy)) k hk.1
theorem state_lt {c : Cd} (h : CdOK c) (i k : Nat) (hk : stateR c.out (c.ins.drop i) k = true) : (k : Int) < c.regs :=
  stateR_lt h _ (fun x hx => h.ins x (List.mem_of_mem_drop hx)) k hk
theorem regsK_top {s : Nat → Bool} {R : Nat} (hR : R ≤ 8) (h : ∀ k, s k = true → k < R) : regsK s 8 = regsK s R := by
  refine ss_ext (regsK_ss _ _) (regsK_ss _ _) fun z => ?_
  rw [mem_regsK, mem_regsK]
  constructor
  · rintro ⟨h0, h1, h2⟩
    have := h _ h2
    exact ⟨h0, by omega, h2⟩
  · rintro ⟨h0, h1, h2⟩
    exact ⟨h0, by omega, h2⟩
theorem cd_regs {c : Cd} (h : CdOK c) : c.regs = (c.regs.toNat : Int) ∧ c.regs.toNat ≤ 8 := by have := h.r1; have := h.r2; omega
theorem before_eq {c : Cd} (h : CdOK c) (i : Nat) : regsK (stateR c.out (c.ins.drop i)) c.regs.toNat = regsK (stateR c.out (c.ins.drop i)) 8 := by
  symm
  exact regsK_top (cd_regs h).2 fun k hk => by have := state_lt h i k hk; have := (cd_regs h).1; omega
set_option maxRecDepth 20000 in
set_option maxHeartbeats 1000000 in
theorem ref50_Inputs (S : Nat → Prop) (c : Cd) (p : CdAt) (w : World) (h : CdRd S w c p) : Calls Tryz.prog 28 #[cdVal c p] w fun e w' => ∃ v, e = .returned v ∧ Own (Kd.int .i64) 3 NoS w' w.heap.size v (inpL c) ∧ Below w.heap.size w w' := by
  have BW := Lib.hid (below_alloc (Below.refl w.heap.size w) (.cells #[.int .i64 c.width, .int .i64 c.regs, .slice p.ia c.ins.length p.ic, .slice p.oa c.out.length p.oc] 25))
  have KC := Lib.hid (heap_alloc_new w (.cells #[.int .i64 c.width, .int .i64 c.regs, .slice p.ia c.ins.length p.ic, .slice p.oa c.out.length p.oc] 25))
  have HC := Lib.hid h
  unfold cdVal
  go_enter Tryz.func28, Tryz.ntmps28
  go_wp2_with fail
  refine (ref50_Check S c p _ (h.frame (Same.below BW.out))).mono ?_
  rintro e w2 ⟨rfl, b2⟩
  have B2 := Lib.hid (below_both BW.out b2)
  have KC2 := Lib.hid (block_below b2 KC.out)
  clear b2
  by_cases he : cdErr c = 0
  · have t0 : (cdErr c != 0) = false := by simpa using he
    have HE : Hid (inpL c = regsK (stateR c.out (c.ins.drop 0)) c.regs.toNat) := by show _ = _; unfold inpL; rw [if_pos he, before_eq (cd_ok he), List.drop_zero]
    have CS := Lib.hid (ref50_Before S c p 0 c.regs.toNat w2 (HC.out.frame (Same.below B2.out)) (by omega) (cd_regs (cd_ok he)).1 (cd_regs (cd_ok he)).2)
    obtain ⟨z0, z1, z2, z3⟩ := cd_block4 KC2.out
    clear he
    go_wp2_with fail
    refine CS.out.mono ?_
    rintro e w3 ⟨v, rfl, ho, b3⟩
    have B3 := Lib.hid (below_both B2.out b3)
    have O3 := Lib.hid (ho.mono (S' := NoS) (base' := w.heap.size) (fun _ _ h => h) B2.out.size)
    clear ho b3
    go_wp2_with fail
    go_ret
    exact ⟨_, rfl, by rw [HE.out]; exact O3.out, B3.out⟩
  · have t0 : (cdErr c != 0) = true := by simpa using he
    have HE : Hid (inpL c = []) := by show _ = _; unfold inpL; rw [if_neg he]
    clear he
    go_wp2_with fail
    go_ret
    exact ⟨_, rfl, by rw [HE.out]; exact Own.nil _ _ _ _ _, B2.out⟩
def bothS (a b : List Int) : Nat → Bool := fun k => decide ((k : Int) ∈ a) || decide ((k : Int) ∈ b)
theorem both_eq (c d : Cd) : ofL (inpL c ++ inpL d) = regsK (bothS (inpL c) (inpL d)) 8 := by
  have hz : ∀ (c : Cd) z, z ∈ inpL c → 0 ≤ z ∧ z < 8 := fun c z hz => by
    unfold inpL at hz
    split at hz
    · have := (mem_regsK _ _ _).1 hz; omega
    · cases hz
  refine ss_ext (ss_ofL _) (regsK_ss _ _) fun z => ?_
  rw [mem_ofL, mem_regsK, List.mem_append]
  constructor
  · intro h
    have hb : 0 ≤ z ∧ z < 8 := by rcases h with h | h <;> exact hz _ _ h
    refine ⟨hb.1, by omega, ?_⟩
    unfold bothS
    rw [Int.toNat_of_nonneg hb.1]
    simpa using h
  · rintro ⟨h0, h1, h2⟩
    unfold bothS at h2
    rw [Int.toNat_of_nonneg h0] at h2
    simpa using h2
set_option maxRecDepth 20000 in
set_option maxHeartbeats 2000000 in
theorem ref50_Both (S1 S2 : Nat → Prop) (a1 a2 : Option Addr) (c1 c2 : Nat) (l1 l2 : List Int) (w : World) (h1 : Rd (Kd.int .i64) S1 w a1 c1 l1) (h2 : Rd (Kd.int .i64) S2 w a2 c2 l2) :
    Calls Tryz.prog 27 #[.slice a1 l1.length c1, .slice a2 l2.length c2] w fun e w' => ∃ v, e = .returned v ∧ Own (Kd.int .i64) 3 NoS w' w.heap.size v (regsK (bothS l1 l2) 8) ∧ Below w.heap.size w w' := by
  have H1 := Lib.hid h1
  have H2 := Lib.hid h2
  clear h1 h2
  go_enter Tryz.func27, Tryz.ntmps27
  go_wp2
  go_loopw [5, 6] (fun v i wr => ∃ k : Nat, k ≤ 8 ∧ i = .int .i64 k ∧ Hid (Own (Kd.int .i64) 3 NoS wr w.heap.size v (regsK (bothS l1 l2) k)) ∧ Hid (Below w.heap.size w wr)) (fun _ i _ => 8 - (intOf i).toNat)
  case atStart =>
    refine ⟨0, by omega, rfl, ?_, below_alloc (Below.refl _ _) _⟩
    exact Own.of_block (enc := fun x => .int .i64 x) (xs := []) (cur := #[]) NoS (Nat.le_refl _) (heap_alloc_new w _) (by simp) (by simp [maxLen]) rfl rfl
  case round =>
    obtain ⟨k, hk, rfl, HO, HB⟩ := hrel
    by_cases hlt : k < 8
    · have hrl := regsK_length (bothS l1 l2) k
      have HT := Lib.hid (regsK_succ (bothS l1 l2) k)
      have hlt' : (k : Int) < 8 := by omega
      have C1 := Lib.hid (ref50_Has _ a1 c1 l1 (k : Int) wr (H1.out.frame (Same.below HB.out)))
      go_upto_region 5 with fail
      go_cut [19] (fun s wx => s = .bool (bothS l1 l2 k) ∧ Drawn wr wx)
      case first =>
        go_wp2_with fail
        refine C1.out.mono ?_
        rintro e w2 ⟨rfl, d2⟩
        have D2 := Lib.hid d2
        have C2 := Lib.hid (ref50_Has _ a2 c2 l2 (k : Int) w2 ((H2.out.frame (Same.below HB.out)).frame (Same.drawn _ d2)))
        clear d2
        by_cases hu : (k : Int) ∈ l1
        · have t0 : decide ((k : Int) ∈ l1) = true := decide_eq_true hu
          have HE : Hid (bothS l1 l2 k = true) := by show _ = _; unfold bothS; rw [t0]; rfl
          rw [t0]
          clear hu t0
          go_wp2_with fail
          go_meet
          case rel => exact ⟨by rw [HE.out], D2.out⟩
        · have t0 : decide ((k : Int) ∈ l1) = false := decide_eq_false hu
          have HE : Hid (bothS l1 l2 k = decide ((k : Int) ∈ l2)) := by show _ = _; unfold bothS; rw [t0]; rfl
          rw [t0]
          clear hu t0
          go_wp2_with fail
          refine C2.out.mono ?_
          rintro e w3 ⟨rfl, d3⟩
          go_wp2_with fail
          go_meet
          case rel => exact ⟨by rw [HE.out], D2.out.trans d3⟩
      case rest =>
        obtain ⟨rfl, d3⟩ := hcut
        have O2 := Lib.hid (HO.out.drawn d3)
        have B2 := Lib.hid (HB.out.trans (d3.below _))
        cases hq : bothS l1 l2 k
        · rw [hq] at HT
          go_wp2_with fail
          go_roundw
          case rel => exact ⟨k + 1, by omega, by go_num, by show Own _ _ _ _ _ _ _; rw [HT.out]; exact O2.out, B2.out⟩
          case measure => simp [intOf]; omega
        · rw [hq] at HT
          go_wp2_with (first
            | (at_builtin; refine wpList_append_ev _ rfl _ _ 23 rfl _ _ rfl rfl _ (run_app1 wc infoInt rfl _ O2.out 3 [.int .i64 _] _ rfl (by omega) (by omega) B2.out.size) ?_; rintro n2 w3 ⟨ow3, g3, v3, _⟩; have B3 := Lib.hid (B2.out.grown g3 B2.out.size (fun k hk => (O2.out.lt k hk).1)); have O3 := Lib.hid ow3; clear ow3 g3 v3)
            | fail)
          go_roundw
          case rel => exact ⟨k + 1, by omega, by go_num, by show Own _ _ _ _ _ _ _; rw [HT.out]; exact O3.out, B3.out⟩
          case measure => simp [intOf]; omega
    · obtain rfl : k = 8 := by omega
      go_wp2_with fail
      go_ret
      exact ⟨_, rfl, HO.out, HB.out⟩
end Go.Proofs.Sat
/- The walks of the reference's Dead and After; of live.After. -/
namespace Go.Proofs.Sat
open Go Go.RowKit
theorem dead_eq {c : Cd} (h : CdOK c) {j : Nat} (hj : j < c.ins.length) :
    deadB (stateR c.out (c.ins.drop (j + 1))) c.ins[j] = (decide (c.ins[j].op = 0) || !(decide (c.ins[j].dst ∈ regsK (stateR c.out (c.ins.drop (j + 1))) c.regs.toNat))) := by
  have hx := ins_ok (h.ins _ (List.getElem_mem hj))
  have hk := (knownI_iff _).1 hx.1
  unfold deadB
  by_cases h0 : c.ins[j].op = 0
  · have hd : defsI c.ins[j] = false := decide_eq_false (by omega)
    rw [hd, decide_eq_true h0]; rfl
  · have hd : defsI c.ins[j] = true := decide_eq_true (by omega)
    have hb := hx.2.1 hd
    rw [hd, decide_eq_false h0]
    have e : decide (c.ins[j].dst ∈ regsK (stateR c.out (c.ins.drop (j + 1))) c.regs.toNat) = stateR c.out (c.ins.drop (j + 1)) c.ins[j].dst.toNat := by
      rw [Bool.eq_iff_iff, decide_eq_true_iff, mem_regsK]
      constructor
      · exact fun h => h.2.2
      · exact fun h2 => ⟨hb.1, by have := (cd_regs h).1; omega, h2⟩
    rw [e]; rfl
end Go.Proofs.Sat
/- The walks of After, the program's and the reference's. -/
namespace Go.Proofs.Sat
open Go Go.RowKit
/-- What After tells of the first k instructions. -/
def aftL (c : Cd) (k : Nat) : List (List Int) := (List.range k).map fun i => regsK (stateR c.out (c.ins.drop (i + 1))) 8
theorem aftL_length (c : Cd) (k : Nat) : (aftL c k).length = k := by simp [aftL]
theorem aftL_succ (c : Cd) (k : Nat) : aftL c (k + 1) = aftL c k ++ [regsK (stateR c.out (c.ins.drop (k + 1))) 8] := by simp [aftL, List.range_succ]
/-- What After tells. -/
def aftR (c : Cd) : List (List Int) := if cdErr c = 0 then aftL c c.ins.length else []
/-- Blocks from H on. -/
abbrev FromB (H : Nat) : Nat → Prop := fun b => H ≤ b
/-- A row of one's own as an element of another. -/
theorem own_elem {S : Nat → Prop} {W W' : World} {H : Nat} {v u : Value} {xs : List (List Int)} {l : List Int} {d : Kd (List Int)} (hu : Own d 23 S W H u xs) (b : Below W.heap.size W W') (ho : Own (Kd.int .i64) 3 NoS W' W.heap.size v l) (hH : H ≤ W.heap.size) :
    (Kd.slice (Kd.int .i64)).K (fun b => FromB H b ∧ some b ≠ u.ownBlock) W' [v] l := by
  refine (Kd.slice (Kd.int .i64)).mono (fun b _ hb => ?_) ho.kind
  rcases hb with hb | hb
  · exact hb.elim
  · refine ⟨Nat.le_trans hH hb, fun e => ?_⟩
    have := (hu.lt b e.symm).2
    omega
theorem cut_one (g n : Nat) : ∃ A' : Option Addr, (∀ W : World, (Instr.slice 91 (.slice (some ⟨g, 0, none⟩) (n + 1) (n + 1)) (some (.int .i64 1)) none none).run Tryz.prog W = .ok (.slice A' n n) W) ∧ (0 < n → A' = some ⟨g, 8, none⟩) := by
  obtain ⟨i, hi, h2, h3, h4⟩ := info_parts infoSet.hi
  refine ⟨if n + 1 = 1 then some ⟨g, 0, none⟩ else some ⟨g, 8, none⟩, fun W => ?_, fun h => if_neg (by omega)⟩
  have hel : Tryz.prog.elem 91 = 66 := by simp [Program.elem, infoSet.ht]
  have hu : Tryz.prog.underlying 91 = some (.slice (Tryz.prog.elem 91)) := by rw [hel]; exact infoSet.ht
  have h := run_slice_l W 91 (some ⟨g, 0, none⟩) (n + 1) (n + 1) hu .i64 (1 : Int) (by decide) (by omega)
  rw [h, hel]
  simp [sizeOf, typeInfo, hi, h3, sliced, Result.andThen, add_plain]
end Go.Proofs.Sat
