/- The walks of exec.truth, of exec.value and of its closure. -/
import Derived.Test.YtkomfeeimdlokaaGreatDoorExA
import Derived.Test.YtkomfeeimdlokaaGreatDoorIsaK
import Derived.BigQuiet
set_option linter.unusedVariables false
set_option linter.unusedSimpArgs false
namespace Go.Proofs.Sat
open Go Go.RowKit
theorem exec_truth (b : Bool) (w : World) : Calls Tryz.prog 103 #[.bool b] w fun e w' => e = .returned (.int .u64 ((if b = true then 1 else 0 : Nat) : Int)) ∧ Drawn w w' := by
  go_enter Tryz.func103, Tryz.ntmps103
  cases b
  · go_wp2_with fail
    go_ret
    exact ⟨rfl, Drawn.refl _⟩
  · go_wp2_with fail
    go_ret
    exact ⟨rfl, Drawn.refl _⟩
theorem exec_get (b g R r : Nat) (s : Nat → Nat) (w : World) (hc : w.cell? ⟨b, 0, none⟩ = some (.slice (some ⟨g, 0, none⟩) R R)) (hs : St8 w g R s) (hr : r < R) : Calls Tryz.prog 94 #[.int .i64 (r : Int), .pointer (some ⟨b, 0, none⟩)] w fun e w' => e = .returned (.int .u64 (s r : Int)) ∧ Drawn w w' := by
  have hrr : (r : Int) < (R : Int) := by omega
  obtain ⟨s1, -, -⟩ := hs.at hr
  clear hs
  go_enter Tryz.func94, Tryz.ntmps94
  go_wp2_with fail
  go_ret
  exact ⟨rfl, Drawn.refl _⟩
/-- What an instruction computes. -/
def valE (n : Nat) (s : Nat → Nat) (x : In) : Nat := if x.op = 1 then x.imm.toNat % 2 ^ n else if x.op = 19 then (if s x.a.toNat ≠ 0 then s x.b.toNat else s x.c.toNat) else valN x.op n (s x.a.toNat) (s x.b.toNat)
/-- Does it trap? -/
def trapE (s : Nat → Nat) (x : In) : Prop := (x.op = 11 ∨ x.op = 12) ∧ s x.b.toNat = 0
theorem valE_eq (n : Nat) (s : Nat → Nat) (op d a b c i : Int) : valE n s ⟨op, d, a, b, c, i⟩ = if op = 1 then i.toNat % 2 ^ n else if op = 19 then (if s a.toNat ≠ 0 then s b.toNat else s c.toNat) else valN op n (s a.toNat) (s b.toNat) := rfl
theorem ins_block {w : World} {g : Nat} {t : TypeId} {fr : Nat × Nat} {v0 v1 v2 v3 v4 v5 : Value} (h : w.heap[g]? = some (.cells #[v0, v1, v2, v3, v4, v5] t fr)) : w.cell? ⟨g, 0, none⟩ = some v0 ∧ w.cell? ⟨g, 1, none⟩ = some v1 ∧ w.cell? ⟨g, 2, none⟩ = some v2 ∧ w.cell? ⟨g, 3, none⟩ = some v3 ∧ w.cell? ⟨g, 4, none⟩ = some v4 ∧ w.cell? ⟨g, 5, none⟩ = some v5 :=
  ⟨by rw [cell_of_row _ _ 0 _ _ _ h]; rfl, by rw [cell_of_row _ _ 1 _ _ _ h]; rfl, by rw [cell_of_row _ _ 2 _ _ _ h]; rfl, by rw [cell_of_row _ _ 3 _ _ _ h]; rfl, by rw [cell_of_row _ _ 4 _ _ _ h]; rfl, by rw [cell_of_row _ _ 5 _ _ _ h]; rfl⟩
set_option maxRecDepth 20000 in
set_option maxHeartbeats 8000000 in
theorem exec_value (n R op D A B C I g : Nat) (s : Nat → Nat) (w : World) (hs : St8 w g R s) (h1 : 1 ≤ n) (h2 : n ≤ 64) (hA : A < R) (hB : B < R) (hC : C < R) (hI : I < 18446744073709551616) (hv : ∀ i, i < R → s i < 2 ^ n) (ho : 1 ≤ op ∧ op ≤ 19) :
    Calls Tryz.prog 79 #[.int .i64 (n : Int), .agg #[.int .i64 (op : Int), .int .i64 (D : Int), .int .i64 (A : Int), .int .i64 (B : Int), .int .i64 (C : Int), .int .u64 (I : Int)], .slice (some ⟨g, 0, none⟩) R R] w fun e w' => ((trapE s ⟨op, D, A, B, C, I⟩ ∧ e = .panicked [{ v := .iface 99 (.agg #[]), recovered := false }]) ∨ (¬ trapE s ⟨op, D, A, B, C, I⟩ ∧ e = .returned (.int .u64 (valE n s ⟨op, D, A, B, C, I⟩ : Int)))) ∧ Below w.heap.size w w' := by
  have hmf : ∀ (fn : Fn) (first cap : Array Value) (w : World), (Instr.makeFunc fn first cap).run Tryz.prog w = .ok (.func fn first cap) w := fun _ _ _ _ => rfl
  have BW := Lib.hid (below_alloc (below_alloc (Below.refl w.heap.size w) (.cells #[.int .i64 (op : Int), .int .i64 (D : Int), .int .i64 (A : Int), .int .i64 (B : Int), .int .i64 (C : Int), .int .u64 (I : Int)] 50)) (.cells #[.slice (some ⟨g, 0, none⟩) R R] 32))
  have KX := Lib.hid (block_alloc (heap_alloc_new w (.cells #[.int .i64 (op : Int), .int .i64 (D : Int), .int .i64 (A : Int), .int .i64 (B : Int), .int .i64 (C : Int), .int .u64 (I : Int)] 50)) (.cells #[.slice (some ⟨g, 0, none⟩) R R] 32))
  have KS := Lib.hid (block_at1 w (.cells #[.int .i64 (op : Int), .int .i64 (D : Int), .int .i64 (A : Int), .int .i64 (B : Int), .int .i64 (C : Int), .int .u64 (I : Int)] 50) (.cells #[.slice (some ⟨g, 0, none⟩) R R] 32))
  have HS0 := Lib.hid hs
  have LA := Lib.hid (hv A hA)
  have LB := Lib.hid (hv B hB)
  have h64 := Lib.hid (pow_le64 h2)
  have HI := Lib.hid hI
  have HT : Hid (trapE s ⟨op, D, A, B, C, I⟩ ↔ ((op = 11 ∨ op = 12) ∧ s B = 0)) := by
    show _ ↔ _
    unfold trapE
    show (((op : Int) = 11 ∨ (op : Int) = 12) ∧ s (B : Int).toNat = 0) ↔ _
    rw [Int.toNat_natCast]
    constructor
    · rintro ⟨h, h'⟩; exact ⟨by omega, h'⟩
    · rintro ⟨h, h'⟩; exact ⟨by omega, h'⟩
  have HVE := Lib.hid (valE_eq n s op D A B C I)
  clear hI hv
  go_enter Tryz.func79, Tryz.ntmps79
  go_upto_region 2 with fail
  generalize hW : ((w.alloc (.cells #[.int .i64 (op : Int), .int .i64 (D : Int), .int .i64 (A : Int), .int .i64 (B : Int), .int .i64 (C : Int), .int .u64 (I : Int)] 50)).alloc (.cells #[.slice (some ⟨g, 0, none⟩) R R] 32)) = W at *
  have HS := Lib.hid (show St8 W g R s from by rw [← hW]; exact (HS0.out.below (below_alloc (below_alloc (Below.refl _ _) _) _)))
  clear hW hs HS0
  obtain ⟨x0, x1, x2, x3, x4, x5⟩ := ins_block KX.out
  have sb : W.cell? ⟨w.heap.size + 1, 0, none⟩ = some (.slice (some ⟨g, 0, none⟩) R R) := by rw [cell_of_row _ _ 0 _ _ _ KS.out]; rfl
  have SB := Lib.hid sb
  have CG := Lib.hid (fun (W' : World) (d : Drawn W W') (r : Nat) (hr : r < R) => exec_get (w.heap.size + 1) g R r s W' (d.cell SB.out) (HS.out.drawn d) hr)
  have CGQ : Hid (∀ (r : Nat) (hr : r < R) (m : Nat), Calls Tryz.prog 94 #[.int .i64 (r : Int), .pointer (some ⟨w.heap.size + 1, 0, none⟩)] (W.drewN m) fun e w' => e = .returned (.int .u64 (s r : Int)) ∧ Drawn (W.drewN m) w') := fun r hr m => CG.out _ (Drawn.of W m) r hr
  go_quiet ((go_at_call 94; exact Calls.quiet_of (CGQ.out _ (by assumption) _)))
  have DD : Drawn W (W.drewN nq) := ⟨nq, rfl⟩
  have y0 := DD.cell x0
  have y4 := DD.cell x4
  have y5 := DD.cell x5
  have BV := Lib.hid (below_both BW.out (DD.below _))
  have CG2 := Lib.hid (fun r hr => CG.out _ DD r hr)
  clear x0 x1 x2 x3 x4 x5 sb SB CGQ CG KX KS DD BW
  generalize W.drewN nq = V at *
  clear HS
  have HVK : Hid (∀ k : Nat, op = k → k ≠ 1 → k ≠ 19 → valE n s ⟨op, D, A, B, C, I⟩ = valN (k : Int) n (s A) (s B)) := by
    intro k hk k1 k2
    subst hk
    rw [HVE.out, if_neg (by omega), if_neg (by omega), Int.toNat_natCast, Int.toNat_natCast]
  have HNT : Hid (¬ (op = 11 ∨ op = 12) → ¬ trapE s ⟨op, D, A, B, C, I⟩) := fun h ht => h (HT.out.1 ht).1
  have LA64 : Hid (s A < 18446744073709551616) := Nat.lt_of_lt_of_le LA.out h64.out
  have LB64 : Hid (s B < 18446744073709551616) := Nat.lt_of_lt_of_le LB.out h64.out
  by_cases e1 : op = 1
  · have HV : Hid (valE n s ⟨op, D, A, B, C, I⟩ = I % 2 ^ n) := by show _ = _; rw [HVE.out, if_pos (by omega), Int.toNat_natCast]
    have HN := Lib.hid (HNT.out (by omega))
    subst e1
    clear HVK HVE HT
    have CC := Lib.hid (bits_Cut n I V h1 h2 HI.out)
    generalize I % 2 ^ n = r at *
    generalize s A = va at *
    generalize s B = vb at *
    go_wp2_with fail
    refine CC.out.mono ?_
    rintro e w3 ⟨rfl, d3⟩
    have B3 := Lib.hid (below_both BV.out (d3.below _))
    clear d3 CC
    go_wp2_with fail
    go_ret
    exact ⟨.inr ⟨HN.out, ret_int (by rw [HV.out])⟩, B3.out⟩
  have t1 : ((op : Int) == 1) = false := by rw [beq_eq_false_iff_ne]; omega
  by_cases e2 : op = 2
  · have HV : Hid (valE n s ⟨op, D, A, B, C, I⟩ = s A) := by show _ = _; rw [HVK.out 2 e2 (by omega) (by omega)]; rfl
    have HN := Lib.hid (HNT.out (by omega))
    subst e2
    clear HVK HVE HT
    generalize s A = va at *
    generalize s B = vb at *
    go_wp2_with fail
    go_ret
    exact ⟨.inr ⟨HN.out, ret_int (by rw [HV.out])⟩, BV.out⟩
  have t2 : ((op : Int) == 2) = false := by rw [beq_eq_false_iff_ne]; omega
  by_cases e3 : op = 3
  · have HV : Hid (valE n s ⟨op, D, A, B, C, I⟩ = notN n (s A)) := by show _ = _; rw [HVK.out 3 e3 (by omega) (by omega)]; rfl
    have HN := Lib.hid (HNT.out (by omega))
    subst e3
    clear HVK HVE HT
    have CC := Lib.hid (bits_Not n (s A) V h1 h2 LA64.out)
    generalize notN n (s A) = r at *
    generalize s A = va at *
    generalize s B = vb at *
    go_wp2_with fail
    refine CC.out.mono ?_
    rintro e w3 ⟨rfl, d3⟩
    have B3 := Lib.hid (below_both BV.out (d3.below _))
    clear d3 CC
    go_wp2_with fail
    go_ret
    exact ⟨.inr ⟨HN.out, ret_int (by rw [HV.out])⟩, B3.out⟩
  have t3 : ((op : Int) == 3) = false := by rw [beq_eq_false_iff_ne]; omega
  by_cases e4 : op = 4
  · have HV : Hid (valE n s ⟨op, D, A, B, C, I⟩ = negN n (s A)) := by show _ = _; rw [HVK.out 4 e4 (by omega) (by omega)]; rfl
    have HN := Lib.hid (HNT.out (by omega))
    subst e4
    clear HVK HVE HT
    have CC := Lib.hid (bits_Neg n (s A) V h1 h2 LA64.out)
    generalize negN n (s A) = r at *
    generalize s A = va at *
    generalize s B = vb at *
    go_wp2_with fail
    refine CC.out.mono ?_
    rintro e w3 ⟨rfl, d3⟩
    have B3 := Lib.hid (below_both BV.out (d3.below _))
    clear d3 CC
    go_wp2_with fail
    go_ret
    exact ⟨.inr ⟨HN.out, ret_int (by rw [HV.out])⟩, B3.out⟩
  have t4 : ((op : Int) == 4) = false := by rw [beq_eq_false_iff_ne]; omega
  by_cases e5 : op = 5
  · have HV : Hid (valE n s ⟨op, D, A, B, C, I⟩ = andN n (s A) (s B)) := by show _ = _; rw [HVK.out 5 e5 (by omega) (by omega)]; rfl
    have HN := Lib.hid (HNT.out (by omega))
    subst e5
    clear HVK HVE HT
    have HB := Lib.hid (and_nat LA64.out LB64.out)
    rw [and_word (s B) LA.out] at HB
    generalize andN n (s A) (s B) = r at *
    generalize s A = va at *
    generalize s B = vb at *
    go_wp2_with fail
    go_ret
    exact ⟨.inr ⟨HN.out, ret_int (by rw [HV.out]; exact HB.out)⟩, BV.out⟩
  have t5 : ((op : Int) == 5) = false := by rw [beq_eq_false_iff_ne]; omega
  by_cases e6 : op = 6
  · have HV : Hid (valE n s ⟨op, D, A, B, C, I⟩ = orN n (s A) (s B)) := by show _ = _; rw [HVK.out 6 e6 (by omega) (by omega)]; rfl
    have HN := Lib.hid (HNT.out (by omega))
    subst e6
    clear HVK HVE HT
    have HB := Lib.hid (or_nat LA64.out LB64.out)
    rw [or_word LA.out LB.out] at HB
    generalize orN n (s A) (s B) = r at *
    generalize s A = va at *
    generalize s B = vb at *
    go_wp2_with fail
    go_ret
    exact ⟨.inr ⟨HN.out, ret_int (by rw [HV.out]; exact HB.out)⟩, BV.out⟩
  have t6 : ((op : Int) == 6) = false := by rw [beq_eq_false_iff_ne]; omega
  by_cases e7 : op = 7
  · have HV : Hid (valE n s ⟨op, D, A, B, C, I⟩ = xorN n (s A) (s B)) := by show _ = _; rw [HVK.out 7 e7 (by omega) (by omega)]; rfl
    have HN := Lib.hid (HNT.out (by omega))
    subst e7
    clear HVK HVE HT
    have HB := Lib.hid (xor_nat LA64.out LB64.out)
    rw [xor_word LA.out LB.out] at HB
    generalize xorN n (s A) (s B) = r at *
    generalize s A = va at *
    generalize s B = vb at *
    go_wp2_with fail
    go_ret
    exact ⟨.inr ⟨HN.out, ret_int (by rw [HV.out]; exact HB.out)⟩, BV.out⟩
  have t7 : ((op : Int) == 7) = false := by rw [beq_eq_false_iff_ne]; omega
  by_cases e8 : op = 8
  · have HV : Hid (valE n s ⟨op, D, A, B, C, I⟩ = addN n (s A) (s B)) := by show _ = _; rw [HVK.out 8 e8 (by omega) (by omega)]; rfl
    have HN := Lib.hid (HNT.out (by omega))
    subst e8
    clear HVK HVE HT
    have CC := Lib.hid (bits_Add n (s A) (s B) V h1 h2)
    generalize addN n (s A) (s B) = r at *
    generalize s A = va at *
    generalize s B = vb at *
    go_wp2_with fail
    refine CC.out.mono ?_
    rintro e w3 ⟨rfl, d3⟩
    have B3 := Lib.hid (below_both BV.out (d3.below _))
    clear d3 CC
    go_wp2_with fail
    go_ret
    exact ⟨.inr ⟨HN.out, ret_int (by rw [HV.out])⟩, B3.out⟩
  have t8 : ((op : Int) == 8) = false := by rw [beq_eq_false_iff_ne]; omega
  by_cases e9 : op = 9
  · have HV : Hid (valE n s ⟨op, D, A, B, C, I⟩ = subN n (s A) (s B)) := by show _ = _; rw [HVK.out 9 e9 (by omega) (by omega)]; rfl
    have HN := Lib.hid (HNT.out (by omega))
    subst e9
    clear HVK HVE HT
    have CC := Lib.hid (bits_Sub n (s A) (s B) V h1 h2 LB64.out)
    generalize subN n (s A) (s B) = r at *
    generalize s A = va at *
    generalize s B = vb at *
    go_wp2_with fail
    refine CC.out.mono ?_
    rintro e w3 ⟨rfl, d3⟩
    have B3 := Lib.hid (below_both BV.out (d3.below _))
    clear d3 CC
    go_wp2_with fail
    go_ret
    exact ⟨.inr ⟨HN.out, ret_int (by rw [HV.out])⟩, B3.out⟩
  have t9 : ((op : Int) == 9) = false := by rw [beq_eq_false_iff_ne]; omega
  by_cases e10 : op = 10
  · have HV : Hid (valE n s ⟨op, D, A, B, C, I⟩ = mulN n (s A) (s B)) := by show _ = _; rw [HVK.out 10 e10 (by omega) (by omega)]; rfl
    have HN := Lib.hid (HNT.out (by omega))
    subst e10
    clear HVK HVE HT
    have CC := Lib.hid (bits_Mul n (s A) (s B) V h1 h2)
    generalize mulN n (s A) (s B) = r at *
    generalize s A = va at *
    generalize s B = vb at *
    go_wp2_with fail
    refine CC.out.mono ?_
    rintro e w3 ⟨rfl, d3⟩
    have B3 := Lib.hid (below_both BV.out (d3.below _))
    clear d3 CC
    go_wp2_with fail
    go_ret
    exact ⟨.inr ⟨HN.out, ret_int (by rw [HV.out])⟩, B3.out⟩
  have t10 : ((op : Int) == 10) = false := by rw [beq_eq_false_iff_ne]; omega
  by_cases e11 : op = 11
  · have HV : Hid (valE n s ⟨op, D, A, B, C, I⟩ = udivN n (s A) (s B)) := by show _ = _; rw [HVK.out 11 e11 (by omega) (by omega)]; rfl
    subst e11
    clear HVK HVE
    by_cases hz : s B = 0
    · have HTT : Hid (trapE s ⟨((11 : Nat) : Int), D, A, B, C, I⟩) := HT.out.2 ⟨by omega, hz⟩
      generalize s A = va at *
      generalize s B = vb at *
      have tz : ((vb : Int) == 0) = true := by simpa using hz
      clear hz
      go_wp2_with fail
      exact ⟨rfl, .inl ⟨HTT.out, rfl⟩, BV.out⟩
    · have HTN : Hid (¬ trapE s ⟨((11 : Nat) : Int), D, A, B, C, I⟩) := fun ht => hz (HT.out.1 ht).2
      have HD := Lib.hid (div_word LA.out LB.out hz)
      have HQ : Hid (s A / s B < 18446744073709551616) := Nat.lt_of_le_of_lt (Nat.div_le_self _ _) LA64.out
      generalize udivN n (s A) (s B) = r at *
      generalize s A = va at *
      generalize s B = vb at *
      have tz : ((vb : Int) == 0) = false := by simpa using hz
      have hvb : ¬ (vb : Int) = 0 := by omega
      clear hz
      go_wp2_with fail
      go_ret
      refine ⟨.inr ⟨HTN.out, ret_int ?_⟩, BV.out⟩
      show _ = ((valE n s ⟨((11 : Nat) : Int), D, A, B, C, I⟩ : Nat) : Int)
      rw [HV.out, ← HD.out, ← Int.natCast_ediv, wrap_nat, Nat.mod_eq_of_lt HQ.out]
  have t11 : ((op : Int) == 11) = false := by rw [beq_eq_false_iff_ne]; omega
  by_cases e12 : op = 12
  · have HV : Hid (valE n s ⟨op, D, A, B, C, I⟩ = uremN n (s A) (s B)) := by show _ = _; rw [HVK.out 12 e12 (by omega) (by omega)]; rfl
    subst e12
    clear HVK HVE
    by_cases hz : s B = 0
    · have HTT : Hid (trapE s ⟨((12 : Nat) : Int), D, A, B, C, I⟩) := HT.out.2 ⟨by omega, hz⟩
      generalize s A = va at *
      generalize s B = vb at *
      have tz : ((vb : Int) == 0) = true := by simpa using hz
      clear hz
      go_wp2_with fail
      exact ⟨rfl, .inl ⟨HTT.out, rfl⟩, BV.out⟩
    · have HTN : Hid (¬ trapE s ⟨((12 : Nat) : Int), D, A, B, C, I⟩) := fun ht => hz (HT.out.1 ht).2
      have HD := Lib.hid (rem_word LA.out LB.out hz)
      have HQ : Hid (s A / s B < 18446744073709551616) := Nat.lt_of_le_of_lt (Nat.div_le_self _ _) LA64.out
      generalize uremN n (s A) (s B) = r at *
      generalize s A = va at *
      generalize s B = vb at *
      have tz : ((vb : Int) == 0) = false := by simpa using hz
      have hvb : ¬ (vb : Int) = 0 := by omega
      clear hz
      go_wp2_with fail
      go_ret
      refine ⟨.inr ⟨HTN.out, ret_int ?_⟩, BV.out⟩
      show _ = ((valE n s ⟨((12 : Nat) : Int), D, A, B, C, I⟩ : Nat) : Int)
      rw [HV.out, ← HD.out, Int.natCast_emod]
  have t12 : ((op : Int) == 12) = false := by rw [beq_eq_false_iff_ne]; omega
  by_cases e13 : op = 13
  · have HV : Hid (valE n s ⟨op, D, A, B, C, I⟩ = shlN n (s A) (s B)) := by show _ = _; rw [HVK.out 13 e13 (by omega) (by omega)]; rfl
    have HN := Lib.hid (HNT.out (by omega))
    subst e13
    clear HVK HVE HT
    have CC := Lib.hid (bits_Shl n (s A) (s B) V h1 h2 LA64.out LB64.out)
    generalize shlN n (s A) (s B) = r at *
    generalize s A = va at *
    generalize s B = vb at *
    go_wp2_with fail
    refine CC.out.mono ?_
    rintro e w3 ⟨rfl, d3⟩
    have B3 := Lib.hid (below_both BV.out (d3.below _))
    clear d3 CC
    go_wp2_with fail
    go_ret
    exact ⟨.inr ⟨HN.out, ret_int (by rw [HV.out])⟩, B3.out⟩
  have t13 : ((op : Int) == 13) = false := by rw [beq_eq_false_iff_ne]; omega
  by_cases e14 : op = 14
  · have HV : Hid (valE n s ⟨op, D, A, B, C, I⟩ = lshrN n (s A) (s B)) := by show _ = _; rw [HVK.out 14 e14 (by omega) (by omega)]; rfl
    have HN := Lib.hid (HNT.out (by omega))
    subst e14
    clear HVK HVE HT
    have CC := Lib.hid (bits_Lshr n (s A) (s B) V h1 h2 LA64.out LB64.out)
    generalize lshrN n (s A) (s B) = r at *
    generalize s A = va at *
    generalize s B = vb at *
    go_wp2_with fail
    refine CC.out.mono ?_
    rintro e w3 ⟨rfl, d3⟩
    have B3 := Lib.hid (below_both BV.out (d3.below _))
    clear d3 CC
    go_wp2_with fail
    go_ret
    exact ⟨.inr ⟨HN.out, ret_int (by rw [HV.out])⟩, B3.out⟩
  have t14 : ((op : Int) == 14) = false := by rw [beq_eq_false_iff_ne]; omega
  by_cases e15 : op = 15
  · have HV : Hid (valE n s ⟨op, D, A, B, C, I⟩ = ashrN n (s A) (s B)) := by show _ = _; rw [HVK.out 15 e15 (by omega) (by omega)]; rfl
    have HN := Lib.hid (HNT.out (by omega))
    subst e15
    clear HVK HVE HT
    have CC := Lib.hid (bits_Ashr n (s A) (s B) V h1 h2 LA64.out LB64.out)
    generalize ashrN n (s A) (s B) = r at *
    generalize s A = va at *
    generalize s B = vb at *
    go_wp2_with fail
    refine CC.out.mono ?_
    rintro e w3 ⟨rfl, d3⟩
    have B3 := Lib.hid (below_both BV.out (d3.below _))
    clear d3 CC
    go_wp2_with fail
    go_ret
    exact ⟨.inr ⟨HN.out, ret_int (by rw [HV.out])⟩, B3.out⟩
  have t15 : ((op : Int) == 15) = false := by rw [beq_eq_false_iff_ne]; omega
  by_cases e16 : op = 16
  · have HV : Hid (valE n s ⟨op, D, A, B, C, I⟩ = eqN n (s A) (s B)) := by show _ = _; rw [HVK.out 16 e16 (by omega) (by omega)]; rfl
    have HN := Lib.hid (HNT.out (by omega))
    subst e16
    clear HVK HVE HT
    have HE := Lib.hid (eq_word LA.out LB.out)
    generalize eqN n (s A) (s B) = r at *
    generalize s A = va at *
    generalize s B = vb at *
    by_cases hh : va = vb
    · rw [if_pos hh] at HE
      have CT := Lib.hid (exec_truth true V)
      have tq : ((va : Int) == (vb : Int)) = true := by rw [beq_iff_eq]; omega
      clear hh
      go_wp2_with fail
      refine CT.out.mono ?_
      rintro e w3 ⟨rfl, d3⟩
      have B3 := Lib.hid (below_both BV.out (d3.below _))
      clear d3 CT
      go_wp2_with fail
      go_ret
      exact ⟨.inr ⟨HN.out, ret_int (by rw [HV.out, ← HE.out]; rfl)⟩, B3.out⟩
    · rw [if_neg hh] at HE
      have CT := Lib.hid (exec_truth false V)
      have tq : ((va : Int) == (vb : Int)) = false := by rw [beq_eq_false_iff_ne]; omega
      clear hh
      go_wp2_with fail
      refine CT.out.mono ?_
      rintro e w3 ⟨rfl, d3⟩
      have B3 := Lib.hid (below_both BV.out (d3.below _))
      clear d3 CT
      go_wp2_with fail
      go_ret
      exact ⟨.inr ⟨HN.out, ret_int (by rw [HV.out, ← HE.out]; rfl)⟩, B3.out⟩
  have t16 : ((op : Int) == 16) = false := by rw [beq_eq_false_iff_ne]; omega
  by_cases e17 : op = 17
  · have HV : Hid (valE n s ⟨op, D, A, B, C, I⟩ = ultN n (s A) (s B)) := by show _ = _; rw [HVK.out 17 e17 (by omega) (by omega)]; rfl
    have HN := Lib.hid (HNT.out (by omega))
    subst e17
    clear HVK HVE HT
    have HE := Lib.hid (ult_word LA.out LB.out)
    generalize ultN n (s A) (s B) = r at *
    generalize s A = va at *
    generalize s B = vb at *
    by_cases hh : va < vb
    · rw [if_pos hh] at HE
      have CT := Lib.hid (exec_truth true V)
      have tq : decide (va < vb) = true := decide_eq_true hh
      clear hh
      go_wp2_with fail
      refine CT.out.mono ?_
      rintro e w3 ⟨rfl, d3⟩
      have B3 := Lib.hid (below_both BV.out (d3.below _))
      clear d3 CT
      go_wp2_with fail
      go_ret
      exact ⟨.inr ⟨HN.out, ret_int (by rw [HV.out, ← HE.out]; rfl)⟩, B3.out⟩
    · rw [if_neg hh] at HE
      have CT := Lib.hid (exec_truth false V)
      have tq : decide (va < vb) = false := decide_eq_false hh
      clear hh
      go_wp2_with fail
      refine CT.out.mono ?_
      rintro e w3 ⟨rfl, d3⟩
      have B3 := Lib.hid (below_both BV.out (d3.below _))
      clear d3 CT
      go_wp2_with fail
      go_ret
      exact ⟨.inr ⟨HN.out, ret_int (by rw [HV.out, ← HE.out]; rfl)⟩, B3.out⟩
  have t17 : ((op : Int) == 17) = false := by rw [beq_eq_false_iff_ne]; omega
  by_cases e18 : op = 18
  · have HV : Hid (valE n s ⟨op, D, A, B, C, I⟩ = sltN n (s A) (s B)) := by show _ = _; rw [HVK.out 18 e18 (by omega) (by omega)]; rfl
    have HN := Lib.hid (HNT.out (by omega))
    subst e18
    clear HVK HVE HT
    have CC := Lib.hid (bits_Slt n (s A) (s B) V h1 h2 LA64.out LB64.out)
    generalize sltN n (s A) (s B) = r at *
    generalize s A = va at *
    generalize s B = vb at *
    go_wp2_with fail
    refine CC.out.mono ?_
    rintro e w3 ⟨rfl, d3⟩
    have B3 := Lib.hid (below_both BV.out (d3.below _))
    clear d3 CC
    go_wp2_with fail
    go_ret
    exact ⟨.inr ⟨HN.out, ret_int (by rw [HV.out])⟩, B3.out⟩
  have t18 : ((op : Int) == 18) = false := by rw [beq_eq_false_iff_ne]; omega
  obtain rfl : op = 19 := by omega
  have HN := Lib.hid (HNT.out (by omega))
  have HV : Hid (valE n s ⟨((19 : Nat) : Int), D, A, B, C, I⟩ = if s A ≠ 0 then s B else s C) := by show _ = _; rw [HVE.out, if_neg (by omega), if_pos (by omega), Int.toNat_natCast, Int.toNat_natCast, Int.toNat_natCast]
  clear HVK HVE HT
  have CC := Lib.hid (CG2.out C hC)
  by_cases hz : s A = 0
  · have HV2 : Hid (valE n s ⟨((19 : Nat) : Int), D, A, B, C, I⟩ = s C) := by show _ = _; rw [HV.out, if_neg (by rw [hz]; simp)]
    clear HV CG2
    generalize s A = va at *
    generalize s B = vb at *
    generalize s C = vc at *
    have tz : ((va : Int) != 0) = false := by simpa using hz
    clear hz
    go_wp2_with fail
    refine CC.out.mono ?_
    rintro e w3 ⟨rfl, d3⟩
    have B3 := Lib.hid (below_both BV.out (d3.below _))
    clear d3 CC
    go_wp2_with fail
    go_ret
    exact ⟨.inr ⟨HN.out, ret_int (by rw [HV2.out])⟩, B3.out⟩
  · have HV2 : Hid (valE n s ⟨((19 : Nat) : Int), D, A, B, C, I⟩ = s B) := by show _ = _; rw [HV.out, if_pos hz]
    clear HV CG2
    generalize s A = va at *
    generalize s B = vb at *
    have tz : ((va : Int) != 0) = true := by simpa using hz
    clear hz
    go_wp2_with fail
    go_ret
    exact ⟨.inr ⟨HN.out, ret_int (by rw [HV2.out])⟩, BV.out⟩
end Go.Proofs.Sat
