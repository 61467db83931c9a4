/- The walks of lives and light. -/
import Derived.Test.YthffbnfbjjnabaaDoorLvE
set_option linter.unusedVariables false
set_option linter.unusedSimpArgs false
namespace Go.Proofs.Sat
open Go Go.RowKit
def exI (k : Int) : In := ⟨1, 0, 0, 0, 0, k⟩
def exC : Cd := ⟨8, 1, [exI 1, exI 2], [0]⟩
theorem ex_err : cdErr exC = 0 := by decide
theorem ex_d0 : deadL exC 0 = true := by decide
theorem ex_d1 : deadL exC 1 = false := by decide
theorem ex_inp : inpL exC = [] := by decide
theorem ex_rem : remC exC = ⟨8, 1, [exI 2], [0]⟩ := by decide
set_option maxRecDepth 20000 in
set_option maxHeartbeats 2000000 in
theorem law50_light (S : Nat → Prop) (c : Cd) (p : CdAt) (w : World) (h : CdRd S w c p) : Calls Tryd.prog 10 #[cdVal c p] w fun e w' => e = .returned (.bool (decide (c.ins.length ≤ 300 ∧ c.out.length ≤ 20))) ∧ Below w.heap.size w w' := by
  have BW := Lib.hid (below_alloc (Below.refl w.heap.size w) (.cells (cellsC c p.ia p.ic p.oa p.oc) 25))
  have l1 := h.ins.le
  have l2 := h.out.le
  unfold cdVal
  go_enter Tryd.func10, Tryd.ntmps10
  by_cases h1 : c.ins.length ≤ 300
  · have HE : Hid (decide (c.ins.length ≤ 300 ∧ c.out.length ≤ 20) = decide (c.out.length ≤ 20)) := by show _ = _; simp [h1]
    have h1' : (c.ins.length : Int) ≤ 300 := by omega
    by_cases h2 : c.out.length ≤ 20
    · have HE2 : Hid (decide (c.ins.length ≤ 300 ∧ c.out.length ≤ 20) = true) := by show _ = _; simp [h1, h2]
      have h2' : (c.out.length : Int) ≤ 20 := by omega
      go_wp2
      go_ret
      exact ⟨ret_bool (by first | rfl | (rw [HE2.out]; try simp <;> omega)), BW.out⟩
    · have HE2 : Hid (decide (c.ins.length ≤ 300 ∧ c.out.length ≤ 20) = false) := by show _ = _; simp [h2]
      have h2' : ¬ (c.out.length : Int) ≤ 20 := by omega
      go_wp2
      go_ret
      exact ⟨ret_bool (by first | rfl | (rw [HE2.out]; try simp <;> omega)), BW.out⟩
  · have HE2 : Hid (decide (c.ins.length ≤ 300 ∧ c.out.length ≤ 20) = false) := by show _ = _; simp [h1]
    have h1' : ¬ (c.ins.length : Int) ≤ 300 := by omega
    go_wp2
    go_ret
    exact ⟨ret_bool (by first | rfl | (rw [HE2.out]; try simp <;> omega)), BW.out⟩
set_option maxRecDepth 20000 in
set_option maxHeartbeats 4000000 in
theorem law50_lives (w : World) (hK : IsaT w) : Calls Tryd.prog 11 #[] w fun e w' => e = .returned (.bool true) ∧ Below w.heap.size w w' := by
  go_enter Tryd.func11, Tryd.ntmps11
  go_upto_region 2 with fail
  have BW : Hid (Below w.heap.size w (((w.alloc (.cells #[.int .i64 1, .int .i64 0, .int .i64 0, .int .i64 0, .int .i64 0, .int .u64 1, .int .i64 1, .int .i64 0, .int .i64 0, .int .i64 0, .int .i64 0, .int .u64 2] 54)).alloc (.cells #[.int .i64 0] 3)).alloc (.cells (cellsC exC (some ⟨w.heap.size, 0, none⟩) 2 (some ⟨w.heap.size + 1, 0, none⟩) 1) 25))) := below_alloc (below_alloc (below_alloc (Below.refl _ _) _) _) _
  have K0 : Hid ((((w.alloc (.cells #[.int .i64 1, .int .i64 0, .int .i64 0, .int .i64 0, .int .i64 0, .int .u64 1, .int .i64 1, .int .i64 0, .int .i64 0, .int .i64 0, .int .i64 0, .int .u64 2] 54)).alloc (.cells #[.int .i64 0] 3)).alloc (.cells (cellsC exC (some ⟨w.heap.size, 0, none⟩) 2 (some ⟨w.heap.size + 1, 0, none⟩) 1) 25)).heap[w.heap.size]? = some (.cells (inCells (exI 1) ++ (inCells (exI 2) ++ [])).toArray 54 (0, 0))) := block_alloc (block_alloc (heap_alloc_new w _) _) _
  have K1 : Hid ((((w.alloc (.cells #[.int .i64 1, .int .i64 0, .int .i64 0, .int .i64 0, .int .i64 0, .int .u64 1, .int .i64 1, .int .i64 0, .int .i64 0, .int .i64 0, .int .i64 0, .int .u64 2] 54)).alloc (.cells #[.int .i64 0] 3)).alloc (.cells (cellsC exC (some ⟨w.heap.size, 0, none⟩) 2 (some ⟨w.heap.size + 1, 0, none⟩) 1) 25)).heap[w.heap.size + 1]? = some (.cells (([0] : List Int).map (Value.int .i64)).toArray 3 (0, 0))) := block_alloc (block_at1 w _ _) _
  have K2 : Hid ((((w.alloc (.cells #[.int .i64 1, .int .i64 0, .int .i64 0, .int .i64 0, .int .i64 0, .int .u64 1, .int .i64 1, .int .i64 0, .int .i64 0, .int .i64 0, .int .i64 0, .int .u64 2] 54)).alloc (.cells #[.int .i64 0] 3)).alloc (.cells (cellsC exC (some ⟨w.heap.size, 0, none⟩) 2 (some ⟨w.heap.size + 1, 0, none⟩) 1) 25)).heap[w.heap.size + 1 + 1]? = some (.cells (cellsC exC (some ⟨w.heap.size, 0, none⟩) 2 (some ⟨w.heap.size + 1, 0, none⟩) 1) 25 (0, 0))) := block_at2 w _ _ _
  obtain ⟨W0, hW0⟩ : ∃ W0, W0 = (((w.alloc (.cells #[.int .i64 1, .int .i64 0, .int .i64 0, .int .i64 0, .int .i64 0, .int .u64 1, .int .i64 1, .int .i64 0, .int .i64 0, .int .i64 0, .int .i64 0, .int .u64 2] 54)).alloc (.cells #[.int .i64 0] 3)).alloc (.cells (cellsC exC (some ⟨w.heap.size, 0, none⟩) 2 (some ⟨w.heap.size + 1, 0, none⟩) 1) 25)) := ⟨_, rfl⟩
  rw [← hW0] at BW K0 K1 K2
  have HCd : Hid (CdRd (fun _ => True) W0 exC ⟨some ⟨w.heap.size, 0, none⟩, 2, some ⟨w.heap.size + 1, 0, none⟩, 1⟩) :=
    ⟨rd_block K0.out (xs := [exI 1, exI 2]) (.cons (c := inCells (exI 1)) rfl (.cons (c := inCells (exI 2)) rfl .nil)) trivial 2 (by decide) (by decide), rd_block K1.out (elems_vals [0]) trivial 1 (by decide) (by decide)⟩
  change Code.wp _ _ _ _ (((w.alloc (.cells #[.int .i64 1, .int .i64 0, .int .i64 0, .int .i64 0, .int .i64 0, .int .u64 1, .int .i64 1, .int .i64 0, .int .i64 0, .int .i64 0, .int .i64 0, .int .u64 2] 54)).alloc (.cells #[.int .i64 0] 3)).alloc (.cells (cellsC exC (some ⟨w.heap.size, 0, none⟩) 2 (some ⟨w.heap.size + 1, 0, none⟩) 1) 25))
  rw [← hW0]
  clear hW0
  have CR := live_Remove (fun _ => True) exC ⟨some ⟨w.heap.size, 0, none⟩, 2, some ⟨w.heap.size + 1, 0, none⟩, 1⟩ W0 (hK.below BW.out) HCd.out (by decide)
  rw [ex_rem, ex_err] at CR
  replace CR := Lib.hid CR
  have hz : exC.ins.length = 2 := rfl
  obtain ⟨z0, z1, z2, z3⟩ := cd_block4 (v0 := .int .i64 8) (v1 := .int .i64 1) (v2 := .slice (some ⟨w.heap.size, 0, none⟩) 2 2) (v3 := .slice (some ⟨w.heap.size + 1, 0, none⟩) 1 1) K2.out
  go_wp2_with fail
  refine CR.out.mono ?_
  rintro e w3 ⟨⟨a3, n3, b3', m3⟩, rfl, c3, b3⟩
  have A4 := Lib.hid (below_alloc b3 (.cells #[.int .i64 8, .int .i64 1, .slice a3 1 n3, .slice b3' 1 m3] 25))
  have K24 := Lib.hid (block_alloc (block_below b3 K2.out) (.cells #[.int .i64 8, .int .i64 1, .slice a3 1 n3, .slice b3' 1 m3] 25))
  have KD4 := Lib.hid (heap_alloc_new w3 (.cells #[.int .i64 8, .int .i64 1, .slice a3 1 n3, .slice b3' 1 m3] 25))
  have HD4 : Hid (Rd kIn (fun _ => True) (w3.alloc (.cells #[.int .i64 8, .int .i64 1, .slice a3 1 n3, .slice b3' 1 m3] 25)) a3 n3 [exI 2]) := c3.ins.frame (Same.alloc _ _ _)
  clear b3 c3 z0 z1 z2 z3
  obtain ⟨z0, z1, z2, z3⟩ := cd_block4 (v0 := .int .i64 8) (v1 := .int .i64 1) (v2 := .slice (some ⟨w.heap.size, 0, none⟩) 2 2) (v3 := .slice (some ⟨w.heap.size + 1, 0, none⟩) 1 1) K24.out
  have CD0 : Hid (∀ W, Below W0.heap.size W0 W → Calls Tryd.prog 14 #[cdVal exC ⟨some ⟨w.heap.size, 0, none⟩, 2, some ⟨w.heap.size + 1, 0, none⟩, 1⟩, .int .i64 0] W fun e w' => e = .returned (.bool true) ∧ Below W.heap.size W w') := fun W b => by
    have := live_Dead (fun _ => True) exC ⟨some ⟨w.heap.size, 0, none⟩, 2, some ⟨w.heap.size + 1, 0, none⟩, 1⟩ 0 W (hK.below (below_both BW.out b)) (HCd.out.frame (Same.below b))
    rwa [ex_d0] at this
  have CD1 : Hid (∀ W, Below W0.heap.size W0 W → Calls Tryd.prog 14 #[cdVal exC ⟨some ⟨w.heap.size, 0, none⟩, 2, some ⟨w.heap.size + 1, 0, none⟩, 1⟩, .int .i64 1] W fun e w' => e = .returned (.bool false) ∧ Below W.heap.size W w') := fun W b => by
    have := live_Dead (fun _ => True) exC ⟨some ⟨w.heap.size, 0, none⟩, 2, some ⟨w.heap.size + 1, 0, none⟩, 1⟩ 1 W (hK.below (below_both BW.out b)) (HCd.out.frame (Same.below b))
    rwa [ex_d1] at this
  have CI : Hid (∀ W, Below W0.heap.size W0 W → Calls Tryd.prog 18 #[cdVal exC ⟨some ⟨w.heap.size, 0, none⟩, 2, some ⟨w.heap.size + 1, 0, none⟩, 1⟩] W fun e w' => ∃ v, e = .returned v ∧ Own (Kd.int .i64) 3 NoS w' W.heap.size v [] ∧ Below W.heap.size W w') := fun W b => by
    have := live_Inputs (fun _ => True) exC ⟨some ⟨w.heap.size, 0, none⟩, 2, some ⟨w.heap.size + 1, 0, none⟩, 1⟩ W (hK.below (below_both BW.out b)) (HCd.out.frame (Same.below b))
    rwa [ex_inp] at this
  go_wp2_with fail
  refine (CD0.out _ A4.out).mono ?_
  rintro e w5 ⟨rfl, b5⟩
  have A5 := Lib.hid (below_both A4.out b5)
  have K25 := Lib.hid (block_below b5 K24.out)
  have KD5 := Lib.hid (block_below b5 KD4.out)
  have HD5 := Lib.hid (HD4.out.frame (Same.below b5))
  clear b5 z0 z1 z2 z3
  obtain ⟨z0, z1, z2, z3⟩ := cd_block4 (v0 := .int .i64 8) (v1 := .int .i64 1) (v2 := .slice (some ⟨w.heap.size, 0, none⟩) 2 2) (v3 := .slice (some ⟨w.heap.size + 1, 0, none⟩) 1 1) K25.out
  go_wp2_with fail
  refine (CD1.out _ A5.out).mono ?_
  rintro e w6 ⟨rfl, b6⟩
  have A6 := Lib.hid (below_both A5.out b6)
  have K26 := Lib.hid (block_below b6 K25.out)
  have KD6 := Lib.hid (block_below b6 KD5.out)
  have HD6 := Lib.hid (HD5.out.frame (Same.below b6))
  clear b6 z0 z1 z2 z3
  obtain ⟨z0, z1, z2, z3⟩ := cd_block4 (v0 := .int .i64 8) (v1 := .int .i64 1) (v2 := .slice (some ⟨w.heap.size, 0, none⟩) 2 2) (v3 := .slice (some ⟨w.heap.size + 1, 0, none⟩) 1 1) K26.out
  go_wp2_with fail
  refine (CI.out _ A6.out).mono ?_
  rintro e w7 ⟨v7, rfl, o7, b7⟩
  obtain ⟨a7, c7, rfl⟩ := o7.form
  clear o7
  have A7 := Lib.hid (below_both A6.out b7)
  have K27 := Lib.hid (block_below b7 K26.out)
  have KD7 := Lib.hid (block_below b7 KD6.out)
  have HD7 := Lib.hid (HD6.out.frame (Same.below b7))
  clear b7 z0 z1 z2 z3
  obtain ⟨z0, z1, z2, z3⟩ := cd_block4 (v0 := .int .i64 8) (v1 := .int .i64 1) (v2 := .slice (some ⟨w.heap.size, 0, none⟩) 2 2) (v3 := .slice (some ⟨w.heap.size + 1, 0, none⟩) 1 1) K27.out
  obtain ⟨q0, q1, q2, q3⟩ := cd_block4 KD7.out
  obtain ⟨b, o, rfl, -, -, hat⟩ := in_elem HD7.out (j := 0) (by decide)
  obtain ⟨c0, c1, c2, c3, c4, c5⟩ := hat
  have c5' : w7.cell? ⟨b, o + 5, none⟩ = some (.int .u64 2) := by simpa [exI] using c5
  clear c0 c1 c2 c3 c4 c5
  go_wp2_with fail
  go_ret
  exact ⟨rfl, below_both BW.out A7.out⟩
end Go.Proofs.Sat
