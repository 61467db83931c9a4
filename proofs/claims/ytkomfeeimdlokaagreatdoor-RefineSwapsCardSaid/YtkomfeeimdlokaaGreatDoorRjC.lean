/- The walk of the law RefineChecks. -/
import Derived.Test.YtkomfeeimdlokaaGreatDoorRlD
import Derived.Test.YtkomfeeimdlokaaGreatDoorRgE
import Derived.Test.YtkomfeeimdlokaaGreatDoorRhB
set_option linter.unusedVariables false
set_option linter.unusedSimpArgs false
namespace Go.Proofs.Sat
open Go Go.RowKit
theorem few_lens {c d : Cd} (h : fewB c d = true) : c.ins.length ≤ 10 ∧ d.ins.length ≤ 10 ∧ c.out.length ≤ 20 ∧ d.out.length ≤ 20 := by
  unfold fewB at h
  exact of_decide_eq_true (Bool.and_eq_true_iff.1 h).1
set_option maxRecDepth 20000 in
set_option maxHeartbeats 2000000 in
theorem law_Checks (c d : Cd) (p q : CdAt) (w : World) (hK : IsaT w) (h : CdRd (fun _ => True) w c p) (h' : CdRd (fun _ => True) w d q) (himm : ∀ x ∈ c.ins, 0 ≤ x.imm ∧ x.imm < 18446744073709551616) (himm' : ∀ x ∈ d.ins, 0 ≤ x.imm ∧ x.imm < 18446744073709551616) :
    Calls Tryz.prog 4 #[cdVal c p, cdVal d q] w fun e w' => e = .returned (.bool true) ∧ Below w.heap.size w w' := by
  have CF := Lib.hid (fun W (b : Below w.heap.size w W) => ref53_Few (fun _ => True) c d p q W (h.frame (Same.below b)) (h'.frame (Same.below b)) himm himm')
  have C1 := Lib.hid (fun W (b : Below w.heap.size w W) ho ho' => refine_Check (fun _ => True) c d p q W (hK.below b) (h.frame (Same.below b)) (h'.frame (Same.below b)) ho ho' himm himm')
  have C2 := Lib.hid (fun W (b : Below w.heap.size w W) ho ho' => ref53_Check (fun _ => True) c d p q W (h.frame (Same.below b)) (h'.frame (Same.below b)) ho ho' himm himm')
  have CA := Lib.hid (fun W (b : Below w.heap.size w W) => law53_alive W (hK.below b))
  obtain ⟨ia, ic, oa, oc⟩ := p
  obtain ⟨ja, jc, qa, qc⟩ := q
  have BW := Lib.hid (below_alloc (below_alloc (Below.refl w.heap.size w) (.cells (cellsC c ia ic oa oc) 25)) (.cells (cellsC d ja jc qa qc) 25))
  have KC := Lib.hid (block_alloc (heap_alloc_new w (.cells (cellsC c ia ic oa oc) 25)) (.cells (cellsC d ja jc qa qc) 25))
  have KD := Lib.hid (block_at1 w (.cells (cellsC c ia ic oa oc) 25) (.cells (cellsC d ja jc qa qc) 25))
  clear h h' hK himm himm'
  unfold cdVal
  go_enter Tryz.func4, Tryz.ntmps4
  obtain ⟨z0, z1, z2, z3⟩ := cd_block4 KC.out
  obtain ⟨y0, y1, y2, y3⟩ := cd_block4 KD.out
  have hsz := BW.out.size
  cases hf : fewB c d
  · rw [hf] at CF
    clear hf
    go_wp2_with fail
    refine (CF.out _ BW.out).mono ?_
    rintro e w1 ⟨rfl, b1⟩
    have B1 := Lib.hid (below_both BW.out b1)
    clear b1
    go_wp2_with fail
    refine (CA.out _ B1.out).mono ?_
    rintro e w4 ⟨rfl, b4⟩
    go_wp2_with fail
    go_ret
    exact ⟨rfl, below_both B1.out b4⟩
  have HF := Lib.hid (few_lens hf)
  rw [hf] at CF
  clear hf
  go_wp2_with fail
  refine (CF.out _ BW.out).mono ?_
  rintro e w0 ⟨rfl, b0⟩
  have B0 := Lib.hid (below_both BW.out b0)
  have KC0 := Lib.hid (block_below b0 KC.out)
  have KD0 := Lib.hid (block_below b0 KD.out)
  clear b0 z0 z1 z2 z3 y0 y1 y2 y3 KC KD BW
  obtain ⟨z0, z1, z2, z3⟩ := cd_block4 KC0.out
  obtain ⟨y0, y1, y2, y3⟩ := cd_block4 KD0.out
  go_wp2_with fail
  refine (C1.out _ B0.out HF.out.2.2.1 HF.out.2.2.2).mono ?_
  rintro e w1 ⟨a1, c1, rfl, r1, b1⟩
  have B1 := Lib.hid (below_both B0.out b1)
  have R1 := Lib.hid r1
  have KC1 := Lib.hid (block_below b1 KC0.out)
  have KD1 := Lib.hid (block_below b1 KD0.out)
  clear r1 b1 z0 z1 z2 z3 y0 y1 y2 y3 C1
  obtain ⟨z0, z1, z2, z3⟩ := cd_block4 KC1.out
  obtain ⟨y0, y1, y2, y3⟩ := cd_block4 KD1.out
  go_wp2_with fail
  refine (C2.out _ B1.out HF.out.2.2.1 HF.out.2.2.2).mono ?_
  rintro e w2 ⟨a2, c2, rfl, r2, b2⟩
  have B2 := Lib.hid (below_both B1.out b2)
  have R2 := Lib.hid r2
  have R1' := Lib.hid (R1.out.frame (Same.below b2))
  clear r2 b2 z0 z1 z2 z3 y0 y1 y2 y3 C2
  have CS0 := ref49_Same _ _ a1 a2 c1 c2 (chkS c d) (chkS c d) w2 R1'.out R2.out
  rw [decide_eq_true rfl] at CS0
  have CS := Lib.hid CS0
  clear CS0
  generalize chkS c d = l at *
  generalize stsErr c d = er at *
  cases hb : chkB c d
  · go_wp2_with fail
    refine CS.out.mono ?_
    rintro e w3 ⟨rfl, d3⟩
    have B3 := Lib.hid (B2.out.trans (d3.below _))
    clear d3
    go_wp2_with fail
    refine (CA.out _ B3.out).mono ?_
    rintro e w4 ⟨rfl, b4⟩
    go_wp2_with fail
    go_ret
    exact ⟨rfl, below_both B3.out b4⟩
  · go_wp2_with fail
    refine CS.out.mono ?_
    rintro e w3 ⟨rfl, d3⟩
    have B3 := Lib.hid (B2.out.trans (d3.below _))
    clear d3
    go_wp2_with fail
    refine (CA.out _ B3.out).mono ?_
    rintro e w4 ⟨rfl, b4⟩
    go_wp2_with fail
    go_ret
    exact ⟨rfl, below_both B3.out b4⟩
end Go.Proofs.Sat
