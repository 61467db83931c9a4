/- The walk of the law RefineStates. -/
import Derived.Test.YtkomfeeimdlokaaGreatDoorR9B
import Derived.Test.YtkomfeeimdlokaaGreatDoorRhA
set_option linter.unusedVariables false
set_option linter.unusedSimpArgs false
namespace Go.Proofs.Sat
open Go Go.RowKit
set_option maxRecDepth 20000 in
set_option maxHeartbeats 2000000 in
theorem law_States (c d : Cd) (p q : CdAt) (w : World) (hK : IsaT w) (h : CdRd (fun _ => True) w c p) (h' : CdRd (fun _ => True) w d q) (himm : ∀ x ∈ c.ins, 0 ≤ x.imm ∧ x.imm < 18446744073709551616) (himm' : ∀ x ∈ d.ins, 0 ≤ x.imm ∧ x.imm < 18446744073709551616) :
    Calls Tryz.prog 3 #[cdVal c p, cdVal d q] w fun e w' => e = .returned (.bool true) ∧ Below w.heap.size w w' := by
  have C1 := Lib.hid (fun W (b : Below w.heap.size w W) => refine_States (fun _ => True) c d p q W (hK.below b) (h.frame (Same.below b)) (h'.frame (Same.below b)))
  have C2 := Lib.hid (fun W (b : Below w.heap.size w W) => ref53_States (fun _ => True) c d p q W (h.frame (Same.below b)) (h'.frame (Same.below b)) himm himm')
  have CA := Lib.hid (fun W (b : Below w.heap.size w W) => law53_alive W (hK.below b))
  obtain ⟨ia, ic, oa, oc⟩ := p
  obtain ⟨ja, jc, qa, qc⟩ := q
  have BW := Lib.hid (below_alloc (below_alloc (Below.refl w.heap.size w) (.cells (cellsC c ia ic oa oc) 25)) (.cells (cellsC d ja jc qa qc) 25))
  have KC := Lib.hid (block_alloc (heap_alloc_new w (.cells (cellsC c ia ic oa oc) 25)) (.cells (cellsC d ja jc qa qc) 25))
  have KD := Lib.hid (block_at1 w (.cells (cellsC c ia ic oa oc) 25) (.cells (cellsC d ja jc qa qc) 25))
  have hol := h.out.le
  have hil := h.ins.le
  have hql := h'.out.le
  have hjl := h'.ins.le
  clear h h' hK himm himm'
  unfold cdVal
  go_enter Tryz.func3, Tryz.ntmps3
  obtain ⟨z0, z1, z2, z3⟩ := cd_block4 KC.out
  obtain ⟨y0, y1, y2, y3⟩ := cd_block4 KD.out
  have hsz := BW.out.size
  by_cases h1 : 10 < c.ins.length
  · have t0 : decide ((c.ins.length : Int) > 10) = true := decide_eq_true (by omega)
    have t0' : decide ((10 : Int) < (c.ins.length : Int)) = true := decide_eq_true (by omega)
    clear h1
    go_wp2_with fail
    refine (CA.out _ BW.out).mono ?_
    rintro e w4 ⟨rfl, b4⟩
    go_wp2_with fail
    go_ret
    exact ⟨rfl, below_both BW.out b4⟩
  have t1 : decide ((c.ins.length : Int) > 10) = false := decide_eq_false (by omega)
  have t1' : decide ((10 : Int) < (c.ins.length : Int)) = false := decide_eq_false (by omega)
  by_cases h2 : 10 < d.ins.length
  · have t0 : decide ((d.ins.length : Int) > 10) = true := decide_eq_true (by omega)
    have t0' : decide ((10 : Int) < (d.ins.length : Int)) = true := decide_eq_true (by omega)
    clear h1 h2
    go_wp2_with fail
    refine (CA.out _ BW.out).mono ?_
    rintro e w4 ⟨rfl, b4⟩
    go_wp2_with fail
    go_ret
    exact ⟨rfl, below_both BW.out b4⟩
  have t2 : decide ((d.ins.length : Int) > 10) = false := decide_eq_false (by omega)
  have t2' : decide ((10 : Int) < (d.ins.length : Int)) = false := decide_eq_false (by omega)
  by_cases h3 : 20 < c.out.length
  · have t0 : decide ((c.out.length : Int) > 20) = true := decide_eq_true (by omega)
    have t0' : decide ((20 : Int) < (c.out.length : Int)) = true := decide_eq_true (by omega)
    clear h1 h2 h3
    go_wp2_with fail
    refine (CA.out _ BW.out).mono ?_
    rintro e w4 ⟨rfl, b4⟩
    go_wp2_with fail
    go_ret
    exact ⟨rfl, below_both BW.out b4⟩
  have t3 : decide ((c.out.length : Int) > 20) = false := decide_eq_false (by omega)
  have t3' : decide ((20 : Int) < (c.out.length : Int)) = false := decide_eq_false (by omega)
  by_cases h4 : 20 < d.out.length
  · have t0 : decide ((d.out.length : Int) > 20) = true := decide_eq_true (by omega)
    have t0' : decide ((20 : Int) < (d.out.length : Int)) = true := decide_eq_true (by omega)
    clear h1 h2 h3 h4
    go_wp2_with fail
    refine (CA.out _ BW.out).mono ?_
    rintro e w4 ⟨rfl, b4⟩
    go_wp2_with fail
    go_ret
    exact ⟨rfl, below_both BW.out b4⟩
  have t4 : decide ((d.out.length : Int) > 20) = false := decide_eq_false (by omega)
  have t4' : decide ((20 : Int) < (d.out.length : Int)) = false := decide_eq_false (by omega)
  clear h1 h2 h3 h4
  go_wp2_with fail
  refine (C1.out _ BW.out).mono ?_
  rintro e w1 ⟨v1, rfl, o1, b1⟩
  have B1 := Lib.hid (below_both BW.out b1)
  have O1 := Lib.hid o1
  have KC1 := Lib.hid (block_below b1 KC.out)
  have KD1 := Lib.hid (block_below b1 KD.out)
  obtain ⟨a1, c1, rfl⟩ := o1.form
  clear o1 b1 z0 z1 z2 z3 y0 y1 y2 y3 C1
  obtain ⟨z0, z1, z2, z3⟩ := cd_block4 KC1.out
  obtain ⟨y0, y1, y2, y3⟩ := cd_block4 KD1.out
  go_wp2_with fail
  refine (C2.out _ B1.out).mono ?_
  rintro e w2 ⟨v2, rfl, o2, b2⟩
  have B2 := Lib.hid (below_both B1.out b2)
  have O2 := Lib.hid o2
  have R1 := Lib.hid ((O1.out.below b2).rd')
  obtain ⟨a2, c2, rfl⟩ := o2.form
  have R2 := Lib.hid (O2.out.rd')
  clear o2 b2 z0 z1 z2 z3 y0 y1 y2 y3 C2
  have CS0 := ref02_SameInts _ _ a1 a2 c1 c2 (stsL c d) (stsL c d) w2 R1.out R2.out
  rw [decide_eq_true rfl] at CS0
  have CS := Lib.hid CS0
  clear CS0
  generalize stsL c d = l at *
  generalize stsErr c d = er at *
  generalize stsN c d = n at *
  go_wp2_with fail
  refine CS.out.mono ?_
  rintro e w3 ⟨rfl, d3⟩
  have B3 := Lib.hid (B2.out.trans (d3.below _))
  clear d3
  go_wp2_with fail
  refine (CA.out _ B3.out).mono ?_
  rintro e w4 ⟨rfl, b4⟩
  go_wp2_with fail
  go_ret
  exact ⟨rfl, below_both B3.out b4⟩
end Go.Proofs.Sat
