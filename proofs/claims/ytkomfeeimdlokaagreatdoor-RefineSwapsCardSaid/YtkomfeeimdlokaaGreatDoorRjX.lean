/- The walk of the law RefineSwaps. -/
import Derived.Test.YtkomfeeimdlokaaGreatDoorRmB
import Derived.Test.YtkomfeeimdlokaaGreatDoorRhB
import Derived.Test.YtkomfeeimdlokaaGreatDoorRjO
import Derived.Test.YtkomfeeimdlokaaGreatDoorOps4
import Derived.Deep.RegionLaw
set_option linter.unusedVariables false
set_option linter.unusedSimpArgs false
namespace Go.Proofs.Sat
open Go Go.RowKit
set_option maxRecDepth 20000 in
set_option maxHeartbeats 8000000 in
theorem law_Swaps (f c d : Cd) (p q r : CdAt) (w : World) (hK : IsaT w) (h : CdRd (fun _ => True) w f p) (h' : CdRd (fun _ => True) w c q) (h'' : CdRd (fun _ => True) w d r) (imf : ∀ x ∈ f.ins, 0 ≤ x.imm ∧ x.imm < 18446744073709551616) (imc : ∀ x ∈ c.ins, 0 ≤ x.imm ∧ x.imm < 18446744073709551616) (imd : ∀ x ∈ d.ins, 0 ≤ x.imm ∧ x.imm < 18446744073709551616) :
    Calls Tryz.prog 6 #[cdVal f p, cdVal c q, cdVal d r] w fun e w' => e = .returned (.bool true) ∧ Below w.heap.size w w' := by
  have CA := Lib.hid (fun W (b' : Below w.heap.size w W) => law53_alive W (hK.below b'))
  have HKT := Lib.hid hK
  have HF := Lib.hid h
  have HC := Lib.hid h'
  have HD := Lib.hid h''
  have IMF := Lib.hid imf
  have IMC := Lib.hid imc
  have IMD := Lib.hid imd
  have hfl := h.ins.le
  have hcl := h'.ins.le
  have hdl := h''.ins.le
  have hfo := h.out.le
  have hco := h'.out.le
  have hdo := h''.out.le
  clear h h' h'' hK imf imc imd
  obtain ⟨ia, ic, oa, oc⟩ := p
  obtain ⟨ja, jc, qa, qc⟩ := q
  obtain ⟨ka, kc, ra, rc⟩ := r
  have B0 := Lib.hid (below_alloc (below_alloc (below_alloc (Below.refl w.heap.size w) (.cells (cellsC f ia ic oa oc) 25)) (.cells (cellsC c ja jc qa qc) 25)) (.cells (cellsC d ka kc ra rc) 25))
  have KF0 := Lib.hid (block_alloc (block_alloc (heap_alloc_new w (.cells (cellsC f ia ic oa oc) 25)) (.cells (cellsC c ja jc qa qc) 25)) (.cells (cellsC d ka kc ra rc) 25))
  have KC0 := Lib.hid (block_alloc (block_at1 w (.cells (cellsC f ia ic oa oc) 25) (.cells (cellsC c ja jc qa qc) 25)) (.cells (cellsC d ka kc ra rc) 25))
  have KD0 := Lib.hid (block_at2 w (.cells (cellsC f ia ic oa oc) 25) (.cells (cellsC c ja jc qa qc) 25) (.cells (cellsC d ka kc ra rc) 25))
  have HSZ0 : Hid ((((w.alloc (.cells (cellsC f ia ic oa oc) 25)).alloc (.cells (cellsC c ja jc qa qc) 25)).alloc (.cells (cellsC d ka kc ra rc) 25)).heap.size = w.heap.size + 3) := by show _ = _; simp
  unfold cdVal
  go_enter Tryz.func6, Tryz.ntmps6
  obtain ⟨xf0, xf1, xf2, xf3⟩ := cd_block4 KF0.out
  obtain ⟨xc0, xc1, xc2, xc3⟩ := cd_block4 KC0.out
  obtain ⟨xd0, xd1, xd2, xd3⟩ := cd_block4 KD0.out
  by_cases h1 : 5 < f.ins.length
  · have t0 : decide ((f.ins.length : Int) > 5) = true := decide_eq_true (by omega)
    have t0' : decide ((5 : Int) < (f.ins.length : Int)) = true := decide_eq_true (by omega)
    clear h1
    go_wp2_with fail
    refine (CA.out _ B0.out).mono ?_
    rintro e wz ⟨rfl, bz⟩
    go_wp2_with fail
    go_ret
    exact ⟨rfl, below_both B0.out bz⟩
  have t1 : decide ((f.ins.length : Int) > 5) = false := decide_eq_false (by omega)
  have t1' : decide ((5 : Int) < (f.ins.length : Int)) = false := decide_eq_false (by omega)
  by_cases h2 : 5 < c.ins.length
  · have t0 : decide ((c.ins.length : Int) > 5) = true := decide_eq_true (by omega)
    have t0' : decide ((5 : Int) < (c.ins.length : Int)) = true := decide_eq_true (by omega)
    clear h1 h2
    go_wp2_with fail
    refine (CA.out _ B0.out).mono ?_
    rintro e wz ⟨rfl, bz⟩
    go_wp2_with fail
    go_ret
    exact ⟨rfl, below_both B0.out bz⟩
  have t2 : decide ((c.ins.length : Int) > 5) = false := decide_eq_false (by omega)
  have t2' : decide ((5 : Int) < (c.ins.length : Int)) = false := decide_eq_false (by omega)
  by_cases h3 : 5 < d.ins.length
  · have t0 : decide ((d.ins.length : Int) > 5) = true := decide_eq_true (by omega)
    have t0' : decide ((5 : Int) < (d.ins.length : Int)) = true := decide_eq_true (by omega)
    clear h1 h2 h3
    go_wp2_with fail
    refine (CA.out _ B0.out).mono ?_
    rintro e wz ⟨rfl, bz⟩
    go_wp2_with fail
    go_ret
    exact ⟨rfl, below_both B0.out bz⟩
  have t3 : decide ((d.ins.length : Int) > 5) = false := decide_eq_false (by omega)
  have t3' : decide ((5 : Int) < (d.ins.length : Int)) = false := decide_eq_false (by omega)
  have HLEN := Lib.hid (show f.ins.length ≤ 5 ∧ c.ins.length ≤ 5 ∧ d.ins.length ≤ 5 from ⟨by omega, by omega, by omega⟩)
  clear h1 h2 h3
  by_cases h4 : f.width = c.width
  case neg =>
    have t0 : (f.width != c.width) = true := by simpa using h4
    clear h4
    go_wp2_with fail
    refine (CA.out _ B0.out).mono ?_
    rintro e wz ⟨rfl, bz⟩
    go_wp2_with fail
    go_ret
    exact ⟨rfl, below_both B0.out bz⟩
  have t4 : (f.width != c.width) = false := by simpa using h4
  have HWIDTH := Lib.hid h4
  clear h4
  by_cases h5 : f.regs = c.regs
  case neg =>
    have t0 : (f.regs != c.regs) = true := by simpa using h5
    clear h5
    go_wp2_with fail
    refine (CA.out _ B0.out).mono ?_
    rintro e wz ⟨rfl, bz⟩
    go_wp2_with fail
    go_ret
    exact ⟨rfl, below_both B0.out bz⟩
  have t5 : (f.regs != c.regs) = false := by simpa using h5
  have HREGS := Lib.hid h5
  clear h5
  have B1 := Lib.hid (below_alloc B0.out (.cells #[.int .i64 0, .int .i64 1, .int .i64 2, .int .i64 3, .int .i64 4, .int .i64 5, .int .i64 6, .int .i64 7] 3))
  have KF1 := Lib.hid (block_alloc KF0.out (.cells #[.int .i64 0, .int .i64 1, .int .i64 2, .int .i64 3, .int .i64 4, .int .i64 5, .int .i64 6, .int .i64 7] 3))
  have KC1 := Lib.hid (block_alloc KC0.out (.cells #[.int .i64 0, .int .i64 1, .int .i64 2, .int .i64 3, .int .i64 4, .int .i64 5, .int .i64 6, .int .i64 7] 3))
  have KD1 := Lib.hid (block_alloc KD0.out (.cells #[.int .i64 0, .int .i64 1, .int .i64 2, .int .i64 3, .int .i64 4, .int .i64 5, .int .i64 6, .int .i64 7] 3))
  have KL1 : Hid (((((w.alloc (.cells (cellsC f ia ic oa oc) 25)).alloc (.cells (cellsC c ja jc qa qc) 25)).alloc (.cells (cellsC d ka kc ra rc) 25)).alloc (.cells #[.int .i64 0, .int .i64 1, .int .i64 2, .int .i64 3, .int .i64 4, .int .i64 5, .int .i64 6, .int .i64 7] 3)).heap[w.heap.size + 1 + 1 + 1]? = some (.cells #[.int .i64 0, .int .i64 1, .int .i64 2, .int .i64 3, .int .i64 4, .int .i64 5, .int .i64 6, .int .i64 7] 3 (0, 0))) := by
    have h := heap_alloc_new (((w.alloc (.cells (cellsC f ia ic oa oc) 25)).alloc (.cells (cellsC c ja jc qa qc) 25)).alloc (.cells (cellsC d ka kc ra rc) 25)) (.cells #[.int .i64 0, .int .i64 1, .int .i64 2, .int .i64 3, .int .i64 4, .int .i64 5, .int .i64 6, .int .i64 7] 3)
    rw [HSZ0.out] at h
    exact h
  have HSZ1 : Hid (((((w.alloc (.cells (cellsC f ia ic oa oc) 25)).alloc (.cells (cellsC c ja jc qa qc) 25)).alloc (.cells (cellsC d ka kc ra rc) 25)).alloc (.cells #[.int .i64 0, .int .i64 1, .int .i64 2, .int .i64 3, .int .i64 4, .int .i64 5, .int .i64 6, .int .i64 7] 3)).heap.size = w.heap.size + 4) := by show _ = _; simp [HSZ0.out]
  by_cases h6 : c.regs < 1
  · have t0 : decide (c.regs < 1) = true := decide_eq_true (by omega)
    clear h6
    go_wp2_with fail
    refine (CA.out _ B1.out).mono ?_
    rintro e wz ⟨rfl, bz⟩
    go_wp2_with fail
    go_ret
    exact ⟨rfl, below_both B1.out bz⟩
  have t6 : decide (c.regs < 1) = false := decide_eq_false (by omega)
  by_cases h7 : 8 < c.regs
  · have t0 : decide (8 < c.regs) = true := decide_eq_true (by omega)
    have t0' : decide (c.regs > 8) = true := decide_eq_true (by omega)
    clear h6 h7
    go_wp2_with fail
    refine (CA.out _ B1.out).mono ?_
    rintro e wz ⟨rfl, bz⟩
    go_wp2_with fail
    go_ret
    exact ⟨rfl, below_both B1.out bz⟩
  have t7 : decide (8 < c.regs) = false := decide_eq_false (by omega)
  have t7' : decide (c.regs > 8) = false := decide_eq_false (by omega)
  obtain ⟨R, hR⟩ := Int.eq_ofNat_of_zero_le (show 0 ≤ c.regs by omega)
  have HRR := Lib.hid hR
  have hR8 : R ≤ 8 := by omega
  have hR1 : 1 ≤ R := by omega
  obtain ⟨AR, hcut, hAR⟩ := cut_to (Kd.int .i64) infoInt rfl (some ⟨w.heap.size + 1 + 1 + 1, 0, none⟩) 8 8 R c.regs hR (by omega)
  have HAR := Lib.hid hAR
  clear hAR hR h6 h7
  go_upto_region 6 with fail
  obtain ⟨w1, hw1⟩ : ∃ w1, w1 = (((w.alloc (.cells (cellsC f ia ic oa oc) 25)).alloc (.cells (cellsC c ja jc qa qc) 25)).alloc (.cells (cellsC d ka kc ra rc) 25)).alloc (.cells #[.int .i64 0, .int .i64 1, .int .i64 2, .int .i64 3, .int .i64 4, .int .i64 5, .int .i64 6, .int .i64 7] 3) := ⟨_, rfl⟩
  rw [← hw1] at B1 KF1 KC1 KD1 KL1 HSZ1
  change Code.wp _ _ _ _ ((((w.alloc (.cells (cellsC f ia ic oa oc) 25)).alloc (.cells (cellsC c ja jc qa qc) 25)).alloc (.cells (cellsC d ka kc ra rc) 25)).alloc (.cells #[.int .i64 0, .int .i64 1, .int .i64 2, .int .i64 3, .int .i64 4, .int .i64 5, .int .i64 6, .int .i64 7] 3))
  rw [← hw1]
  clear hw1 HSZ0 B0 KF0 KC0 KD0
  clear xf0 xf1 xf2 xf3 xc0 xc1 xc2 xc3 xd0 xd1 xd2 xd3
  obtain ⟨xf0, xf1, xf2, xf3⟩ := cd_block4 KF1.out
  obtain ⟨xc0, xc1, xc2, xc3⟩ := cd_block4 KC1.out
  obtain ⟨xd0, xd1, xd2, xd3⟩ := cd_block4 KD1.out
  go_cut [8] (fun s wx => s = .pointer (some ⟨w1.heap.size, 0, none⟩) ∧ Hid (wx.heap[w1.heap.size]? = some (.cells #[.int .i64 c.width, .int .i64 c.regs, .slice ja c.ins.length jc, .slice AR R 8] 25 (0, 0))) ∧ Hid (wx.heap.size = w1.heap.size + 1) ∧ Hid (Below w1.heap.size w1 wx))
  case first =>
    have hlt1 := (Array.getElem?_eq_some_iff.1 KL1.out).1
    have vc0 : ∀ ob, (w1.alloc ob).cell? ⟨w.heap.size + 1, 0, none⟩ = some (.int .i64 c.width) := fun ob => (World.cell?_of_block (Below.heap_alloc w1 ob _ (by show w.heap.size + 1 < _; omega))).trans xc0
    have vc1 : ∀ ob, (w1.alloc ob).cell? ⟨w.heap.size + 1, 1, none⟩ = some (.int .i64 c.regs) := fun ob => (World.cell?_of_block (Below.heap_alloc w1 ob _ (by show w.heap.size + 1 < _; omega))).trans xc1
    have vc2 : ∀ ob, (w1.alloc ob).cell? ⟨w.heap.size + 1, 2, none⟩ = some (.slice ja c.ins.length jc) := fun ob => (World.cell?_of_block (Below.heap_alloc w1 ob _ (by show w.heap.size + 1 < _; omega))).trans xc2
    have vc3 : ∀ ob, (w1.alloc ob).cell? ⟨w.heap.size + 1, 3, none⟩ = some (.slice qa c.out.length qc) := fun ob => (World.cell?_of_block (Below.heap_alloc w1 ob _ (by show w.heap.size + 1 < _; omega))).trans xc3
    go_region_held3 (fun w' => w'.cell? ⟨w.heap.size + 1, 0, none⟩ = some (.int .i64 c.width) ∧ w'.cell? ⟨w.heap.size + 1, 1, none⟩ = some (.int .i64 c.regs) ∧ w'.cell? ⟨w.heap.size + 1, 2, none⟩ = some (.slice ja c.ins.length jc))
      (first | exact ⟨vc0 _, vc1 _, vc2 _⟩ | exact ⟨xc0, xc1, xc2⟩)
      (first | fail | fail)
    go_wp2_with fail
    go_meet
    case rel => exact ⟨rfl, (Drawn.refl _).drew.heap (heap_alloc_new w1 _), by show _ = _; simp, (below_alloc (Below.refl w1.heap.size w1) _).trans ((Drawn.refl _).drew.below _)⟩
  case rest =>
    obtain ⟨rfl, KN, HSZ, BN⟩ := hcut
    obtain ⟨w2, hw2⟩ : ∃ w2, w2 = wc := ⟨_, rfl⟩
    subst hw2
    have B2 := Lib.hid (below_both B1.out BN.out)
    have KF2 := Lib.hid (block_below BN.out KF1.out)
    have KC2 := Lib.hid (block_below BN.out KC1.out)
    have KD2 := Lib.hid (block_below BN.out KD1.out)
    have KL2 := Lib.hid (block_below BN.out KL1.out)
    have KA2 := KN
    have HSZ2 : Hid (w2.heap.size = w.heap.size + 5) := by show _ = _; have h1 := HSZ.out; have h2 := HSZ1.out; omega
    rw [HSZ1.out] at KA2
    clear KN BN HSZ 
    clear xf0 xf1 xf2 xf3 xc0 xc1 xc2 xc3 xd0 xd1 xd2 xd3
    obtain ⟨xf0, xf1, xf2, xf3⟩ := cd_block4 KF2.out
    obtain ⟨xc0, xc1, xc2, xc3⟩ := cd_block4 KC2.out
    obtain ⟨xd0, xd1, xd2, xd3⟩ := cd_block4 KD2.out
    rw [HSZ1.out]
    go_upto_region 7 with fail
    go_cut [9] (fun s wx => s = .pointer (some ⟨w2.heap.size, 0, none⟩) ∧ Hid (wx.heap[w2.heap.size]? = some (.cells #[.int .i64 d.width, .int .i64 d.regs, .slice ka d.ins.length kc, .slice AR R 8] 25 (0, 0))) ∧ Hid (wx.heap.size = w2.heap.size + 1) ∧ Hid (Below w2.heap.size w2 wx))
    case first =>
      have hlt2 : w.heap.size + 3 < w2.heap.size := by have := HSZ2.out; omega
      have vc0 : ∀ ob, (w2.alloc ob).cell? ⟨w.heap.size + 1, 0, none⟩ = some (.int .i64 c.width) := fun ob => (World.cell?_of_block (Below.heap_alloc w2 ob _ (by show w.heap.size + 1 < _; omega))).trans xc0
      have vc1 : ∀ ob, (w2.alloc ob).cell? ⟨w.heap.size + 1, 1, none⟩ = some (.int .i64 c.regs) := fun ob => (World.cell?_of_block (Below.heap_alloc w2 ob _ (by show w.heap.size + 1 < _; omega))).trans xc1
      have vc2 : ∀ ob, (w2.alloc ob).cell? ⟨w.heap.size + 1, 2, none⟩ = some (.slice ja c.ins.length jc) := fun ob => (World.cell?_of_block (Below.heap_alloc w2 ob _ (by show w.heap.size + 1 < _; omega))).trans xc2
      have vc3 : ∀ ob, (w2.alloc ob).cell? ⟨w.heap.size + 1, 3, none⟩ = some (.slice qa c.out.length qc) := fun ob => (World.cell?_of_block (Below.heap_alloc w2 ob _ (by show w.heap.size + 1 < _; omega))).trans xc3
      have vd0 : ∀ ob, (w2.alloc ob).cell? ⟨w.heap.size + 1 + 1, 0, none⟩ = some (.int .i64 d.width) := fun ob => (World.cell?_of_block (Below.heap_alloc w2 ob _ (by show w.heap.size + 1 + 1 < _; omega))).trans xd0
      have vd1 : ∀ ob, (w2.alloc ob).cell? ⟨w.heap.size + 1 + 1, 1, none⟩ = some (.int .i64 d.regs) := fun ob => (World.cell?_of_block (Below.heap_alloc w2 ob _ (by show w.heap.size + 1 + 1 < _; omega))).trans xd1
      have vd2 : ∀ ob, (w2.alloc ob).cell? ⟨w.heap.size + 1 + 1, 2, none⟩ = some (.slice ka d.ins.length kc) := fun ob => (World.cell?_of_block (Below.heap_alloc w2 ob _ (by show w.heap.size + 1 + 1 < _; omega))).trans xd2
      have vd3 : ∀ ob, (w2.alloc ob).cell? ⟨w.heap.size + 1 + 1, 3, none⟩ = some (.slice ra d.out.length rc) := fun ob => (World.cell?_of_block (Below.heap_alloc w2 ob _ (by show w.heap.size + 1 + 1 < _; omega))).trans xd3
      go_region_held3 (fun w' => w'.cell? ⟨w.heap.size + 1 + 1, 0, none⟩ = some (.int .i64 d.width) ∧ w'.cell? ⟨w.heap.size + 1 + 1, 1, none⟩ = some (.int .i64 d.regs) ∧ w'.cell? ⟨w.heap.size + 1 + 1, 2, none⟩ = some (.slice ka d.ins.length kc) ∧ w'.cell? ⟨w.heap.size + 1, 1, none⟩ = some (.int .i64 c.regs))
        (first | exact ⟨vd0 _, vd1 _, vd2 _, vc1 _⟩ | exact ⟨xd0, xd1, xd2, xc1⟩)
        (first | fail | fail)
      go_wp2_with fail
      go_meet
      case rel => exact ⟨rfl, (Drawn.refl _).drew.heap (heap_alloc_new w2 _), by show _ = _; simp, (below_alloc (Below.refl w2.heap.size w2) _).trans ((Drawn.refl _).drew.below _)⟩
    case rest =>
      obtain ⟨rfl, KN, HSZ, BN⟩ := hcut
      obtain ⟨w3, hw3⟩ : ∃ w3, w3 = wc := ⟨_, rfl⟩
      subst hw3
      have B3 := Lib.hid (below_both B2.out BN.out)
      have KF3 := Lib.hid (block_below BN.out KF2.out)
      have KC3 := Lib.hid (block_below BN.out KC2.out)
      have KD3 := Lib.hid (block_below BN.out KD2.out)
      have KL3 := Lib.hid (block_below BN.out KL2.out)
      have KA3 := Lib.hid (block_below BN.out KA2.out)
      have KB3 := KN
      have HSZ3 : Hid (w3.heap.size = w.heap.size + 6) := by show _ = _; have h1 := HSZ.out; have h2 := HSZ2.out; omega
      rw [HSZ2.out] at KB3
      clear KN BN HSZ 
      clear xf0 xf1 xf2 xf3 xc0 xc1 xc2 xc3 xd0 xd1 xd2 xd3
      obtain ⟨xf0, xf1, xf2, xf3⟩ := cd_block4 KF3.out
      obtain ⟨xc0, xc1, xc2, xc3⟩ := cd_block4 KC3.out
      obtain ⟨xd0, xd1, xd2, xd3⟩ := cd_block4 KD3.out
      rw [HSZ2.out]
      have B4 := Lib.hid (below_alloc B3.out (.cells #[.int .i64 c.width, .int .i64 c.regs, .slice none 0 0, .slice qa c.out.length qc] 25))
      have KF4 := Lib.hid (block_alloc KF3.out (.cells #[.int .i64 c.width, .int .i64 c.regs, .slice none 0 0, .slice qa c.out.length qc] 25))
      have KC4 := Lib.hid (block_alloc KC3.out (.cells #[.int .i64 c.width, .int .i64 c.regs, .slice none 0 0, .slice qa c.out.length qc] 25))
      have KD4 := Lib.hid (block_alloc KD3.out (.cells #[.int .i64 c.width, .int .i64 c.regs, .slice none 0 0, .slice qa c.out.length qc] 25))
      have KL4 := Lib.hid (block_alloc KL3.out (.cells #[.int .i64 c.width, .int .i64 c.regs, .slice none 0 0, .slice qa c.out.length qc] 25))
      have KA4 := Lib.hid (block_alloc KA3.out (.cells #[.int .i64 c.width, .int .i64 c.regs, .slice none 0 0, .slice qa c.out.length qc] 25))
      have KB4 := Lib.hid (block_alloc KB3.out (.cells #[.int .i64 c.width, .int .i64 c.regs, .slice none 0 0, .slice qa c.out.length qc] 25))
      have KX4 := Lib.hid (heap_alloc_new w3 (.cells #[.int .i64 c.width, .int .i64 c.regs, .slice none 0 0, .slice qa c.out.length qc] 25))
      rw [HSZ3.out] at KX4
      have HSZ4 : Hid ((w3.alloc (.cells #[.int .i64 c.width, .int .i64 c.regs, .slice none 0 0, .slice qa c.out.length qc] 25)).heap.size = w.heap.size + 7) := by show _ = _; simp [HSZ3.out]
      go_upto_region 9 with fail
      obtain ⟨w4, hw4⟩ : ∃ w4, w4 = w3.alloc (.cells #[.int .i64 c.width, .int .i64 c.regs, .slice none 0 0, .slice qa c.out.length qc] 25) := ⟨_, rfl⟩
      rw [← hw4] at B4 KF4 KC4 KD4 KL4 KA4 KB4 KX4 HSZ4
      change Code.wp _ _ _ _ (w3.alloc (.cells #[.int .i64 c.width, .int .i64 c.regs, .slice none 0 0, .slice qa c.out.length qc] 25))
      rw [← hw4, HSZ3.out]
      clear hw4
      clear xf0 xf1 xf2 xf3 xc0 xc1 xc2 xc3 xd0 xd1 xd2 xd3
      obtain ⟨xf0, xf1, xf2, xf3⟩ := cd_block4 KF4.out
      obtain ⟨xc0, xc1, xc2, xc3⟩ := cd_block4 KC4.out
      obtain ⟨xd0, xd1, xd2, xd3⟩ := cd_block4 KD4.out
      have HPOS := HSZ4
      go_cut [] (fun wx => ∃ (va : Option Addr) (vc : Nat), Hid (wx.heap[w.heap.size + 6]? = some (.cells #[.int .i64 c.width, .int .i64 c.regs, .slice va (f.ins.length + c.ins.length) vc, .slice qa c.out.length qc] 25 (0, 0))) ∧ Hid (Own kIn 50 NoS wx w4.heap.size (.slice va (f.ins.length + c.ins.length) vc) (f.ins ++ c.ins)) ∧ Hid (∀ b, b ≠ w.heap.size + 6 → b < w4.heap.size → wx.heap[b]? = w4.heap[b]?) ∧ Hid (w4.heap.size ≤ wx.heap.size) ∧ Hid (Below w.heap.size w wx))
      case first =>
        obtain ⟨g0, g1, g2, g3⟩ := cd_block4 KX4.out
        have HF4 := Lib.hid ((HF.out.ins.frame (Same.below B4.out)).frame (Same.drewN _ w4 1))
        have HC4 := Lib.hid ((HC.out.ins.frame (Same.below B4.out)).frame (Same.drewN _ w4 1))
        have hl5 := HLEN.out
        go_region_law
          (first
          | ((with_reducible refine gate_s (.tmp 89) (.tmp 91) rfl ?_)
             refine step_append_ev _ rfl (.tmp 89) (.tmp 91) 22 rfl _ _ rfl rfl _ (run_app_rd (d := kIn) w4.drew infoIn rfl _ (Own.nil kIn 50 NoS w4.drew w4.heap.size) ia ic f.ins.length f.ins rfl (by exact HF4.out) kIn_any (by simp; omega) (by simp; omega) (Nat.le_refl _)) ?_
             rintro n8 w8 ⟨ow8, g8, -⟩
             have O8 : Hid (Own kIn 50 NoS w8 w4.heap.size n8 f.ins) := ow8
             obtain ⟨a8, c8, rfl⟩ := O8.out.form
             have G8 := Lib.hid g8
             have KG8 := Lib.hid (block_grown g8 (w := w4.drew) KX4.out (by simp [Value.ownBlock]))
             obtain ⟨r0, r1, r2, r3⟩ := cd_block4 KG8.out
             obtain ⟨s0, s1, s2, s3⟩ := cd_block4 (block_grown g8 (w := w4.drew) KC4.out (by simp [Value.ownBlock]))
             have HC8 := Lib.hid (HC4.out.frame (Same.grown g8 (fun b hb e => by cases e)))
             clear ow8 g8)
          | ((with_reducible refine gate_s (.tmp 92) (.tmp 94) rfl ?_)
             refine step_append_ev _ rfl (.tmp 92) (.tmp 94) 22 rfl _ _ rfl rfl _ (run_app_rd (d := kIn) w8 infoIn rfl _ O8.out ja jc c.ins.length c.ins rfl HC8.out kIn_any (by omega) (by omega) G8.out.size) ?_
             rintro n9 w9 ⟨ow9, g9, -⟩
             obtain ⟨a9, c9, rfl⟩ := ow9.form
             have O9 : Hid (Own kIn 50 NoS w9 w4.heap.size (.slice a9 (f.ins.length + c.ins.length) c9) (f.ins ++ c.ins)) := by show Own _ _ _ _ _ _ _; rw [← List.length_append]; exact ow9
             have G9 := Lib.hid g9
             have KG9 := Lib.hid (block_grown g9 KG8.out (fun e => by have := (O8.out.lt _ e.symm).1; have := (Array.getElem?_eq_some_iff.1 KX4.out).1; omega))
             obtain ⟨t0, t1, t2, t3⟩ := cd_block4 KG9.out
             have kf9 : w9.frozen? ⟨w.heap.size + 6, 2, none⟩ = false := frozen_of_block KG9.out
             clear ow9 g9)
          | fail)
        all_goals
          go_wp2_with fail
          go_meet
          case rel =>
            have hz := HSZ4.out
            have e9 : ∀ b, b ≠ w.heap.size + 6 → b < w4.heap.size → (w9.setCell ⟨w.heap.size + 6, 2, none⟩ (.slice a9 (f.ins.length + c.ins.length) c9)).heap[b]? = w4.heap[b]? := fun b hb hlt =>
              (Below.heap_setCell w9 ⟨w.heap.size + 6, 2, none⟩ _ b hb).trans (((G9.out.block b (Nat.lt_of_lt_of_le hlt G8.out.size) (fun e => by have := (O8.out.lt _ e.symm).1; omega)).trans (G8.out.block b hlt (by simp [Value.ownBlock]))))
            refine ⟨a9, c9, ?_, ?_, e9, ?_, ?_⟩
            · have h9 := KG9.out
              show _ = _
              simp [World.setCell, Array.getElem?_modify, h9]
            · exact O9.out.same (Same.setCell w9 _ (fun b hb => by rcases hb with hb | hb; (· exact hb.elim); (· have := (O9.out.lt b hb.symm).1; show b ≠ w.heap.size + 6; omega)))
            · have h1 := G8.out.size
              have h2 := G9.out.size
              have h3 : w4.heap.size ≤ w8.heap.size := h1
              show w4.heap.size ≤ (w9.setCell ⟨w.heap.size + 6, 2, none⟩ _).heap.size
              rw [World.size_setCell]
              omega
            · refine Below.setCell ((((B4.out.trans ((Drawn.refl w4).drew.below _)).grown G8.out (by show w.heap.size ≤ w4.heap.size; omega) (fun k hk => by simp [Value.ownBlock] at hk)).grown G9.out ?_ (fun k hk => by have := (O8.out.lt k hk).1; omega))) ?_ _
              · have := G8.out.size
                have h2 : w4.heap.size ≤ w8.heap.size := this
                omega
              · show w.heap.size ≤ w.heap.size + 6
                omega
      case rest =>
        obtain ⟨va4, vc4, KN, ON, FR, SZ, BN⟩ := hcut
        obtain ⟨w5, hw5⟩ : ∃ w5, w5 = wc := ⟨_, rfl⟩
        subst hw5
        have B5 := BN
        have KX5 := KN
        have OX5 := ON
        have KF5 := Lib.hid ((FR.out _ (by have := HPOS.out; omega) (Array.getElem?_eq_some_iff.1 KF4.out).1).trans KF4.out)
        have KC5 := Lib.hid ((FR.out _ (by have := HPOS.out; omega) (Array.getElem?_eq_some_iff.1 KC4.out).1).trans KC4.out)
        have KD5 := Lib.hid ((FR.out _ (by have := HPOS.out; omega) (Array.getElem?_eq_some_iff.1 KD4.out).1).trans KD4.out)
        have KL5 := Lib.hid ((FR.out _ (by have := HPOS.out; omega) (Array.getElem?_eq_some_iff.1 KL4.out).1).trans KL4.out)
        have KA5 := Lib.hid ((FR.out _ (by have := HPOS.out; omega) (Array.getElem?_eq_some_iff.1 KA4.out).1).trans KA4.out)
        have KB5 := Lib.hid ((FR.out _ (by have := HPOS.out; omega) (Array.getElem?_eq_some_iff.1 KB4.out).1).trans KB4.out)
        have HSZ5 : Hid (w.heap.size + 7 ≤ w5.heap.size) := by show _ ≤ _; rw [← HSZ4.out]; exact SZ.out
        have OX5L : Hid (∀ k, (Value.slice va4 (f.ins.length + c.ins.length) vc4).ownBlock = some k → w.heap.size + 7 ≤ k ∧ k < w5.heap.size) := fun k hk => by have h := ON.out.lt k hk; rw [HSZ4.out] at h; exact h
        clear KN ON FR SZ BN HPOS
        clear xf0 xf1 xf2 xf3 xc0 xc1 xc2 xc3 xd0 xd1 xd2 xd3
        obtain ⟨xf0, xf1, xf2, xf3⟩ := cd_block4 KF5.out
        obtain ⟨xc0, xc1, xc2, xc3⟩ := cd_block4 KC5.out
        obtain ⟨xd0, xd1, xd2, xd3⟩ := cd_block4 KD5.out
        obtain ⟨Y, hY⟩ : ∃ Y, Y = w5.heap.size := ⟨_, rfl⟩
        have B6 := Lib.hid (below_alloc B5.out (.cells #[.int .i64 d.width, .int .i64 d.regs, .slice none 0 0, .slice qa c.out.length qc] 25))
        have KF6 := Lib.hid (block_alloc KF5.out (.cells #[.int .i64 d.width, .int .i64 d.regs, .slice none 0 0, .slice qa c.out.length qc] 25))
        have KC6 := Lib.hid (block_alloc KC5.out (.cells #[.int .i64 d.width, .int .i64 d.regs, .slice none 0 0, .slice qa c.out.length qc] 25))
        have KD6 := Lib.hid (block_alloc KD5.out (.cells #[.int .i64 d.width, .int .i64 d.regs, .slice none 0 0, .slice qa c.out.length qc] 25))
        have KL6 := Lib.hid (block_alloc KL5.out (.cells #[.int .i64 d.width, .int .i64 d.regs, .slice none 0 0, .slice qa c.out.length qc] 25))
        have KA6 := Lib.hid (block_alloc KA5.out (.cells #[.int .i64 d.width, .int .i64 d.regs, .slice none 0 0, .slice qa c.out.length qc] 25))
        have KB6 := Lib.hid (block_alloc KB5.out (.cells #[.int .i64 d.width, .int .i64 d.regs, .slice none 0 0, .slice qa c.out.length qc] 25))
        have KX6 := Lib.hid (block_alloc KX5.out (.cells #[.int .i64 d.width, .int .i64 d.regs, .slice none 0 0, .slice qa c.out.length qc] 25))
        have OX6 := Lib.hid (OX5.out.alloc (.cells #[.int .i64 d.width, .int .i64 d.regs, .slice none 0 0, .slice qa c.out.length qc] 25))
        have KY6 := Lib.hid (heap_alloc_new w5 (.cells #[.int .i64 d.width, .int .i64 d.regs, .slice none 0 0, .slice qa c.out.length qc] 25))
        have HSZ6 : Hid ((w5.alloc (.cells #[.int .i64 d.width, .int .i64 d.regs, .slice none 0 0, .slice qa c.out.length qc] 25)).heap.size = Y + 1) := by show _ = _; rw [hY]; simp
        go_upto_region 11 with fail
        obtain ⟨w6, hw6⟩ : ∃ w6, w6 = w5.alloc (.cells #[.int .i64 d.width, .int .i64 d.regs, .slice none 0 0, .slice qa c.out.length qc] 25) := ⟨_, rfl⟩
        rw [← hw6] at B6 KF6 KC6 KD6 KL6 KA6 KB6 KX6 KY6 HSZ6 OX6
        change Code.wp _ _ _ _ (w5.alloc (.cells #[.int .i64 d.width, .int .i64 d.regs, .slice none 0 0, .slice qa c.out.length qc] 25))
        rw [← hw6, ← hY]
        rw [← hY] at KY6 HSZ5 OX5L
        clear hw6 hY
        clear xf0 xf1 xf2 xf3 xc0 xc1 xc2 xc3 xd0 xd1 xd2 xd3
        obtain ⟨xf0, xf1, xf2, xf3⟩ := cd_block4 KF6.out
        obtain ⟨xc0, xc1, xc2, xc3⟩ := cd_block4 KC6.out
        obtain ⟨xd0, xd1, xd2, xd3⟩ := cd_block4 KD6.out
        have HPOS := HSZ6
        go_cut [] (fun wx => ∃ (va : Option Addr) (vc : Nat), Hid (wx.heap[Y]? = some (.cells #[.int .i64 d.width, .int .i64 d.regs, .slice va (f.ins.length + d.ins.length) vc, .slice qa c.out.length qc] 25 (0, 0))) ∧ Hid (Own kIn 50 NoS wx w6.heap.size (.slice va (f.ins.length + d.ins.length) vc) (f.ins ++ d.ins)) ∧ Hid (∀ b, b ≠ Y → b < w6.heap.size → wx.heap[b]? = w6.heap[b]?) ∧ Hid (w6.heap.size ≤ wx.heap.size) ∧ Hid (Below w.heap.size w wx))
        case first =>
          obtain ⟨g0, g1, g2, g3⟩ := cd_block4 KY6.out
          have HF4 := Lib.hid ((HF.out.ins.frame (Same.below B6.out)).frame (Same.drewN _ w6 1))
          have HC4 := Lib.hid ((HD.out.ins.frame (Same.below B6.out)).frame (Same.drewN _ w6 1))
          have hl5 := HLEN.out
          go_region_law
            (first
            | ((with_reducible refine gate_s (.tmp 105) (.tmp 107) rfl ?_)
               refine step_append_ev _ rfl (.tmp 105) (.tmp 107) 22 rfl _ _ rfl rfl _ (run_app_rd (d := kIn) w6.drew infoIn rfl _ (Own.nil kIn 50 NoS w6.drew w6.heap.size) ia ic f.ins.length f.ins rfl (by exact HF4.out) kIn_any (by simp; omega) (by simp; omega) (Nat.le_refl _)) ?_
               rintro n8 w8 ⟨ow8, g8, -⟩
               have O8 : Hid (Own kIn 50 NoS w8 w6.heap.size n8 f.ins) := ow8
               obtain ⟨a8, c8, rfl⟩ := O8.out.form
               have G8 := Lib.hid g8
               have KG8 := Lib.hid (block_grown g8 (w := w6.drew) KY6.out (by simp [Value.ownBlock]))
               obtain ⟨r0, r1, r2, r3⟩ := cd_block4 KG8.out
               obtain ⟨s0, s1, s2, s3⟩ := cd_block4 (block_grown g8 (w := w6.drew) KD6.out (by simp [Value.ownBlock]))
               have HC8 := Lib.hid (HC4.out.frame (Same.grown g8 (fun b hb e => by cases e)))
               clear ow8 g8)
            | ((with_reducible refine gate_s (.tmp 108) (.tmp 110) rfl ?_)
               refine step_append_ev _ rfl (.tmp 108) (.tmp 110) 22 rfl _ _ rfl rfl _ (run_app_rd (d := kIn) w8 infoIn rfl _ O8.out ka kc d.ins.length d.ins rfl HC8.out kIn_any (by omega) (by omega) G8.out.size) ?_
               rintro n9 w9 ⟨ow9, g9, -⟩
               obtain ⟨a9, c9, rfl⟩ := ow9.form
               have O9 : Hid (Own kIn 50 NoS w9 w6.heap.size (.slice a9 (f.ins.length + d.ins.length) c9) (f.ins ++ d.ins)) := by show Own _ _ _ _ _ _ _; rw [← List.length_append]; exact ow9
               have G9 := Lib.hid g9
               have KG9 := Lib.hid (block_grown g9 KG8.out (fun e => by have := (O8.out.lt _ e.symm).1; have := (Array.getElem?_eq_some_iff.1 KY6.out).1; omega))
               obtain ⟨t0, t1, t2, t3⟩ := cd_block4 KG9.out
               have kf9 : w9.frozen? ⟨Y, 2, none⟩ = false := frozen_of_block KG9.out
               clear ow9 g9)
            | fail)
          all_goals
            go_wp2_with fail
            go_meet
            case rel =>
              have hz := HSZ6.out
              have hz5 := HSZ5.out
              have e9 : ∀ b, b ≠ Y → b < w6.heap.size → (w9.setCell ⟨Y, 2, none⟩ (.slice a9 (f.ins.length + d.ins.length) c9)).heap[b]? = w6.heap[b]? := fun b hb hlt =>
                (Below.heap_setCell w9 ⟨Y, 2, none⟩ _ b hb).trans (((G9.out.block b (Nat.lt_of_lt_of_le hlt G8.out.size) (fun e => by have := (O8.out.lt _ e.symm).1; omega)).trans (G8.out.block b hlt (by simp [Value.ownBlock]))))
              refine ⟨a9, c9, ?_, ?_, e9, ?_, ?_⟩
              · have h9 := KG9.out
                show _ = _
                simp [World.setCell, Array.getElem?_modify, h9]
              · exact O9.out.same (Same.setCell w9 _ (fun b hb => by rcases hb with hb | hb; (· exact hb.elim); (· have := (O9.out.lt b hb.symm).1; show b ≠ Y; omega)))
              · have h1 := G8.out.size
                have h2 := G9.out.size
                have h3 : w6.heap.size ≤ w8.heap.size := h1
                show w6.heap.size ≤ (w9.setCell ⟨Y, 2, none⟩ _).heap.size
                rw [World.size_setCell]
                omega
              · refine Below.setCell ((((B6.out.trans ((Drawn.refl w6).drew.below _)).grown G8.out (by show w.heap.size ≤ w6.heap.size; omega) (fun k hk => by simp [Value.ownBlock] at hk)).grown G9.out ?_ (fun k hk => by have := (O8.out.lt k hk).1; omega))) ?_ _
                · have := G8.out.size
                  have h2 : w6.heap.size ≤ w8.heap.size := this
                  omega
                · show w.heap.size ≤ Y
                  omega
        case rest =>
          have HYP := HSZ5
          have OX7 : Hid (Own kIn 50 NoS wc w4.heap.size (.slice va4 (f.ins.length + c.ins.length) vc4) (f.ins ++ c.ins)) := by
            obtain ⟨va6, vc6, KN, ON, FR, SZ, BN⟩ := hcut
            exact OX6.out.same ⟨SZ.out, fun b hb hlt => FR.out b (by rcases hb with hb | hb; (· exact hb.elim); (· have := (OX5L.out b hb.symm).2; omega)) hlt⟩
          obtain ⟨va6, vc6, KN, ON, FR, SZ, BN⟩ := hcut
          obtain ⟨w7, hw7⟩ : ∃ w7, w7 = wc := ⟨_, rfl⟩
          subst hw7
          have B7 := BN
          have KY7 := KN
          have OY7 := ON
          have KF7 := Lib.hid ((FR.out _ (by have := HYP.out; omega) (Array.getElem?_eq_some_iff.1 KF6.out).1).trans KF6.out)
          have KC7 := Lib.hid ((FR.out _ (by have := HYP.out; omega) (Array.getElem?_eq_some_iff.1 KC6.out).1).trans KC6.out)
          have KD7 := Lib.hid ((FR.out _ (by have := HYP.out; omega) (Array.getElem?_eq_some_iff.1 KD6.out).1).trans KD6.out)
          have KL7 := Lib.hid ((FR.out _ (by have := HYP.out; omega) (Array.getElem?_eq_some_iff.1 KL6.out).1).trans KL6.out)
          have KA7 := Lib.hid ((FR.out _ (by have := HYP.out; omega) (Array.getElem?_eq_some_iff.1 KA6.out).1).trans KA6.out)
          have KB7 := Lib.hid ((FR.out _ (by have := HYP.out; omega) (Array.getElem?_eq_some_iff.1 KB6.out).1).trans KB6.out)
          have KX7 := Lib.hid ((FR.out _ (by have := HYP.out; omega) (Array.getElem?_eq_some_iff.1 KX6.out).1).trans KX6.out)
          clear KN ON FR SZ BN HPOS xf0 xf1 xf2 xf3 xc0 xc1 xc2 xc3 xd0 xd1 xd2 xd3
          obtain ⟨xA0, xA1, xA2, xA3⟩ := cd_block4 KA7.out
          obtain ⟨xB0, xB1, xB2, xB3⟩ := cd_block4 KB7.out
          obtain ⟨xX0, xX1, xX2, xX3⟩ := cd_block4 KX7.out
          obtain ⟨xY0, xY1, xY2, xY3⟩ := cd_block4 KY7.out
          have HAL : Hid ((allR c.regs.toNat).length = R) := by show _ = _; rw [HRR.out, Int.toNat_natCast]; exact allR_len hR8
          have RL : Hid (Rd (Kd.int .i64) (fun _ => True) w7 AR 8 (allR c.regs.toNat)) := by
            show Rd _ _ _ _ _ _
            rw [HRR.out, Int.toNat_natCast]
            exact HAR.out (fun _ => True) w7 [0, 1, 2, 3, 4, 5, 6, 7] (by simp; omega) (rd_block KL7.out (elems_vals [0, 1, 2, 3, 4, 5, 6, 7]) trivial 8 (by simp) (by omega))
          have RA : Hid (CdRd (fun _ => True) w7 (swA c) ⟨ja, jc, AR, 8⟩) := ⟨HC.out.ins.frame (Same.below B7.out), RL.out⟩
          have RB : Hid (CdRd (fun _ => True) w7 (swB c d) ⟨ka, kc, AR, 8⟩) := ⟨HD.out.ins.frame (Same.below B7.out), RL.out⟩
          have RX : Hid (CdRd (fun _ => True) w7 (swX f c) ⟨va4, vc4, qa, qc⟩) := ⟨OX7.out.rd'.mono fun _ _ _ => trivial, HC.out.out.frame (Same.below B7.out)⟩
          have RY : Hid (CdRd (fun _ => True) w7 (swY f c d) ⟨va6, vc6, qa, qc⟩) := ⟨OY7.out.rd'.mono fun _ _ _ => trivial, HC.out.out.frame (Same.below B7.out)⟩
          have IMX : Hid (∀ x ∈ f.ins ++ c.ins, 0 ≤ x.imm ∧ x.imm < 18446744073709551616) := fun x hx => by rcases List.mem_append.1 hx with h | h; (· exact IMF.out x h); (· exact IMC.out x h)
          have IMY : Hid (∀ x ∈ f.ins ++ d.ins, 0 ≤ x.imm ∧ x.imm < 18446744073709551616) := fun x hx => by rcases List.mem_append.1 hx with h | h; (· exact IMF.out x h); (· exact IMD.out x h)
          have Fab : Hid (∀ W, Below w7.heap.size w7 W → Calls Tryz.prog 14 #[.agg #[.int .i64 c.width, .int .i64 c.regs, .slice ja c.ins.length jc, .slice AR R 8], .agg #[.int .i64 d.width, .int .i64 d.regs, .slice ka d.ins.length kc, .slice AR R 8]] W fun e w' => e = .returned (.bool (fewB (swA c) (swB c d))) ∧ Below W.heap.size W w') := fun W b => by
            have h := ref53_Few (fun _ => True) (swA c) (swB c d) ⟨ja, jc, AR, 8⟩ ⟨ka, kc, AR, 8⟩ W (RA.out.frame (Same.below b)) (RB.out.frame (Same.below b)) IMC.out IMD.out
            change Calls _ _ #[.agg #[.int .i64 c.width, .int .i64 c.regs, .slice ja c.ins.length jc, .slice AR (allR c.regs.toNat).length 8], .agg #[.int .i64 d.width, .int .i64 d.regs, .slice ka d.ins.length kc, .slice AR (allR c.regs.toNat).length 8]] _ _ at h
            rw [HAL.out] at h
            exact h
          have Cab : Hid (∀ W, Below w7.heap.size w7 W → fewB (swA c) (swB c d) = true → Calls Tryz.prog 15 #[.agg #[.int .i64 c.width, .int .i64 c.regs, .slice ja c.ins.length jc, .slice AR R 8], .agg #[.int .i64 d.width, .int .i64 d.regs, .slice ka d.ins.length kc, .slice AR R 8]] W fun e w' => ∃ a ca, e = .returned (.tuple #[.bool (chkB (swA c) (swB c d)), .slice a (chkS (swA c) (swB c d)).length ca, .int .i64 (stsErr (swA c) (swB c d))]) ∧ Rd (Kd.int .u64) (fun b => W.heap.size ≤ b) w' a ca (chkS (swA c) (swB c d)) ∧ Below W.heap.size W w') := fun W b hf => by
            have hl := few_lens hf
            have h := refine_Check (fun _ => True) (swA c) (swB c d) ⟨ja, jc, AR, 8⟩ ⟨ka, kc, AR, 8⟩ W (HKT.out.below (B7.out.trans (b.mono B7.out.size))) (RA.out.frame (Same.below b)) (RB.out.frame (Same.below b)) hl.2.2.1 hl.2.2.2 IMC.out IMD.out
            change Calls _ _ #[.agg #[.int .i64 c.width, .int .i64 c.regs, .slice ja c.ins.length jc, .slice AR (allR c.regs.toNat).length 8], .agg #[.int .i64 d.width, .int .i64 d.regs, .slice ka d.ins.length kc, .slice AR (allR c.regs.toNat).length 8]] _ _ at h
            rw [HAL.out] at h
            exact h
          have Fxy : Hid (∀ W, Below w7.heap.size w7 W → Calls Tryz.prog 14 #[.agg #[.int .i64 c.width, .int .i64 c.regs, .slice va4 (f.ins.length + c.ins.length) vc4, .slice qa c.out.length qc], .agg #[.int .i64 d.width, .int .i64 d.regs, .slice va6 (f.ins.length + d.ins.length) vc6, .slice qa c.out.length qc]] W fun e w' => e = .returned (.bool (fewB (swX f c) (swY f c d))) ∧ Below W.heap.size W w') := fun W b => by
            have h := ref53_Few (fun _ => True) (swX f c) (swY f c d) ⟨va4, vc4, qa, qc⟩ ⟨va6, vc6, qa, qc⟩ W (RX.out.frame (Same.below b)) (RY.out.frame (Same.below b)) IMX.out IMY.out
            change Calls _ _ #[.agg #[.int .i64 c.width, .int .i64 c.regs, .slice va4 (f.ins ++ c.ins).length vc4, .slice qa c.out.length qc], .agg #[.int .i64 d.width, .int .i64 d.regs, .slice va6 (f.ins ++ d.ins).length vc6, .slice qa c.out.length qc]] _ _ at h
            rw [List.length_append, List.length_append] at h
            exact h
          have Cxy : Hid (∀ W, Below w7.heap.size w7 W → fewB (swX f c) (swY f c d) = true → Calls Tryz.prog 15 #[.agg #[.int .i64 c.width, .int .i64 c.regs, .slice va4 (f.ins.length + c.ins.length) vc4, .slice qa c.out.length qc], .agg #[.int .i64 d.width, .int .i64 d.regs, .slice va6 (f.ins.length + d.ins.length) vc6, .slice qa c.out.length qc]] W fun e w' => ∃ a ca, e = .returned (.tuple #[.bool (chkB (swX f c) (swY f c d)), .slice a (chkS (swX f c) (swY f c d)).length ca, .int .i64 (stsErr (swX f c) (swY f c d))]) ∧ Rd (Kd.int .u64) (fun b => W.heap.size ≤ b) w' a ca (chkS (swX f c) (swY f c d)) ∧ Below W.heap.size W w') := fun W b hf => by
            have hl := few_lens hf
            have h := refine_Check (fun _ => True) (swX f c) (swY f c d) ⟨va4, vc4, qa, qc⟩ ⟨va6, vc6, qa, qc⟩ W (HKT.out.below (B7.out.trans (b.mono B7.out.size))) (RX.out.frame (Same.below b)) (RY.out.frame (Same.below b)) hl.2.2.1 hl.2.2.2 IMX.out IMY.out
            change Calls _ _ #[.agg #[.int .i64 c.width, .int .i64 c.regs, .slice va4 (f.ins ++ c.ins).length vc4, .slice qa c.out.length qc], .agg #[.int .i64 d.width, .int .i64 d.regs, .slice va6 (f.ins ++ d.ins).length vc6, .slice qa c.out.length qc]] _ _ at h
            rw [List.length_append, List.length_append] at h
            exact h
          have HSW := Lib.hid (fun h1 h2 h => chk_swap (f := f) (c := c) (d := d) (fun x hx => (IMF.out x hx).1) h1 h2 h)
          have HEA := Lib.hid (chkB_err (c := swA c) (d := swB c d))
          generalize hfab : fewB (swA c) (swB c d) = fab at *
          generalize hfxy : fewB (swX f c) (swY f c d) = fxy at *
          generalize stsErr (swA c) (swB c d) = eab at *
          generalize stsErr (swX f c) (swY f c d) = exy at *
          generalize chkB (swA c) (swB c d) = bab at *
          generalize chkB (swX f c) (swY f c d) = bxy at *
          generalize chkS (swA c) (swB c d) = sab at *
          generalize chkS (swX f c) (swY f c d) = sxy at *
          clear hfab hfxy RA RB RX RY RL IMX IMY HAL
          cases fab
          · skip
            go_wp2_with fail
            refine (Fab.out _ (Below.refl _ _)).mono ?_
            rintro e w8 ⟨rfl, b8⟩
            have BB8 := Lib.hid b8
            have B8 := Lib.hid (below_both B7.out b8)
            clear b8
            clear xA0 xA1 xA2 xA3 xB0 xB1 xB2 xB3 xX0 xX1 xX2 xX3 xY0 xY1 xY2 xY3
            obtain ⟨xA0, xA1, xA2, xA3⟩ := cd_block4 (block_below BB8.out KA7.out)
            obtain ⟨xB0, xB1, xB2, xB3⟩ := cd_block4 (block_below BB8.out KB7.out)
            obtain ⟨xX0, xX1, xX2, xX3⟩ := cd_block4 (block_below BB8.out KX7.out)
            obtain ⟨xY0, xY1, xY2, xY3⟩ := cd_block4 (block_below BB8.out KY7.out)
            go_wp2_with fail
            refine (CA.out _ B8.out).mono ?_
            rintro e wz ⟨rfl, bz⟩
            go_wp2_with fail
            go_ret
            exact ⟨rfl, below_both B8.out bz⟩
          go_wp2_with fail
          refine (Fab.out _ (Below.refl _ _)).mono ?_
          rintro e w8 ⟨rfl, b8⟩
          have BB8 := Lib.hid b8
          have B8 := Lib.hid (below_both B7.out b8)
          clear b8
          clear xA0 xA1 xA2 xA3 xB0 xB1 xB2 xB3 xX0 xX1 xX2 xX3 xY0 xY1 xY2 xY3
          obtain ⟨xA0, xA1, xA2, xA3⟩ := cd_block4 (block_below BB8.out KA7.out)
          obtain ⟨xB0, xB1, xB2, xB3⟩ := cd_block4 (block_below BB8.out KB7.out)
          obtain ⟨xX0, xX1, xX2, xX3⟩ := cd_block4 (block_below BB8.out KX7.out)
          obtain ⟨xY0, xY1, xY2, xY3⟩ := cd_block4 (block_below BB8.out KY7.out)
          cases fxy
          · skip
            go_wp2_with fail
            refine (Fxy.out _ BB8.out).mono ?_
            rintro e w9 ⟨rfl, b9⟩
            have BB9 := Lib.hid (below_both BB8.out b9)
            have B9 := Lib.hid (below_both B8.out b9)
            clear b9
            clear xA0 xA1 xA2 xA3 xB0 xB1 xB2 xB3 xX0 xX1 xX2 xX3 xY0 xY1 xY2 xY3
            obtain ⟨xA0, xA1, xA2, xA3⟩ := cd_block4 (block_below BB9.out KA7.out)
            obtain ⟨xB0, xB1, xB2, xB3⟩ := cd_block4 (block_below BB9.out KB7.out)
            obtain ⟨xX0, xX1, xX2, xX3⟩ := cd_block4 (block_below BB9.out KX7.out)
            obtain ⟨xY0, xY1, xY2, xY3⟩ := cd_block4 (block_below BB9.out KY7.out)
            go_wp2_with fail
            refine (CA.out _ B9.out).mono ?_
            rintro e wz ⟨rfl, bz⟩
            go_wp2_with fail
            go_ret
            exact ⟨rfl, below_both B9.out bz⟩
          go_wp2_with fail
          refine (Fxy.out _ BB8.out).mono ?_
          rintro e w9 ⟨rfl, b9⟩
          have BB9 := Lib.hid (below_both BB8.out b9)
          have B9 := Lib.hid (below_both B8.out b9)
          clear b9
          clear xA0 xA1 xA2 xA3 xB0 xB1 xB2 xB3 xX0 xX1 xX2 xX3 xY0 xY1 xY2 xY3
          obtain ⟨xA0, xA1, xA2, xA3⟩ := cd_block4 (block_below BB9.out KA7.out)
          obtain ⟨xB0, xB1, xB2, xB3⟩ := cd_block4 (block_below BB9.out KB7.out)
          obtain ⟨xX0, xX1, xX2, xX3⟩ := cd_block4 (block_below BB9.out KX7.out)
          obtain ⟨xY0, xY1, xY2, xY3⟩ := cd_block4 (block_below BB9.out KY7.out)
          go_wp2_with fail
          refine (Cab.out _ BB9.out trivial).mono ?_
          rintro e w10 ⟨z1, z2, rfl, -, b10⟩
          have BB10 := Lib.hid (below_both BB9.out b10)
          have B10 := Lib.hid (below_both B9.out b10)
          clear b10
          clear xA0 xA1 xA2 xA3 xB0 xB1 xB2 xB3 xX0 xX1 xX2 xX3 xY0 xY1 xY2 xY3
          obtain ⟨xA0, xA1, xA2, xA3⟩ := cd_block4 (block_below BB10.out KA7.out)
          obtain ⟨xB0, xB1, xB2, xB3⟩ := cd_block4 (block_below BB10.out KB7.out)
          obtain ⟨xX0, xX1, xX2, xX3⟩ := cd_block4 (block_below BB10.out KX7.out)
          obtain ⟨xY0, xY1, xY2, xY3⟩ := cd_block4 (block_below BB10.out KY7.out)
          go_wp2_with fail
          refine (Cxy.out _ BB10.out trivial).mono ?_
          rintro e w11 ⟨z3, z4, rfl, -, b11⟩
          have BB11 := Lib.hid (below_both BB10.out b11)
          have B11 := Lib.hid (below_both B10.out b11)
          clear b11
          clear xA0 xA1 xA2 xA3 xB0 xB1 xB2 xB3 xX0 xX1 xX2 xX3 xY0 xY1 xY2 xY3
          obtain ⟨xA0, xA1, xA2, xA3⟩ := cd_block4 (block_below BB11.out KA7.out)
          obtain ⟨xB0, xB1, xB2, xB3⟩ := cd_block4 (block_below BB11.out KB7.out)
          obtain ⟨xX0, xX1, xX2, xX3⟩ := cd_block4 (block_below BB11.out KX7.out)
          obtain ⟨xY0, xY1, xY2, xY3⟩ := cd_block4 (block_below BB11.out KY7.out)
          cases bab
          · skip
            go_wp2_with fail
            refine (CA.out _ B11.out).mono ?_
            rintro e wz ⟨rfl, bz⟩
            go_wp2_with fail
            go_ret
            exact ⟨rfl, below_both B11.out bz⟩
          by_cases q1 : eab = 0
          case neg =>
            have t0 : (eab != 0) = true := by simpa using q1
            clear q1
            go_wp2_with fail
            refine (CA.out _ B11.out).mono ?_
            rintro e wz ⟨rfl, bz⟩
            go_wp2_with fail
            go_ret
            exact ⟨rfl, below_both B11.out bz⟩
          have tq1 : (eab != 0) = false := by simpa using q1
          by_cases q2 : exy = 0
          case neg =>
            have t0 : (exy != 0) = true := by simpa using q2
            clear q1 q2
            go_wp2_with fail
            refine (CA.out _ B11.out).mono ?_
            rintro e wz ⟨rfl, bz⟩
            go_wp2_with fail
            go_ret
            exact ⟨rfl, below_both B11.out bz⟩
          have tq2 : (exy != 0) = false := by simpa using q2
          obtain rfl := HSW.out q1 q2 rfl
          clear q1 q2
          go_wp2_with fail
          refine (CA.out _ B11.out).mono ?_
          rintro e wz ⟨rfl, bz⟩
          go_wp2_with fail
          go_ret
          exact ⟨rfl, below_both B11.out bz⟩
end Go.Proofs.Sat
