/- MsU, MsV, one after the other. -/
import Derived.Test.YtiepphjpfjfkmaaGreatDoorMsS
set_option linter.unusedVariables false
set_option linter.unusedSimpArgs false
/- The walk of the law IsaBack. -/
namespace Go.Proofs.Sat
open Go Go.RowKit
set_option maxRecDepth 20000 in
set_option maxHeartbeats 4000000 in
theorem law48_Back (S : Nat → Prop) (c : Cd) (p : CdAt) (w : World) (hT : MsT w) (h : CdRd S w c p) (hi : ImmOK c.ins) : Calls Tryz.prog 5 #[cdVal c p] w fun e w' => e = .returned (.bool true) ∧ Below w.heap.size w w' := by
  obtain ⟨ia, ic, oa, oc⟩ := p
  have BW := Lib.hid (below_alloc (Below.refl w.heap.size w) (.cells (cellsC c ia ic oa oc) 25))
  have KC := Lib.hid (heap_alloc_new w (.cells (cellsC c ia ic oa oc) 25))
  have R0 := Lib.hid (h.frame (Same.alloc _ w (.cells (cellsC c ia ic oa oc) 25)))
  have HT := Lib.hid hT
  have CL := Lib.hid (fun W (h : MsT W) => law48_lives W h)
  have CK := Lib.hid (ref48_Check _ c ⟨ia, ic, oa, oc⟩ _ R0.out hi)
  have HF : Hid (cdErr c = 0 → (CdOK c ∧ c.ins.length ≤ 10000 ∧ c.out.length ≤ 10000) ∧ parseW (printL c) = (c, 0, 0) ∧ (printL c).length ≤ 65536) := fun h => ⟨cd_fine h hi, parse_print h hi, print_len h hi⟩
  clear h hT hi
  unfold cdVal
  go_enter Tryz.func5, Tryz.ntmps5
  obtain ⟨x0, x1, x2, x3⟩ := cd_block4 KC.out
  generalize cdErr c = ce at *
  generalize cdIx c = ci at *
  go_wp2_with fail
  refine CK.out.mono ?_
  rintro e w1 ⟨rfl, b1⟩
  have B1 := Lib.hid (below_both BW.out b1)
  have K1 := Lib.hid (block_below b1 KC.out)
  have R1 := Lib.hid (R0.out.frame (same_all b1))
  clear b1 x0 x1 x2 x3
  by_cases hce : ce = 0
  case neg =>
    have t1 : (ce != 0) = true := by rw [bne_iff_ne]; exact hce
    clear hce
    go_wp2_with fail
    refine (CL.out w1 (HT.out.below B1.out)).mono ?_
    rintro e w9 ⟨rfl, b9⟩
    go_wp2_with fail
    go_ret
    exact ⟨rfl, below_both B1.out b9⟩
  have t1 : (ce != 0) = false := by rw [bne_eq_false_iff_eq]; exact hce
  obtain ⟨⟨q2, q3, q4⟩, q5, q6⟩ := HF.out hce
  have CPR := Lib.hid (isa_Print _ c ⟨ia, ic, oa, oc⟩ w1 (HT.out.below B1.out) R1.out q2 q3 q4)
  have CP := Lib.hid (fun W (h : MsT W) => isa_Parse (printL c) W (by omega) h.dig h.nam h.isa)
  have HP := Lib.hid q5
  generalize printL c = txt at *
  obtain ⟨x0, x1, x2, x3⟩ := cd_block4 K1.out
  clear hce q5 q6
  go_wp2_with fail
  refine CPR.out.mono ?_
  rintro e w2 ⟨rfl, b2⟩
  have B2 := Lib.hid (below_both B1.out b2)
  have K2 := Lib.hid (block_below b2 K1.out)
  have R2 := Lib.hid (R1.out.frame (same_all b2))
  clear b2 x0 x1 x2 x3
  go_wp2_with fail
  refine (CP.out w2 (HT.out.below B2.out)).mono ?_
  rintro e w3 ⟨d, ⟨ja, jc, qa, qc⟩, k, er, rfl, hp, r3, b3⟩
  have hcd := hp.trans HP.out
  injection hcd with hc hcd
  injection hcd with hk he
  subst hc hk he
  have R3 := Lib.hid (r3.frame (Same.alloc _ w3 (.cells (cellsC d ja jc qa qc) 25)))
  have R3b := Lib.hid ((R2.out.frame (same_all b3)).frame (Same.alloc _ w3 (.cells (cellsC d ja jc qa qc) 25)))
  have K3 := Lib.hid (heap_alloc_new w3 (.cells (cellsC d ja jc qa qc) 25))
  have K3b := Lib.hid (block_alloc (block_below b3 K2.out) (.cells (cellsC d ja jc qa qc) 25))
  have B3 := Lib.hid (below_alloc (below_both B2.out b3) (.cells (cellsC d ja jc qa qc) 25))
  have CS := Lib.hid (ref48_Same _ _ d d ⟨ia, ic, oa, oc⟩ ⟨ja, jc, qa, qc⟩ _ R3b.out R3.out)
  obtain ⟨x0, x1, x2, x3⟩ := cd_block4 K3b.out
  obtain ⟨y0, y1, y2, y3⟩ := cd_block4 K3.out
  clear hp b3 r3
  go_wp2_with fail
  refine CS.out.mono ?_
  rintro e w4 ⟨rfl, b4⟩
  have B4 := Lib.hid (below_both B3.out b4)
  simp only [decide_true]
  clear b4 x0 x1 x2 x3 y0 y1 y2 y3
  go_wp2_with fail
  refine (CL.out w4 (HT.out.below B4.out)).mono ?_
  rintro e w9 ⟨rfl, b9⟩
  go_wp2_with fail
  go_ret
  exact ⟨rfl, below_both B4.out b9⟩
end Go.Proofs.Sat
/- few; the walk of the law IsaChecks. -/
namespace Go.Proofs.Sat
open Go Go.RowKit
def fewC (c : Cd) : Bool := decide (c.ins.length ≤ 400 ∧ c.out.length ≤ 100)
set_option maxHeartbeats 1000000 in
theorem law48_few (c : Cd) (p : CdAt) (w : World) : Calls Tryz.prog 8 #[cdVal c p] w fun e w' => e = .returned (.bool (fewC c)) ∧ Below w.heap.size w w' := by
  obtain ⟨ia, ic, oa, oc⟩ := p
  have BW := Lib.hid (below_alloc (Below.refl w.heap.size w) (.cells (cellsC c ia ic oa oc) 25))
  obtain ⟨x0, x1, x2, x3⟩ := cd_block4 (heap_alloc_new w (.cells (cellsC c ia ic oa oc) 25))
  unfold cdVal
  have HF : Hid (fewC c = (decide (c.ins.length ≤ 400) && decide (c.out.length ≤ 100))) := by
    show _ = _
    unfold fewC
    rw [Bool.decide_and]
  generalize fewC c = f at *
  go_enter Tryz.func8, Tryz.ntmps8
  by_cases h1 : c.ins.length ≤ 400
  · have t1 : (c.ins.length : Int) ≤ 400 := by omega
    have e1 : decide (c.ins.length ≤ 400) = true := decide_eq_true h1
    by_cases h2 : c.out.length ≤ 100
    · have t2 : (c.out.length : Int) ≤ 100 := by omega
      have e2 : decide (c.out.length ≤ 100) = true := decide_eq_true h2
      have HE : Hid (f = true) := by show _ = _; rw [HF.out, e1, e2]; rfl
      clear h1 h2 e1 e2
      go_wp2_with fail
      go_ret
      exact ⟨ret_bool HE.out.symm, BW.out⟩
    · have t2 : ¬ ((c.out.length : Int) ≤ 100) := by omega
      have e2 : decide (c.out.length ≤ 100) = false := decide_eq_false h2
      have HE : Hid (f = false) := by show _ = _; rw [HF.out, e1, e2]; rfl
      clear h1 h2 e1 e2
      go_wp2_with fail
      go_ret
      exact ⟨ret_bool HE.out.symm, BW.out⟩
  · have t1 : ¬ ((c.ins.length : Int) ≤ 400) := by omega
    have e1 : decide (c.ins.length ≤ 400) = false := decide_eq_false h1
    have HE : Hid (f = false) := by show _ = _; rw [HF.out, e1]; rfl
    clear h1 e1
    go_wp2_with fail
    go_ret
    exact ⟨ret_bool HE.out.symm, BW.out⟩
set_option maxRecDepth 20000 in
set_option maxHeartbeats 4000000 in
theorem law48_Checks (S : Nat → Prop) (c : Cd) (p : CdAt) (w : World) (hT : MsT w) (h : CdRd S w c p) (hi : ImmOK c.ins) : Calls Tryz.prog 3 #[cdVal c p] w fun e w' => e = .returned (.bool true) ∧ Below w.heap.size w w' := by
  obtain ⟨ia, ic, oa, oc⟩ := p
  have BW := Lib.hid (below_alloc (Below.refl w.heap.size w) (.cells (cellsC c ia ic oa oc) 25))
  have KC := Lib.hid (heap_alloc_new w (.cells (cellsC c ia ic oa oc) 25))
  have R0 := Lib.hid (h.frame (Same.alloc _ w (.cells (cellsC c ia ic oa oc) 25)))
  have HT := Lib.hid hT
  have CL := Lib.hid (fun W (h : MsT W) => law48_lives W h)
  have CF := Lib.hid (law48_few c ⟨ia, ic, oa, oc⟩ (w.alloc (.cells (cellsC c ia ic oa oc) 25)))
  have CKA := Lib.hid (fun W (hW : MsT W) (r : CdRd S W c ⟨ia, ic, oa, oc⟩) => isa_Check _ c ⟨ia, ic, oa, oc⟩ W hW.isa r)
  have CKB := Lib.hid (fun W (r : CdRd S W c ⟨ia, ic, oa, oc⟩) => ref48_Check _ c ⟨ia, ic, oa, oc⟩ W r hi)
  have CCA := Lib.hid (fun W (r : CdRd S W c ⟨ia, ic, oa, oc⟩) hl => isa_Cost _ c ⟨ia, ic, oa, oc⟩ W r hl)
  have CCB := Lib.hid (fun W (r : CdRd S W c ⟨ia, ic, oa, oc⟩) hl => ref48_Cost _ c ⟨ia, ic, oa, oc⟩ W r hl)
  have HFW : Hid (fewC c = true → c.ins.length ≤ 1000000) := fun h => by have := of_decide_eq_true h; omega
  clear h hT hi
  unfold cdVal
  go_enter Tryz.func3, Tryz.ntmps3
  obtain ⟨x0, x1, x2, x3⟩ := cd_block4 KC.out
  generalize cdErr c = ce at *
  generalize cdIx c = ci at *
  generalize costI c.ins = co at *
  go_wp2_with fail
  refine CF.out.mono ?_
  rintro e w1 ⟨rfl, b1⟩
  have B1 := Lib.hid (below_both BW.out b1)
  have K1 := Lib.hid (block_below b1 KC.out)
  have R1 := Lib.hid (R0.out.frame (same_all b1))
  clear b1 x0 x1 x2 x3 CF
  cases hf : fewC c with
  | false =>
    go_wp2_with fail
    refine (CL.out w1 (HT.out.below B1.out)).mono ?_
    rintro e w9 ⟨rfl, b9⟩
    go_wp2_with fail
    go_ret
    exact ⟨rfl, below_both B1.out b9⟩
  | true =>
    have HL := Lib.hid (HFW.out hf)
    clear hf
    obtain ⟨x0, x1, x2, x3⟩ := cd_block4 K1.out
    go_wp2_with fail
    refine (CKA.out w1 (HT.out.below B1.out) R1.out).mono ?_
    rintro e w2 ⟨rfl, b2⟩
    have B2 := Lib.hid (below_both B1.out b2)
    have K2 := Lib.hid (block_below b2 K1.out)
    have R2 := Lib.hid (R1.out.frame (same_all b2))
    clear b2 x0 x1 x2 x3
    obtain ⟨x0, x1, x2, x3⟩ := cd_block4 K2.out
    go_wp2_with fail
    refine (CKB.out w2 R2.out).mono ?_
    rintro e w3 ⟨rfl, b3⟩
    have B3 := Lib.hid (below_both B2.out b3)
    have K3 := Lib.hid (block_below b3 K2.out)
    have R3 := Lib.hid (R2.out.frame (same_all b3))
    clear b3 x0 x1 x2 x3
    obtain ⟨x0, x1, x2, x3⟩ := cd_block4 K3.out
    have K3d : Hid (w3.drew.heap[w.heap.size]? = _) := K3.out
    have R3d := Lib.hid (R3.out.frame (Same.drewN S w3 1))
    have B3d : Hid (Below w.heap.size w w3.drew) := B3.out.drew
    go_wp2_with fail
    go_region_held3 (fun w' => w'.cell? ⟨w.heap.size, 0, none⟩ = some (.int .i64 c.width) ∧ w'.cell? ⟨w.heap.size, 1, none⟩ = some (.int .i64 c.regs) ∧ w'.cell? ⟨w.heap.size, 2, none⟩ = some (.slice ia c.ins.length ic) ∧ w'.cell? ⟨w.heap.size, 3, none⟩ = some (.slice oa c.out.length oc))
      (first | with_reducible exact cd_block4 K6.out | with_reducible exact cd_block4 K5.out | with_reducible exact cd_block4 K4.out | exact ⟨x0, x1, x2, x3⟩)
      (first
      | (go_at_call 12
         refine (CCA.out _ R3d.out HL.out).mono ?_
         rintro e w4 ⟨rfl, b4⟩
         have B4 := Lib.hid (below_both B3d.out b4)
         have K4 := Lib.hid (block_below b4 K3d.out)
         have R4 := Lib.hid (R3d.out.frame (same_all b4))
         clear b4)
      | (go_at_call 13
         refine (CCB.out _ R4.out HL.out).mono ?_
         rintro e w5 ⟨rfl, b5⟩
         have B5 := Lib.hid (below_both B4.out b5)
         have K5 := Lib.hid (block_below b5 K4.out)
         clear b5)
      | (go_at_call 9
         refine (CL.out _ (HT.out.below B5.out)).mono ?_
         rintro e w6 ⟨rfl, b6⟩
         have B6 := Lib.hid (below_both B5.out b6)
         have K6 := Lib.hid (block_below b6 K5.out)
         clear b6)
      | fail)
    go_wp2_with fail
    go_ret
    exact ⟨rfl, B6.out⟩
end Go.Proofs.Sat
