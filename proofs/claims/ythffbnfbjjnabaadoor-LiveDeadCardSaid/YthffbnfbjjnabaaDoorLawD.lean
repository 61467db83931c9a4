/- The walk of the law LiveDead. -/
import Derived.Test.YthffbnfbjjnabaaDoorLvZ
set_option linter.unusedVariables false
set_option linter.unusedSimpArgs false
namespace Go.Proofs.Sat
open Go Go.RowKit
set_option maxRecDepth 20000 in
set_option maxHeartbeats 4000000 in
theorem law_Dead (c : Cd) (p : CdAt) (i : Int) (w : World) (hK : IsaT w) (h : CdRd (fun _ => True) w c p) : Calls Tryd.prog 3 #[cdVal c p, .int .i64 i] w fun e w' => e = .returned (.bool true) ∧ Below w.heap.size w w' := by
  obtain ⟨ia, ic, oa, oc⟩ := p
  have BW := Lib.hid (below_alloc (Below.refl w.heap.size w) (.cells (cellsC c ia ic oa oc) 25))
  have KC := Lib.hid (heap_alloc_new w (.cells (cellsC c ia ic oa oc) 25))
  have HC := Lib.hid h
  have hil := h.ins.le
  have hol := h.out.le
  unfold cdVal
  go_enter Tryd.func3, Tryd.ntmps3
  go_upto_region 1 with fail
  go_cut [17] (fun s wx => s = .bool (decide (40 < c.ins.length) || !(decide (c.ins.length ≤ 300 ∧ c.out.length ≤ 20))) ∧ Hid (wx.heap[w.heap.size]? = some (.cells (cellsC c ia ic oa oc) 25 (0, 0))) ∧ Hid (Below w.heap.size w wx))
  case first =>
    by_cases h40 : 40 < c.ins.length
    · have h40' : (40 : Int) < (c.ins.length : Int) := by omega
      have HE : Hid ((decide (40 < c.ins.length) || !(decide (c.ins.length ≤ 300 ∧ c.out.length ≤ 20))) = true) := by show _ = _; simp [h40]
      go_wp2_with fail
      go_meet
      case rel => exact ⟨by rw [HE.out], KC.out, BW.out⟩
    · have h40' : ¬ (40 : Int) < (c.ins.length : Int) := by omega
      have HE : Hid ((decide (40 < c.ins.length) || !(decide (c.ins.length ≤ 300 ∧ c.out.length ≤ 20))) = !(decide (c.ins.length ≤ 300 ∧ c.out.length ≤ 20))) := by show _ = _; simp [h40]
      generalize hb : decide (c.ins.length ≤ 300 ∧ c.out.length ≤ 20) = bl at *
      have HBL := Lib.hid hb
      clear hb
      go_wp2_with fail
      refine (law50_light _ c ⟨ia, ic, oa, oc⟩ _ (h.frame (Same.below BW.out))).mono ?_
      rintro e w2 ⟨rfl, b2⟩
      have B2 := Lib.hid (below_both BW.out b2)
      have KC2 := Lib.hid (block_below b2 KC.out)
      rw [HBL.out]
      clear b2
      go_wp2_with fail
      go_meet
      case rel => exact ⟨by rw [HE.out], KC2.out, B2.out⟩
  case rest =>
    obtain ⟨rfl, KC2, B2⟩ := hcut
    cases hg : (decide (40 < c.ins.length) || !(decide (c.ins.length ≤ 300 ∧ c.out.length ≤ 20)))
    case true =>
      clear hg
      go_wp2_with fail
      refine (law50_lives wc (hK.below B2.out)).mono ?_
      rintro e w3 ⟨rfl, b3⟩
      have B3 := Lib.hid (below_both B2.out b3)
      clear b3
      go_wp2_with fail
      go_ret
      exact ⟨rfl, B3.out⟩
    have hle : c.ins.length ≤ 40 ∧ c.out.length ≤ 20 := by
      rw [Bool.or_eq_false_iff, Bool.not_eq_false', decide_eq_true_iff, decide_eq_false_iff_not] at hg
      omega
    have CR := Lib.hid (live_Remove _ c ⟨ia, ic, oa, oc⟩ wc (hK.below B2.out) (HC.out.frame (Same.below B2.out)) (by omega))
    obtain ⟨z0, z1, z2, z3⟩ := cd_block4 KC2.out
    clear hg hle h
    go_wp2_with fail
    refine CR.out.mono ?_
    rintro e w3 ⟨⟨ja, jc, qa, qc⟩, rfl, c3, b3⟩
    have B3 := Lib.hid (below_alloc (below_both B2.out b3) (.cells (cellsC (remC c) ja jc qa qc) 25))
    have KC3 := Lib.hid (block_alloc (block_below b3 KC2.out) (.cells (cellsC (remC c) ja jc qa qc) 25))
    have KD3 := Lib.hid (heap_alloc_new w3 (.cells (cellsC (remC c) ja jc qa qc) 25))
    have HD3 := Lib.hid (c3.frame (Same.alloc _ w3 (.cells (cellsC (remC c) ja jc qa qc) 25)))
    clear b3 c3 z0 z1 z2 z3 CR
    obtain ⟨z0, z1, z2, z3⟩ := cd_block4 KC3.out
    go_upto_region 4 with fail
    generalize w3.alloc (.cells (cellsC (remC c) ja jc qa qc) 25) = W3 at *
    generalize w3.heap.size = g3 at *
    go_wp2_with fail
    refine (ref50_Remove _ c ⟨ia, ic, oa, oc⟩ W3 (HC.out.frame (Same.below B3.out))).mono ?_
    rintro e w4 ⟨⟨ka, kc, ra, rc⟩, rfl, c4, b4⟩
    have B4 := Lib.hid (below_alloc (below_both B3.out b4) (.cells (cellsC (remC c) ka kc ra rc) 25))
    have KC4 := Lib.hid (block_alloc (block_below b4 KC3.out) (.cells (cellsC (remC c) ka kc ra rc) 25))
    have KD4 := Lib.hid (block_alloc (block_below b4 KD3.out) (.cells (cellsC (remC c) ka kc ra rc) 25))
    have KX4 := Lib.hid (heap_alloc_new w4 (.cells (cellsC (remC c) ka kc ra rc) 25))
    have HD4 := Lib.hid ((HD3.out.frame (Same.below b4)).frame (Same.alloc _ w4 (.cells (cellsC (remC c) ka kc ra rc) 25)))
    have HX4 := Lib.hid (c4.frame (Same.alloc _ w4 (.cells (cellsC (remC c) ka kc ra rc) 25)))
    clear b4 c4 z0 z1 z2 z3
    go_upto_region 5 with fail
    generalize w4.alloc (.cells (cellsC (remC c) ka kc ra rc) 25) = W4 at *
    generalize w4.heap.size = g4 at *
    obtain ⟨z0, z1, z2, z3⟩ := cd_block4 KC4.out
    obtain ⟨x0, x1, x2, x3⟩ := cd_block4 KD4.out
    obtain ⟨y0, y1, y2, y3⟩ := cd_block4 KX4.out
    have B4d : Hid (Below w.heap.size w W4.drew) := below_drewN B4.out 1
    have KC4d : Hid (W4.drew.heap[w.heap.size]? = _) := KC4.out
    have KD4d : Hid (W4.drew.heap[g3]? = _) := KD4.out
    have KX4d : Hid (W4.drew.heap[g4]? = _) := KX4.out
    have HD4d : Hid (CdRd _ W4.drew (remC c) ⟨ja, jc, qa, qc⟩) := HD4.out.frame (Same.drewN _ W4 1)
    have HX4d : Hid (CdRd _ W4.drew (remC c) ⟨ka, kc, ra, rc⟩) := HX4.out.frame (Same.drewN _ W4 1)
    have CP := Lib.hid (fun W (b : Below w.heap.size w W) => live_Dead _ c ⟨ia, ic, oa, oc⟩ i W (hK.below b) (HC.out.frame (Same.below b)))
    have CQ := Lib.hid (fun W (b : Below w.heap.size w W) => ref50_Dead _ c ⟨ia, ic, oa, oc⟩ i W (HC.out.frame (Same.below b)))
    have CL := Lib.hid (fun W (b : Below w.heap.size w W) => law50_lives W (hK.below b))
    have CS : Hid (∀ W, CdRd (fun _ => True) W (remC c) ⟨ja, jc, qa, qc⟩ → CdRd (fun _ => True) W (remC c) ⟨ka, kc, ra, rc⟩ → Calls Tryd.prog 16 #[cdVal (remC c) ⟨ja, jc, qa, qc⟩, cdVal (remC c) ⟨ka, kc, ra, rc⟩] W fun e w' => e = .returned (.bool true) ∧ Below W.heap.size W w') := fun W h1 h2 => by
      have := ref50_Same _ _ (remC c) (remC c) ⟨ja, jc, qa, qc⟩ ⟨ka, kc, ra, rc⟩ W h1 h2
      rwa [decide_eq_true rfl] at this
    generalize deadL c i = b at *
    generalize remC c = d at *
    generalize hce : cdErr c = ce at *
    clear hce
    clear B4 KC4 KD4 KX4 HD4 HX4
    go_region_held3 (fun w' => (w'.cell? ⟨w.heap.size, 0, none⟩ = some (.int .i64 c.width) ∧ w'.cell? ⟨w.heap.size, 1, none⟩ = some (.int .i64 c.regs) ∧ w'.cell? ⟨w.heap.size, 2, none⟩ = some (.slice ia c.ins.length ic) ∧ w'.cell? ⟨w.heap.size, 3, none⟩ = some (.slice oa c.out.length oc)) ∧ (w'.cell? ⟨g3, 0, none⟩ = some (.int .i64 d.width) ∧ w'.cell? ⟨g3, 1, none⟩ = some (.int .i64 d.regs) ∧ w'.cell? ⟨g3, 2, none⟩ = some (.slice ja d.ins.length jc) ∧ w'.cell? ⟨g3, 3, none⟩ = some (.slice qa d.out.length qc)) ∧ (w'.cell? ⟨g4, 0, none⟩ = some (.int .i64 d.width) ∧ w'.cell? ⟨g4, 1, none⟩ = some (.int .i64 d.regs) ∧ w'.cell? ⟨g4, 2, none⟩ = some (.slice ka d.ins.length kc) ∧ w'.cell? ⟨g4, 3, none⟩ = some (.slice ra d.out.length rc)))
        (first | with_reducible exact ⟨cd_block4 KC8.out, cd_block4 KD8.out, cd_block4 KX8.out⟩ | with_reducible exact ⟨cd_block4 KC7.out, cd_block4 KD7.out, cd_block4 KX7.out⟩ | with_reducible exact ⟨cd_block4 KC6.out, cd_block4 KD6.out, cd_block4 KX6.out⟩ | with_reducible exact ⟨cd_block4 KC5.out, cd_block4 KD5.out, cd_block4 KX5.out⟩ | exact ⟨⟨z0, z1, z2, z3⟩, ⟨x0, x1, x2, x3⟩, ⟨y0, y1, y2, y3⟩⟩)
        (first
        | (go_at_call 14
           refine (CP.out _ B4d.out).mono ?_
           rintro e w5 ⟨rfl, b5⟩
           have B5 := Lib.hid (below_both B4d.out b5)
           have KC5 := Lib.hid (block_below b5 KC4d.out)
           have KD5 := Lib.hid (block_below b5 KD4d.out)
           have KX5 := Lib.hid (block_below b5 KX4d.out)
           have HD5 := Lib.hid (HD4d.out.frame (Same.below b5))
           have HX5 := Lib.hid (HX4d.out.frame (Same.below b5))
           clear b5)
        | (go_at_call 15
           refine (CQ.out _ B5.out).mono ?_
           rintro e w6 ⟨rfl, b6⟩
           have B6 := Lib.hid (below_both B5.out b6)
           have KC6 := Lib.hid (block_below b6 KC5.out)
           have KD6 := Lib.hid (block_below b6 KD5.out)
           have KX6 := Lib.hid (block_below b6 KX5.out)
           have HD6 := Lib.hid (HD5.out.frame (Same.below b6))
           have HX6 := Lib.hid (HX5.out.frame (Same.below b6))
           clear b6)
        | (go_at_call 16
           refine (CS.out _ HD6.out HX6.out).mono ?_
           rintro e w7 ⟨rfl, b7⟩
           have B7 := Lib.hid (below_both B6.out b7)
           have KC7 := Lib.hid (block_below b7 KC6.out)
           have KD7 := Lib.hid (block_below b7 KD6.out)
           have KX7 := Lib.hid (block_below b7 KX6.out)
           have HD7 := Lib.hid (HD6.out.frame (Same.below b7))
           have HX7 := Lib.hid (HX6.out.frame (Same.below b7))
           clear b7)
        | (go_at_call 11
           refine (CL.out _ B7.out).mono ?_
           rintro e w8 ⟨rfl, b8⟩
           have B8 := Lib.hid (below_both B7.out b8)
           have KC8 := Lib.hid (block_below b8 KC7.out)
           have KD8 := Lib.hid (block_below b8 KD7.out)
           have KX8 := Lib.hid (block_below b8 KX7.out)
           have HD8 := Lib.hid (HD7.out.frame (Same.below b8))
           have HX8 := Lib.hid (HX7.out.frame (Same.below b8))
           clear b8)
        | fail)
    go_wp2_with fail
    go_ret
    exact ⟨rfl, B8.out⟩
end Go.Proofs.Sat
