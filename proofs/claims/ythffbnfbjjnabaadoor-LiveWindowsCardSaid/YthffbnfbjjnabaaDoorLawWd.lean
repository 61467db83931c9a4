/- The walk of the law LiveWindows. -/
import Derived.Test.YthffbnfbjjnabaaDoorLvZ
import Derived.Test.YthffbnfbjjnabaaDoorLvV
set_option linter.unusedVariables false
set_option linter.unusedSimpArgs false
namespace Go.Proofs.Sat
open Go Go.RowKit
set_option maxRecDepth 20000 in
set_option maxHeartbeats 4000000 in
theorem law_Windows (c : Cd) (p : CdAt) (f n : Int) (w : World) (hK : IsaT w) (h : CdRd (fun _ => True) w c p) (hf : -9223372036854775808 ≤ f ∧ f ≤ 9223372036854775807) (hn : -9223372036854775808 ≤ n ∧ n ≤ 9223372036854775807) : Calls Tryd.prog 6 #[cdVal c p, .int .i64 f, .int .i64 n] w fun e w' => e = .returned (.bool true) ∧ Below w.heap.size w w' := by
  obtain ⟨ia, ic, oa, oc⟩ := p
  have BW := Lib.hid (below_alloc (Below.refl w.heap.size w) (.cells (cellsC c ia ic oa oc) 25))
  have KC := Lib.hid (heap_alloc_new w (.cells (cellsC c ia ic oa oc) 25))
  have HC := Lib.hid h
  have hil := h.ins.le
  have hol := h.out.le
  have HF := Lib.hid hf
  have HN := Lib.hid hn
  clear hf hn
  unfold cdVal
  go_enter Tryd.func6, Tryd.ntmps6
  generalize hb : decide (c.ins.length ≤ 300 ∧ c.out.length ≤ 20) = bl at *
  have HBL := Lib.hid hb
  clear hb
  go_wp2_with fail
  refine (law50_light _ c ⟨ia, ic, oa, oc⟩ _ (h.frame (Same.below BW.out))).mono ?_
  rintro e w2 ⟨rfl, b2⟩
  have B2 := Lib.hid (below_both BW.out b2)
  have KC2 := Lib.hid (block_below b2 KC.out)
  rw [HBL.out]
  clear b2 HBL
  cases bl
  case false =>
    go_wp2_with fail
    refine (law50_lives w2 (hK.below B2.out)).mono ?_
    rintro e w3 ⟨rfl, b3⟩
    have B3 := Lib.hid (below_both B2.out b3)
    clear b3
    go_wp2_with fail
    go_ret
    exact ⟨rfl, B3.out⟩
  have CR := Lib.hid (live_Window _ c ⟨ia, ic, oa, oc⟩ f n w2 (hK.below B2.out) (HC.out.frame (Same.below B2.out)) HF.out HN.out)
  obtain ⟨z0, z1, z2, z3⟩ := cd_block4 KC2.out
  clear h
  go_wp2_with fail
  refine CR.out.mono ?_
  rintro e w3 ⟨⟨ja, jc, qa, qc⟩, rfl, c3, b3⟩
  have B3 := Lib.hid (below_alloc (below_both B2.out b3) (.cells (cellsC (winC c f n) ja jc qa qc) 25))
  have KC3 := Lib.hid (block_alloc (block_below b3 KC2.out) (.cells (cellsC (winC c f n) ja jc qa qc) 25))
  have KD3 := Lib.hid (heap_alloc_new w3 (.cells (cellsC (winC c f n) ja jc qa qc) 25))
  have HD3 := Lib.hid (c3.frame (Same.alloc _ w3 (.cells (cellsC (winC c f n) ja jc qa qc) 25)))
  clear b3 c3 z0 z1 z2 z3 CR
  obtain ⟨z0, z1, z2, z3⟩ := cd_block4 KC3.out
  go_upto_region 4 with fail
  generalize w3.alloc (.cells (cellsC (winC c f n) ja jc qa qc) 25) = W3 at *
  generalize w3.heap.size = g3 at *
  go_wp2_with fail
  refine (ref50_Window _ c ⟨ia, ic, oa, oc⟩ f n W3 (HC.out.frame (Same.below B3.out)) HF.out HN.out).mono ?_
  rintro e w4 ⟨⟨ka, kc, ra, rc⟩, rfl, c4, b4⟩
  have B4 := Lib.hid (below_alloc (below_both B3.out b4) (.cells (cellsC (winC c f n) ka kc ra rc) 25))
  have KC4 := Lib.hid (block_alloc (block_below b4 KC3.out) (.cells (cellsC (winC c f n) ka kc ra rc) 25))
  have KD4 := Lib.hid (block_alloc (block_below b4 KD3.out) (.cells (cellsC (winC c f n) ka kc ra rc) 25))
  have KX4 := Lib.hid (heap_alloc_new w4 (.cells (cellsC (winC c f n) ka kc ra rc) 25))
  have HD4 := Lib.hid ((HD3.out.frame (Same.below b4)).frame (Same.alloc _ w4 (.cells (cellsC (winC c f n) ka kc ra rc) 25)))
  have HX4 := Lib.hid (c4.frame (Same.alloc _ w4 (.cells (cellsC (winC c f n) ka kc ra rc) 25)))
  clear b4 c4 z0 z1 z2 z3
  go_upto_region 5 with fail
  generalize w4.alloc (.cells (cellsC (winC c f n) ka kc ra rc) 25) = W4 at *
  generalize w4.heap.size = g4 at *
  obtain ⟨x0, x1, x2, x3⟩ := cd_block4 KD4.out
  obtain ⟨y0, y1, y2, y3⟩ := cd_block4 KX4.out
  have CL := Lib.hid (fun W (b : Below w.heap.size w W) => law50_lives W (hK.below b))
  have CS : Hid (∀ W, CdRd (fun _ => True) W (winC c f n) ⟨ja, jc, qa, qc⟩ → CdRd (fun _ => True) W (winC c f n) ⟨ka, kc, ra, rc⟩ → Calls Tryd.prog 16 #[cdVal (winC c f n) ⟨ja, jc, qa, qc⟩, cdVal (winC c f n) ⟨ka, kc, ra, rc⟩] W fun e w' => e = .returned (.bool true) ∧ Below W.heap.size W w') := fun W h1 h2 => by
    have := ref50_Same _ _ (winC c f n) (winC c f n) ⟨ja, jc, qa, qc⟩ ⟨ka, kc, ra, rc⟩ W h1 h2
    rwa [decide_eq_true rfl] at this
  generalize winC c f n = d at *
  generalize winErr c f n = ce at *
  have t1 : (ce == ce) = true := by simp
  go_wp2_with fail
  refine (CS.out _ HD4.out HX4.out).mono ?_
  rintro e w7 ⟨rfl, b7⟩
  have B7 := Lib.hid (below_both B4.out b7)
  clear b7
  go_wp2_with fail
  refine (CL.out _ B7.out).mono ?_
  rintro e w8 ⟨rfl, b8⟩
  have B8 := Lib.hid (below_both B7.out b8)
  clear b8
  go_wp2_with fail
  go_ret
  exact ⟨rfl, B8.out⟩
end Go.Proofs.Sat
