/- The walk of the law LiveReplaces. -/
import Derived.Test.YthffbnfbjjnabaaDoorLvZ
import Derived.Test.YthffbnfbjjnabaaDoorLvH
set_option linter.unusedVariables false
set_option linter.unusedSimpArgs false
namespace Go.Proofs.Sat
open Go Go.RowKit
theorem two_block {w : World} {g : Nat} {t : TypeId} {a b : Value} {fr : Nat × Nat} (h : w.heap[g]? = some (.cells #[a, b] t fr)) : w.cell? ⟨g, 0, none⟩ = some a ∧ w.cell? ⟨g, 1, none⟩ = some b :=
  ⟨by rw [cell_of_row _ _ 0 _ _ _ h]; rfl, by rw [cell_of_row _ _ 1 _ _ _ h]; rfl⟩
set_option maxRecDepth 20000 in
set_option maxHeartbeats 4000000 in
theorem law_Replaces (c d : Cd) (p q : CdAt) (f n : Int) (w : World) (hK : IsaT w) (h : CdRd (fun _ => True) w c p) (h' : CdRd (fun _ => True) w d q) (hf : -9223372036854775808 ≤ f ∧ f ≤ 9223372036854775807) (hn : -9223372036854775808 ≤ n ∧ n ≤ 9223372036854775807) : Calls Tryd.prog 7 #[cdVal c p, cdVal d q, .agg #[.int .i64 f, .int .i64 n]] w fun e w' => e = .returned (.bool true) ∧ Below w.heap.size w w' := by
  obtain ⟨ia, ic, oa, oc⟩ := p
  obtain ⟨ja, jc, qa, qc⟩ := q
  have BW := Lib.hid (below_alloc (below_alloc (below_alloc (Below.refl w.heap.size w) (.cells (cellsC c ia ic oa oc) 25)) (.cells (cellsC d ja jc qa qc) 25)) (.cells #[.int .i64 f, .int .i64 n] 44))
  have KC := Lib.hid (block_alloc (block_alloc (heap_alloc_new w (.cells (cellsC c ia ic oa oc) 25)) (.cells (cellsC d ja jc qa qc) 25)) (.cells #[.int .i64 f, .int .i64 n] 44))
  have KD := Lib.hid (block_alloc (block_at1 w (.cells (cellsC c ia ic oa oc) 25) (.cells (cellsC d ja jc qa qc) 25)) (.cells #[.int .i64 f, .int .i64 n] 44))
  have KX : Hid ((((w.alloc (.cells (cellsC c ia ic oa oc) 25)).alloc (.cells (cellsC d ja jc qa qc) 25)).alloc (.cells #[.int .i64 f, .int .i64 n] 44)).heap[w.heap.size + 1 + 1]? = some (.cells #[.int .i64 f, .int .i64 n] 44 (0, 0))) := block_at2 w _ _ _
  have HC := Lib.hid h
  have HD := Lib.hid h'
  have hil := h.ins.le
  have hol := h.out.le
  have hjl := h'.ins.le
  have hql := h'.out.le
  have HF := Lib.hid hf
  have HN := Lib.hid hn
  clear hf hn
  unfold cdVal
  go_enter Tryd.func7, Tryd.ntmps7
  obtain ⟨s0, s1, s2, s3⟩ := cd_block4 KC.out
  obtain ⟨t0, t1, t2, t3⟩ := cd_block4 KD.out
  go_upto_region 1 with fail
  generalize ((w.alloc (.cells (cellsC c ia ic oa oc) 25)).alloc (.cells (cellsC d ja jc qa qc) 25)).alloc (.cells #[.int .i64 f, .int .i64 n] 44) = W0 at *
  have HLC := Lib.hid (fun W (b : Below w.heap.size w W) => law50_light _ c ⟨ia, ic, oa, oc⟩ W (HC.out.frame (Same.below b)))
  have HLD := Lib.hid (fun W (b : Below w.heap.size w W) => law50_light _ d ⟨ja, jc, qa, qc⟩ W (HD.out.frame (Same.below b)))
  clear h h'
  go_cut [18] (fun s wx => ∃ b : Bool, s = .bool b ∧ Hid (b = false → c.out.length ≤ 20) ∧ Hid (wx.heap[w.heap.size]? = some (.cells (cellsC c ia ic oa oc) 25 (0, 0))) ∧ Hid (wx.heap[w.heap.size + 1]? = some (.cells (cellsC d ja jc qa qc) 25 (0, 0))) ∧ Hid (wx.heap[w.heap.size + 1 + 1]? = some (.cells #[.int .i64 f, .int .i64 n] 44 (0, 0))) ∧ Hid (Below w.heap.size w wx))
  case first =>
    generalize hbc : decide (c.ins.length ≤ 300 ∧ c.out.length ≤ 20) = bc at *
    have HBC := Lib.hid hbc
    clear hbc
    generalize decide (d.ins.length ≤ 300 ∧ d.out.length ≤ 20) = bd at *
    go_wp2_with fail
    refine (HLC.out W0 BW.out).mono ?_
    rintro e w2 ⟨rfl, b2⟩
    have B2 := Lib.hid (below_both BW.out b2)
    have KC2 := Lib.hid (block_below b2 KC.out)
    have KD2 := Lib.hid (block_below b2 KD.out)
    have KX2 := Lib.hid (block_below b2 KX.out)
    clear b2 s0 s1 s2 s3 t0 t1 t2 t3
    obtain ⟨t0, t1, t2, t3⟩ := cd_block4 KD2.out
    cases bc
    · go_wp2_with fail
      go_meet
      case rel => exact ⟨true, rfl, (fun e => by cases e), KC2.out, KD2.out, KX2.out, B2.out⟩
    · have HL : Hid (c.out.length ≤ 20) := (of_decide_eq_true HBC.out).2
      go_wp2_with fail
      refine (HLD.out w2 B2.out).mono ?_
      rintro e w3 ⟨rfl, b3⟩
      have B3 := Lib.hid (below_both B2.out b3)
      have KC3 := Lib.hid (block_below b3 KC2.out)
      have KD3 := Lib.hid (block_below b3 KD2.out)
      have KX3 := Lib.hid (block_below b3 KX2.out)
      clear b3
      cases bd
      all_goals
        go_wp2_with fail
        go_meet
        case rel => exact ⟨_, rfl, fun _ => HL.out, KC3.out, KD3.out, KX3.out, B3.out⟩
  case rest =>
    obtain ⟨b, rfl, HL, KC2, KD2, KX2, B2⟩ := hcut
    clear s0 s1 s2 s3 t0 t1 t2 t3 HLC HLD
    cases b
    case true =>
      go_wp2_with fail
      refine (law50_lives wc (hK.below B2.out)).mono ?_
      rintro e w3 ⟨rfl, b3⟩
      have B3 := Lib.hid (below_both B2.out b3)
      clear b3
      go_wp2_with fail
      go_ret
      exact ⟨rfl, B3.out⟩
    have hle := HL.out rfl
    obtain ⟨s0, s1, s2, s3⟩ := cd_block4 KC2.out
    obtain ⟨t0, t1, t2, t3⟩ := cd_block4 KD2.out
    obtain ⟨e0, e1⟩ := two_block KX2.out
    have CR := Lib.hid (live_Replace _ c d ⟨ia, ic, oa, oc⟩ ⟨ja, jc, qa, qc⟩ f n wc (hK.below B2.out) (by omega) (HC.out.frame (Same.below B2.out)) (HD.out.frame (Same.below B2.out)) HF.out HN.out)
    have CQ := Lib.hid (fun W (b : Below w.heap.size w W) => ref50_Replace _ c d ⟨ia, ic, oa, oc⟩ ⟨ja, jc, qa, qc⟩ f n W (HC.out.frame (Same.below b)) (HD.out.frame (Same.below b)) HF.out HN.out)
    generalize repC c d f n = z at *
    generalize repErr c d f n = ce at *
    go_wp2_with fail
    refine CR.out.mono ?_
    rintro e w3 ⟨⟨ka, kc, ra, rc⟩, rfl, c3, b3⟩
    have B3 := Lib.hid (below_alloc (below_both B2.out b3) (.cells (cellsC z ka kc ra rc) 25))
    have KC3 := Lib.hid (block_alloc (block_below b3 KC2.out) (.cells (cellsC z ka kc ra rc) 25))
    have KD3 := Lib.hid (block_alloc (block_below b3 KD2.out) (.cells (cellsC z ka kc ra rc) 25))
    have KX3 := Lib.hid (block_alloc (block_below b3 KX2.out) (.cells (cellsC z ka kc ra rc) 25))
    have KG3 := Lib.hid (heap_alloc_new w3 (.cells (cellsC z ka kc ra rc) 25))
    have HG3 := Lib.hid (c3.frame (Same.alloc _ w3 (.cells (cellsC z ka kc ra rc) 25)))
    clear b3 c3 s0 s1 s2 s3 t0 t1 t2 t3 e0 e1 CR
    obtain ⟨s0, s1, s2, s3⟩ := cd_block4 KC3.out
    obtain ⟨t0, t1, t2, t3⟩ := cd_block4 KD3.out
    obtain ⟨e0, e1⟩ := two_block KX3.out
    go_upto_region 4 with fail
    generalize w3.alloc (.cells (cellsC z ka kc ra rc) 25) = W3 at *
    generalize w3.heap.size = g3 at *
    go_wp2_with fail
    refine (CQ.out W3 B3.out).mono ?_
    rintro e w4 ⟨⟨la, lc, na, nc⟩, rfl, c4, b4⟩
    have B4 := Lib.hid (below_alloc (below_both B3.out b4) (.cells (cellsC z la lc na nc) 25))
    have KG4 := Lib.hid (block_alloc (block_below b4 KG3.out) (.cells (cellsC z la lc na nc) 25))
    have KY4 := Lib.hid (heap_alloc_new w4 (.cells (cellsC z la lc na nc) 25))
    have HG4 := Lib.hid ((HG3.out.frame (Same.below b4)).frame (Same.alloc _ w4 (.cells (cellsC z la lc na nc) 25)))
    have HY4 := Lib.hid (c4.frame (Same.alloc _ w4 (.cells (cellsC z la lc na nc) 25)))
    clear b4 c4 s0 s1 s2 s3 t0 t1 t2 t3 e0 e1 CQ
    go_upto_region 5 with fail
    generalize w4.alloc (.cells (cellsC z la lc na nc) 25) = W4 at *
    generalize w4.heap.size = g4 at *
    obtain ⟨x0, x1, x2, x3⟩ := cd_block4 KG4.out
    obtain ⟨y0, y1, y2, y3⟩ := cd_block4 KY4.out
    have CS : Hid (Calls Tryd.prog 16 #[cdVal z ⟨ka, kc, ra, rc⟩, cdVal z ⟨la, lc, na, nc⟩] W4 fun e w' => e = .returned (.bool true) ∧ Below W4.heap.size W4 w') := by
      have := ref50_Same _ _ z z ⟨ka, kc, ra, rc⟩ ⟨la, lc, na, nc⟩ W4 HG4.out HY4.out
      rwa [decide_eq_true rfl] at this
    have CL := Lib.hid (fun W (b : Below w.heap.size w W) => law50_lives W (hK.below b))
    have t1 : (ce == ce) = true := by simp
    go_wp2_with fail
    refine CS.out.mono ?_
    rintro e w7 ⟨rfl, b7⟩
    have B7 := Lib.hid (below_both B4.out b7)
    clear b7
    go_wp2_with fail
    refine (CL.out _ B7.out).mono ?_
    rintro e w8 ⟨rfl, b8⟩
    have B8 := Lib.hid (below_both B7.out b8)
    clear b8
    go_wp2_with fail
    go_ret
    exact ⟨rfl, B8.out⟩
end Go.Proofs.Sat
