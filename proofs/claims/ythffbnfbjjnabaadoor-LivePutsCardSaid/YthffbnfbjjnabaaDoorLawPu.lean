/- The walk of the law LivePuts. -/
import Derived.Test.YthffbnfbjjnabaaDoorLawRm
import Derived.Test.YthffbnfbjjnabaaDoorLvH
set_option linter.unusedVariables false
set_option linter.unusedSimpArgs false
namespace Go.Proofs.Sat
open Go Go.RowKit
theorem pair_block {w : World} {g : Nat} {t : TypeId} {a b : Value} {fr : Nat × Nat} (h : w.heap[g]? = some (.cells #[a, b] t fr)) : w.cell? ⟨g, 0, none⟩ = some a ∧ w.cell? ⟨g, 1, none⟩ = some b :=
  ⟨by rw [cell_of_row _ _ 0 _ _ _ h]; rfl, by rw [cell_of_row _ _ 1 _ _ _ h]; rfl⟩
theorem winErr_two {c : Cd} {f n : Int} (hc : cdErr c = 0) (h : winErr c f n ≠ 0) : winErr c f n = 2 := by
  unfold winErr at h ⊢
  rw [if_neg (not_not_intro hc)] at h ⊢
  split
  · rfl
  · rename_i h2
    rw [if_neg h2] at h
    exact absurd rfl h
theorem put_imm {c : Cd} {f n : Int} (h : CdOK c) (hw : winErr c f n = 0) (himm : ∀ x ∈ c.ins, 0 ≤ x.imm ∧ x.imm < 18446744073709551616) : ∀ x ∈ (repC c (remC (winC c f n)) f n).ins, 0 ≤ x.imm ∧ x.imm < 18446744073709551616 := by
  rw [(put_short h hw).2]
  exact fun x hx => himm x ((put_sub _ _ _).subset hx)
set_option maxRecDepth 20000 in
set_option maxHeartbeats 8000000 in
theorem law_Puts (c : Cd) (p : CdAt) (f n : Int) (a : Nat → Nat) (w : World) (hK : IsaT w) (h : CdRd (fun _ => True) w c p) (hf : -9223372036854775808 ≤ f ∧ f ≤ 9223372036854775807) (hn : -9223372036854775808 ≤ n ∧ n ≤ 9223372036854775807) (ha : ∀ j, j < 8 → a j < 18446744073709551616) (himm : ∀ x ∈ c.ins, 0 ≤ x.imm ∧ x.imm < 18446744073709551616) :
    Calls Tryd.prog 8 #[cdVal c p, .agg #[.int .i64 f, .int .i64 n], .agg (cells8 a)] w fun e w' => e = .returned (.bool true) ∧ Below w.heap.size w w' := by
  obtain ⟨ia, ic, oa, oc⟩ := p
  have BW := Lib.hid (below_alloc (below_alloc (below_alloc (Below.refl w.heap.size w) (.cells (cellsC c ia ic oa oc) 25)) (.cells #[.int .i64 f, .int .i64 n] 44)) (.cells (cells8 a) 34))
  have KC := Lib.hid (block_alloc (block_alloc (heap_alloc_new w (.cells (cellsC c ia ic oa oc) 25)) (.cells #[.int .i64 f, .int .i64 n] 44)) (.cells (cells8 a) 34))
  have KX := Lib.hid (block_alloc (block_at1 w (.cells (cellsC c ia ic oa oc) 25) (.cells #[.int .i64 f, .int .i64 n] 44)) (.cells (cells8 a) 34))
  have KA : Hid ((((w.alloc (.cells (cellsC c ia ic oa oc) 25)).alloc (.cells #[.int .i64 f, .int .i64 n] 44)).alloc (.cells (cells8 a) 34)).heap[w.heap.size + 1 + 1]? = some (.cells (cells8 a) 34 (0, 0))) := block_at2 w _ _ _
  have HC := Lib.hid h
  have HA := Lib.hid ha
  have HIM := Lib.hid himm
  have HF := Lib.hid hf
  have HN := Lib.hid hn
  have hil := h.ins.le
  have hol := h.out.le
  clear ha himm hf hn
  unfold cdVal
  go_enter Tryd.func8, Tryd.ntmps8
  obtain ⟨z0, z1, z2, z3⟩ := cd_block4 KC.out
  go_upto_region 1 with fail
  go_cut [31] (fun s wx => ∃ g : Bool, s = .bool g ∧ Hid (g = false → c.ins.length ≤ 40 ∧ c.out.length ≤ 20 ∧ cdErr c = 0) ∧ Hid (wx.heap[w.heap.size]? = some (.cells (cellsC c ia ic oa oc) 25 (0, 0))) ∧ Hid (wx.heap[w.heap.size + 1]? = some (.cells #[.int .i64 f, .int .i64 n] 44 (0, 0))) ∧ Hid (wx.heap[w.heap.size + 1 + 1]? = some (.cells (cells8 a) 34 (0, 0))) ∧ Hid (Below w.heap.size w wx))
  case first =>
    have CL := Lib.hid (fun W (b : Below w.heap.size w W) => law50_light _ c ⟨ia, ic, oa, oc⟩ W (HC.out.frame (Same.below b)))
    have CK := Lib.hid (fun W (b : Below w.heap.size w W) => ref50_Check _ c ⟨ia, ic, oa, oc⟩ W (HC.out.frame (Same.below b)))
    generalize hbc : decide (c.ins.length ≤ 300 ∧ c.out.length ≤ 20) = bc at *
    have HBC := Lib.hid hbc
    clear hbc h
    generalize hce : cdErr c = ce at *
    have HCE := Lib.hid hce
    clear hce
    by_cases h40 : 40 < c.ins.length
    · have h40' : (40 : Int) < (c.ins.length : Int) := by omega
      go_wp2_with fail
      go_meet
      case rel => exact ⟨true, rfl, (fun e => by cases e), KC.out, KX.out, KA.out, BW.out⟩
    have h40' : ¬ (40 : Int) < (c.ins.length : Int) := by omega
    have H40 : Hid (c.ins.length ≤ 40) := by show _ ≤ _; omega
    go_wp2_with fail
    refine (CL.out _ BW.out).mono ?_
    rintro e w2 ⟨rfl, b2⟩
    have B2 := Lib.hid (below_both BW.out b2)
    have KC2 := Lib.hid (block_below b2 KC.out)
    have KX2 := Lib.hid (block_below b2 KX.out)
    have KA2 := Lib.hid (block_below b2 KA.out)
    clear b2 z0 z1 z2 z3
    obtain ⟨z0, z1, z2, z3⟩ := cd_block4 KC2.out
    cases bc
    · go_wp2_with fail
      go_meet
      case rel => exact ⟨true, rfl, (fun e => by cases e), KC2.out, KX2.out, KA2.out, B2.out⟩
    · have HL := Lib.hid (of_decide_eq_true HBC.out)
      go_wp2_with fail
      refine (CK.out w2 B2.out).mono ?_
      rintro e w3 ⟨rfl, b3⟩
      have B3 := Lib.hid (below_both B2.out b3)
      have KC3 := Lib.hid (block_below b3 KC2.out)
      have KX3 := Lib.hid (block_below b3 KX2.out)
      have KA3 := Lib.hid (block_below b3 KA2.out)
      clear b3
      go_wp2_with fail
      go_meet
      case rel => exact ⟨_, rfl, (fun hg => ⟨H40.out, HL.out.2, by simpa using hg⟩), KC3.out, KX3.out, KA3.out, B3.out⟩
  case rest =>
    obtain ⟨g, rfl, HG, KC2, KX2, KA2, B2⟩ := hcut
    clear z0 z1 z2 z3 BW KC KA KX
    cases g
    case true =>
      go_wp2_with fail
      refine (law50_lives wc (hK.below B2.out)).mono ?_
      rintro e w3 ⟨rfl, b3⟩
      have B3 := Lib.hid (below_both B2.out b3)
      clear b3
      go_wp2_with fail
      go_ret
      exact ⟨rfl, B3.out⟩
    obtain ⟨hl1, hl2, hce⟩ := HG.out rfl
    have HOK := Lib.hid (cd_ok hce)
    have HCE := Lib.hid hce
    have hol6 : c.out.length ≤ 1000000 := by omega
    have CW := live_Window _ c ⟨ia, ic, oa, oc⟩ f n wc (hK.below B2.out) (HC.out.frame (Same.below B2.out)) HF.out HN.out
    obtain ⟨z0, z1, z2, z3⟩ := cd_block4 KC2.out
    obtain ⟨e0, e1⟩ := pair_block KX2.out
    clear hce HG h hl1
    by_cases hw : winErr c f n = 0
    case neg =>
      rw [winErr_two HCE.out hw] at CW
      have CW' := Lib.hid CW
      clear hw CW
      go_wp2_with fail
      refine CW'.out.mono ?_
      rintro e w3 ⟨⟨ja, jc, qa, qc⟩, rfl, c3, b3⟩
      have B3 := Lib.hid (below_alloc (below_both B2.out b3) (.cells (cellsC (winC c f n) ja jc qa qc) 25))
      clear b3 c3 z0 z1 z2 z3 e0 e1 CW'
      go_wp2_with fail
      refine (law50_lives _ (hK.below B3.out)).mono ?_
      rintro e w4 ⟨rfl, b4⟩
      have B4 := Lib.hid (below_both B3.out b4)
      clear b4
      go_wp2_with fail
      go_ret
      exact ⟨rfl, B4.out⟩
    rw [hw] at CW
    have CW' := Lib.hid CW
    have HPS := Lib.hid (put_self HOK.out hw)
    have HPT := Lib.hid (put_short HOK.out hw).1
    have HDK := Lib.hid (put_cd HOK.out hw)
    have HDE := Lib.hid (err_of_ok HDK.out)
    have HDI := Lib.hid (put_imm HOK.out hw HIM.out)
    have HRUN := Lib.hid (fun s hr => put_run HOK.out hw c.width.toNat s hr)
    have HDW : Hid ((repC c (remC (winC c f n)) f n).width = c.width) := by show _ = _; rw [(put_short HOK.out hw).2]
    have eW : winC c f n = winCd c f.toNat n.toNat := by unfold winC; rw [if_pos hw]
    have HWE : Hid (cdErr (winC c f n) = 0) := by show _ = _; rw [eW]; exact err_of_ok (winCd_ok HOK.out _ _)
    have hwo : (winC c f n).out.length ≤ 1000000 := by
      rw [eW]
      have : (regsK (winOut c f.toNat n.toNat) 8).length ≤ 8 := regsK_length _ _
      show (regsK (winOut c f.toNat n.toNat) 8).length ≤ 1000000
      omega
    clear hw CW eW
    generalize winC c f n = W at *
    go_wp2_with fail
    refine CW'.out.mono ?_
    rintro e w3 ⟨⟨ja, jc, qa, qc⟩, rfl, c3, b3⟩
    have B3 := Lib.hid (below_alloc (below_both B2.out b3) (.cells (cellsC W ja jc qa qc) 25))
    have KC3 := Lib.hid (block_alloc (block_below b3 KC2.out) (.cells (cellsC W ja jc qa qc) 25))
    have KX3 := Lib.hid (block_alloc (block_below b3 KX2.out) (.cells (cellsC W ja jc qa qc) 25))
    have KA3 := Lib.hid (block_alloc (block_below b3 KA2.out) (.cells (cellsC W ja jc qa qc) 25))
    have KW3 := Lib.hid (heap_alloc_new w3 (.cells (cellsC W ja jc qa qc) 25))
    have HW3 := Lib.hid (c3.frame (Same.alloc _ w3 (.cells (cellsC W ja jc qa qc) 25)))
    clear b3 c3 z0 z1 z2 z3 e0 e1 CW'
    go_upto_region 6 with fail
    generalize w3.alloc (.cells (cellsC W ja jc qa qc) 25) = W3 at *
    generalize w3.heap.size = g3 at *
    have hK3 := hK.below B3.out
    have HC3 := Lib.hid (HC.out.frame (Same.below B3.out))
    clear HC hK KC2 KX2 KA2 B2
    have hjl := HW3.out.ins.le
    have hql := HW3.out.out.le
    -- Replace by the window itself
    have CP := live_Replace _ c W ⟨ia, ic, oa, oc⟩ ⟨ja, jc, qa, qc⟩ f n W3 hK3 hol6 HC3.out HW3.out HF.out HN.out
    rw [HPS.out.1, HPS.out.2] at CP
    have CP' := Lib.hid CP
    clear CP
    obtain ⟨z0, z1, z2, z3⟩ := cd_block4 KC3.out
    obtain ⟨e0, e1⟩ := pair_block KX3.out
    obtain ⟨y0, y1, y2, y3⟩ := cd_block4 KW3.out
    go_wp2_with fail
    refine CP'.out.mono ?_
    rintro e w6 ⟨⟨ka, kc, ra, rc⟩, rfl, c6, b6⟩
    have B6 := Lib.hid (below_alloc b6 (.cells (cellsC c ka kc ra rc) 25))
    have KC6 := Lib.hid (block_alloc (block_below b6 KC3.out) (.cells (cellsC c ka kc ra rc) 25))
    have KX6 := Lib.hid (block_alloc (block_below b6 KX3.out) (.cells (cellsC c ka kc ra rc) 25))
    have KA6 := Lib.hid (block_alloc (block_below b6 KA3.out) (.cells (cellsC c ka kc ra rc) 25))
    have KW6 := Lib.hid (block_alloc (block_below b6 KW3.out) (.cells (cellsC c ka kc ra rc) 25))
    have KD6 := Lib.hid (heap_alloc_new w6 (.cells (cellsC c ka kc ra rc) 25))
    have HD6 := Lib.hid (c6.frame (Same.alloc _ w6 (.cells (cellsC c ka kc ra rc) 25)))
    have hg6 : W3.heap.size ≤ w6.heap.size := b6.size
    have HG6 := Lib.hid hg6
    clear b6 c6 z0 z1 z2 z3 e0 e1 y0 y1 y2 y3 CP' hg6
    go_upto_region 7 with fail
    generalize w6.alloc (.cells (cellsC c ka kc ra rc) 25) = W6 at *
    generalize w6.heap.size = g6 at *
    have hkl := HD6.out.ins.le
    have hrl := HD6.out.out.le
    have CS : Hid (Calls Tryd.prog 16 #[cdVal c ⟨ia, ic, oa, oc⟩, cdVal c ⟨ka, kc, ra, rc⟩] W6 fun e w' => e = .returned (.bool true) ∧ Below W6.heap.size W6 w') := by
      have := ref50_Same _ _ c c ⟨ia, ic, oa, oc⟩ ⟨ka, kc, ra, rc⟩ W6 (HC3.out.frame (Same.below B6.out)) HD6.out
      rwa [decide_eq_true rfl] at this
    obtain ⟨z0, z1, z2, z3⟩ := cd_block4 KC6.out
    obtain ⟨x0, x1, x2, x3⟩ := cd_block4 KD6.out
    go_wp2_with fail
    refine CS.out.mono ?_
    rintro e w7 ⟨rfl, b7⟩
    have B7 := Lib.hid (below_both B6.out b7)
    have KC7 := Lib.hid (block_below b7 KC6.out)
    have KX7 := Lib.hid (block_below b7 KX6.out)
    have KA7 := Lib.hid (block_below b7 KA6.out)
    have KW7 := Lib.hid (block_below b7 KW6.out)
    have KD7 := Lib.hid (block_below b7 KD6.out)
    clear b7 z0 z1 z2 z3 x0 x1 x2 x3 CS HD6
    have hK7 := hK3.below B7.out
    have CM := live_Remove _ W ⟨ja, jc, qa, qc⟩ w7 hK7 (HW3.out.frame (Same.below B7.out)) hwo
    rw [HWE.out] at CM
    have CM' := Lib.hid CM
    clear CM hwo
    generalize remC W = V at *
    obtain ⟨y0, y1, y2, y3⟩ := cd_block4 KW7.out
    go_wp2_with fail
    refine CM'.out.mono ?_
    rintro e w8 ⟨⟨ma, mc, sa, sc⟩, rfl, c8, b8⟩
    have B8 := Lib.hid (below_alloc (below_both B7.out b8) (.cells (cellsC V ma mc sa sc) 25))
    have KC8 := Lib.hid (block_alloc (block_below b8 KC7.out) (.cells (cellsC V ma mc sa sc) 25))
    have KX8 := Lib.hid (block_alloc (block_below b8 KX7.out) (.cells (cellsC V ma mc sa sc) 25))
    have KA8 := Lib.hid (block_alloc (block_below b8 KA7.out) (.cells (cellsC V ma mc sa sc) 25))
    have KD8 := Lib.hid (block_alloc (block_below b8 KD7.out) (.cells (cellsC V ma mc sa sc) 25))
    have KV8 := Lib.hid (heap_alloc_new w8 (.cells (cellsC V ma mc sa sc) 25))
    have HV8 := Lib.hid (c8.frame (Same.alloc _ w8 (.cells (cellsC V ma mc sa sc) 25)))
    clear b8 c8 y0 y1 y2 y3 CM' KC7 KX7 KA7 KW7 KD7 KC6 KX6 KA6 KW6 KD6
    go_upto_region 10 with fail
    generalize w8.alloc (.cells (cellsC V ma mc sa sc) 25) = W8 at *
    generalize w8.heap.size = g8 at *
    have hml := HV8.out.ins.le
    have hsl := HV8.out.out.le
    have CQ := live_Replace _ c V ⟨ia, ic, oa, oc⟩ ⟨ma, mc, sa, sc⟩ f n W8 (hK3.below B8.out) hol6 (HC3.out.frame (Same.below B8.out)) HV8.out HF.out HN.out
    rw [HPT.out] at CQ
    have CQ' := Lib.hid CQ
    clear CQ
    have hg8 : g6 < W8.heap.size := (Array.getElem?_eq_some_iff.1 KD8.out).1
    have HG8 := Lib.hid hg8
    clear hg8
    generalize repC c V f n = d at *
    obtain ⟨z0, z1, z2, z3⟩ := cd_block4 KC8.out
    obtain ⟨e0, e1⟩ := pair_block KX8.out
    obtain ⟨y0, y1, y2, y3⟩ := cd_block4 KV8.out
    go_wp2_with fail
    refine CQ'.out.mono ?_
    rintro e w10 ⟨⟨la, lc, na, nc⟩, rfl, c10, b10⟩
    have B10 := Lib.hid (below_both B8.out b10)
    have KC10 := Lib.hid (block_below b10 KC8.out)
    have KA10 := Lib.hid (block_below b10 KA8.out)
    have KD10 := Lib.hid (block_below b10 KD8.out)
    have HD10 := Lib.hid c10
    clear b10 c10 z0 z1 z2 z3 e0 e1 y0 y1 y2 y3 CQ'
    have hll := HD10.out.ins.le
    have hnl0 := HD10.out.out.le
    obtain ⟨x0, x1, x2, x3⟩ := cd_block4 KD10.out
    have xf : ∀ i, w10.frozen? ⟨g6, i, none⟩ = false := fun i => frozen_of_block KD10.out
    have KC11 : Hid (((((w10.setCell ⟨g6, 0, none⟩ (.int .i64 d.width)).setCell ⟨g6, 1, none⟩ (.int .i64 d.regs)).setCell ⟨g6, 2, none⟩ (.slice la d.ins.length lc)).setCell ⟨g6, 3, none⟩ (.slice na d.out.length nc)).heap[w.heap.size]? = some (.cells (cellsC c ia ic oa oc) 25 (0, 0))) := (four_far w10 g6 _ _ _ _ w.heap.size (by have h1 := HG6.out; have h2 := (Array.getElem?_eq_some_iff.1 KC3.out).1; omega)).trans KC10.out
    have KA11 : Hid (((((w10.setCell ⟨g6, 0, none⟩ (.int .i64 d.width)).setCell ⟨g6, 1, none⟩ (.int .i64 d.regs)).setCell ⟨g6, 2, none⟩ (.slice la d.ins.length lc)).setCell ⟨g6, 3, none⟩ (.slice na d.out.length nc)).heap[w.heap.size + 1 + 1]? = some (.cells (cells8 a) 34 (0, 0))) := (four_far w10 g6 _ _ _ _ (w.heap.size + 1 + 1) (by have h1 := HG6.out; have h2 := (Array.getElem?_eq_some_iff.1 KA3.out).1; omega)).trans KA10.out
    have KD11 : Hid (((((w10.setCell ⟨g6, 0, none⟩ (.int .i64 d.width)).setCell ⟨g6, 1, none⟩ (.int .i64 d.regs)).setCell ⟨g6, 2, none⟩ (.slice la d.ins.length lc)).setCell ⟨g6, 3, none⟩ (.slice na d.out.length nc)).heap[g6]? = some (.cells (cellsC d la lc na nc) 25 (0, 0))) := four_set' KD10.out _ _ _ _
    have HD11 : Hid (CdRd _ ((((w10.setCell ⟨g6, 0, none⟩ (.int .i64 d.width)).setCell ⟨g6, 1, none⟩ (.int .i64 d.regs)).setCell ⟨g6, 2, none⟩ (.slice la d.ins.length lc)).setCell ⟨g6, 3, none⟩ (.slice na d.out.length nc)) d ⟨la, lc, na, nc⟩) := HD10.out.frame (four_same (fun b hb => by have h1 : W8.heap.size ≤ b := hb; have h2 := HG8.out; show b ≠ g6; omega) _ _ _ _)
    have B11 : Hid (Below W3.heap.size W3 ((((w10.setCell ⟨g6, 0, none⟩ (.int .i64 d.width)).setCell ⟨g6, 1, none⟩ (.int .i64 d.regs)).setCell ⟨g6, 2, none⟩ (.slice la d.ins.length lc)).setCell ⟨g6, 3, none⟩ (.slice na d.out.length nc))) := four_below B10.out HG6.out _ _ _ _
    go_upto_region 11 with fail
    generalize ((((w10.setCell ⟨g6, 0, none⟩ (.int .i64 d.width)).setCell ⟨g6, 1, none⟩ (.int .i64 d.regs)).setCell ⟨g6, 2, none⟩ (.slice la d.ins.length lc)).setCell ⟨g6, 3, none⟩ (.slice na d.out.length nc)) = W11 at *
    clear x0 x1 x2 x3 xf KC10 KA10 KD10 HD10 B10 KC8 KX8 KA8 KD8 KV8 HV8 B8
    obtain ⟨x0, x1, x2, x3⟩ := cd_block4 KD11.out
    have CK := Lib.hid (ref50_Check _ d ⟨la, lc, na, nc⟩ W11 HD11.out)
    rw [HDE.out] at CK
    go_wp2_with fail
    refine CK.out.mono ?_
    rintro e w6 ⟨rfl, b6⟩
    have HD6 := Lib.hid (HD11.out.frame (Same.below b6))
    have B6' := Lib.hid (below_both B11.out b6)
    have KC6 := Lib.hid (block_below b6 KC11.out)
    have KA6 := Lib.hid (block_below b6 KA11.out)
    have KD6 := Lib.hid (block_below b6 KD11.out)
    have HD3 := Lib.hid (fun Z (b : Below w6.heap.size w6 Z) => HD6.out.frame (Same.below b))
    clear b6 x0 x1 x2 x3 CK
    have CA := Lib.hid (fun W (b : Below W3.heap.size W3 W) => ref50_Run' _ c ⟨ia, ic, oa, oc⟩ a W (HC3.out.frame (Same.below b)) HOK.out HA.out HIM.out)
    have CB := Lib.hid (fun W (b : Below w6.heap.size w6 W) => ref50_Run' _ d ⟨la, lc, na, nc⟩ a W (HD3.out W b) HDK.out HA.out HDI.out)
    have HQ := Lib.hid (HRUN.out (cutS c.width.toNat a 8))
    clear B7 HW3 KW3
    rw [HDW.out] at CB
    clear HRUN
    generalize runN c.width.toNat c.ins (cutS c.width.toNat a 8) = X1 at *
    generalize runN c.width.toNat d.ins (cutS c.width.toNat a 8) = X2 at *
    obtain ⟨s1, k1⟩ := X1
    obtain ⟨s2, k2⟩ := X2
    obtain ⟨z0, z1, z2, z3⟩ := cd_block4 KC6.out
    obtain ⟨n0, n1, n2, n3, n4, n5, n6, n7⟩ := num_cells KA6.out
    go_wp2_with fail
    refine (CA.out _ B6'.out).mono ?_
    rintro e w7 ⟨rfl, b7⟩
    have B7d := Lib.hid (below_alloc b7 (.cells (cells8 s1) 34))
    have B7 := Lib.hid (below_alloc (below_both B6'.out b7) (.cells (cells8 s1) 34))
    have KC7 := Lib.hid (block_alloc (block_below b7 KC6.out) (.cells (cells8 s1) 34))
    have KA7 := Lib.hid (block_alloc (block_below b7 KA6.out) (.cells (cells8 s1) 34))
    have KD7 := Lib.hid (block_alloc (block_below b7 KD6.out) (.cells (cells8 s1) 34))
    have KX7 := Lib.hid (heap_alloc_new w7 (.cells (cells8 s1) 34))
    clear b7 z0 z1 z2 z3 n0 n1 n2 n3 n4 n5 n6 n7 CA
    obtain ⟨y0, y1, y2, y3⟩ := cd_block4 KD7.out
    obtain ⟨n0, n1, n2, n3, n4, n5, n6, n7⟩ := num_cells KA7.out
    go_wp2_with fail
    refine (CB.out _ B7d.out).mono ?_
    rintro e w8 ⟨rfl, b8⟩
    have B8 := Lib.hid (below_alloc (below_both B7.out b8) (.cells (cells8 s2) 34))
    have KC8 := Lib.hid (block_alloc (block_below b8 KC7.out) (.cells (cells8 s2) 34))
    have KX8 := Lib.hid (block_alloc (block_below b8 KX7.out) (.cells (cells8 s2) 34))
    have KY8 := Lib.hid (heap_alloc_new w8 (.cells (cells8 s2) 34))
    clear b8 y0 y1 y2 y3 n0 n1 n2 n3 n4 n5 n6 n7 CB
    have CL := Lib.hid (fun W (b : Below W3.heap.size W3 W) => law50_lives W (hK3.below b))
    cases k1
    case false =>
      go_wp2_with fail
      refine (CL.out _ B8.out).mono ?_
      rintro e w9 ⟨rfl, b9⟩
      have B9 := Lib.hid (below_both B3.out (below_both B8.out b9))
      clear b9
      go_wp2_with fail
      go_ret
      exact ⟨rfl, B9.out⟩
    case true =>
      obtain ⟨hk2, he2⟩ := HQ.out rfl
      replace hk2 : k2 = true := hk2
      subst hk2
      have HE2 : Hid (∀ r ∈ c.out, s1 r.toNat = s2 r.toNat) := he2
      clear he2 HQ
      obtain ⟨z0, z1, z2, z3⟩ := cd_block4 KC8.out
      go_wp2_with fail
      go_loopw [111] (fun i wr => ∃ k : Nat, k ≤ c.out.length ∧ i = .int .i64 k ∧ Hid (wr.heap[w.heap.size]? = some (.cells (cellsC c ia ic oa oc) 25 (0, 0))) ∧ Hid (wr.heap[w7.heap.size]? = some (.cells (cells8 s1) 34 (0, 0))) ∧ Hid (wr.heap[w8.heap.size]? = some (.cells (cells8 s2) 34 (0, 0))) ∧ Hid (Below W3.heap.size W3 wr)) (fun i _ => c.out.length - (intOf i).toNat)
      case atStart => exact ⟨0, by omega, rfl, KC8.out, KX8.out, KY8.out, B8.out⟩
      case round =>
        clear z0 z1 z2 z3
        obtain ⟨k, hk, rfl, KC9, KX9, KY9, B9⟩ := hrel
        by_cases hlt : k < c.out.length
        · obtain ⟨ob, oo, rfl, -, -, hc⟩ := (HC3.out.out.frame (Same.below B9.out)).vals (by omega) 0
          have d5 := hc k hlt
          rw [getD_at _ hlt] at d5
          have hr := HOK.out.out _ (List.getElem_mem hlt)
          have he := HE2.out _ (List.getElem_mem hlt)
          clear hc
          generalize c.out[k] = r at *
          obtain ⟨hr0, hr1⟩ := hr
          obtain ⟨m, rfl⟩ := Int.eq_ofNat_of_zero_le hr0
          rw [Int.toNat_natCast] at he
          have hr2 := HOK.out.r2
          have hm8 : m < 8 := by omega
          have hm8' : (m : Int) < 8 := by omega
          have hkl : (k : Int) < (c.out.length : Int) := by omega
          clear hr1 hr2
          obtain ⟨z0, z1, z2, z3⟩ := cd_block4 KC9.out
          have na := (num_at KX9.out hm8).1
          have nb := (num_at KY9.out hm8).1
          rw [← he] at nb
          clear he
          generalize s1 m = v at *
          have tn : ((v : Int) != (v : Int)) = false := by simp
          go_upto_region 20 with fail
          go_quiet (fail)
          have DD : Drawn wr (wr.drewN nq) := ⟨nq, rfl⟩
          go_wp2_with fail
          go_roundw
          case rel => exact ⟨k + 1, by omega, by go_num, DD.heap KC9.out, DD.heap KX9.out, DD.heap KY9.out, below_both B9.out (DD.below _)⟩
          case measure => simp [intOf]; omega
        · have hnl : ¬ ((k : Int) < (c.out.length : Int)) := by omega
          go_wp2_with fail
          refine (CL.out _ B9.out).mono ?_
          rintro e w9 ⟨rfl, b9⟩
          have B10 := Lib.hid (below_both B3.out (below_both B9.out b9))
          clear b9
          go_wp2_with fail
          go_ret
          exact ⟨rfl, B10.out⟩
theorem law_Puts' (c : Cd) (p : CdAt) (f n : Int) (a : Nat → Int) (w : World) (hK : IsaT w) (h : CdRd (fun _ => True) w c p) (hf : -9223372036854775808 ≤ f ∧ f ≤ 9223372036854775807) (hn : -9223372036854775808 ≤ n ∧ n ≤ 9223372036854775807) (ha : ∀ i, i < 8 → (Lit.int .u64 (a i)).wf = true) (himm : ∀ x ∈ c.ins, 0 ≤ x.imm ∧ x.imm < 18446744073709551616) :
    Calls Tryd.prog 8 #[cdVal c p, .agg #[.int .i64 f, .int .i64 n], .agg #[.int .u64 (a 0), .int .u64 (a 1), .int .u64 (a 2), .int .u64 (a 3), .int .u64 (a 4), .int .u64 (a 5), .int .u64 (a 6), .int .u64 (a 7)]] w fun e w' => e = .returned (.bool true) ∧ Below w.heap.size w w' := by
  rw [nums_eq a ha]
  exact law_Puts c p f n _ w hK h hf hn (nums_lt a ha) himm
end Go.Proofs.Sat
