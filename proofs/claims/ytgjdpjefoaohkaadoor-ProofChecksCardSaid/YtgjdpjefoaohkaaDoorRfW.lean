/- The walk of the reference's Same. -/
import Derived.Test.YtgjdpjefoaohkaaDoorRfS
import Derived.Test.YtgjdpjefoaohkaaDoorR3
set_option linter.unusedVariables false
set_option linter.unusedSimpArgs false
namespace Go.Proofs.Sat
open Go Go.RowKit
theorem congrArgAt {α : Type} {l m : List α} (e : l = m) {k : Nat} (h : k < l.length) (h' : k < m.length) : l[k] = m[k] := by subst e; rfl
set_option maxRecDepth 20000 in
set_option maxHeartbeats 2000000 in
theorem ref34_Same (S1 S2 : Nat → Prop) (a1 a2 : Option Addr) (c1 c2 : Nat) (l1 l2 : List St) (w : World) (h1 : Rd kSt S1 w a1 c1 l1) (h2 : Rd kSt S2 w a2 c2 l2) :
    Calls Tryd.prog 18 #[.slice a1 l1.length c1, .slice a2 l2.length c2] w fun e w' => e = .returned (.bool (decide (l1 = l2))) ∧ Below w.heap.size w w' := by
  have hl1 := h1.le
  have hl2 := h2.le
  go_enter Tryd.func18, Tryd.ntmps18
  by_cases he : l1.length = l2.length
  · have hb : (l1.length != l2.length) = false := by simp [he]
    have hb' : ((l1.length : Int) != (l2.length : Int)) = false := by simp [he]
    have HE := Lib.hid he
    clear he
    go_wp2
    go_loopw [5] (fun i wr => ∃ k : Nat, k ≤ l1.length ∧ i = .int .i64 k ∧ Hid (∀ i (h : i < l1.length) (h' : i < l2.length), i < k → l1[i] = l2[i]) ∧ Hid (Below w.heap.size w wr)) (fun i _ => l1.length - (intOf i).toNat)
    case atStart => exact ⟨0, by omega, rfl, fun i h => by omega, Below.refl _ _⟩
    case round =>
      obtain ⟨k, hk, rfl, hv, HB⟩ := hrel
      by_cases hlt : k < l1.length
      · have hlt2 : k < l2.length := by have := HE.out; omega
        obtain ⟨b1, o1, p1, rfl, lt1, hr1, P⟩ := st_elem (h1.frame (Same.below HB.out)) hlt
        obtain ⟨b2, o2, p2, rfl, lt2, hr2, Q⟩ := st_elem (h2.frame (Same.below HB.out)) hlt2
        generalize hx1 : l1[k] = x1 at *
        generalize hx2 : l2[k] = x2 at *
        obtain ⟨i0, i1, i2, i3, i4, i5, i6, i7, i8, i9, i10, i11, i12, i13⟩ := P
        obtain ⟨j0, j1, j2, j3, j4, j5, j6, j7, j8, j9, j10, j11, j12, j13⟩ := Q
        go_wp2
        refine Code.wp_mono (Q := fun e a W3 => match e with | .normal => (∃ gx gy : Nat, a = ⟨#[.slice (some ⟨b1, o1, none⟩) l1.length c1, .slice (some ⟨b2, o2, none⟩) l2.length c2, undef, undef, u4, .int .i64 k, .pointer (some ⟨gx, 0, none⟩), .pointer (some ⟨gy, 0, none⟩), .slice (some ⟨b1, o1, none⟩) l1.length c1, .int .i64 l1.length, .slice (some ⟨b2, o2, none⟩) l2.length c2, .int .i64 l2.length, .bool false, .int .i64 k, .slice (some ⟨b1, o1, none⟩) l1.length c1, .int .i64 l1.length, .bool true, u17, u18, .slice (some ⟨b1, o1, none⟩) l1.length c1, .int .i64 k, .pointer (some ⟨b1, o1 + k * 14, none⟩), .agg #[.int .i64 x1.kind, .slice p1.ra x1.refs.length p1.rc, .int .i64 x1.rule, .slice p1.sa x1.subs.length p1.sc, .int .i64 x1.a.op, .int .i64 x1.a.width, .int .u64 x1.a.val, .string x1.a.name, .slice p1.aa x1.a.args.length p1.ac, .int .i64 x1.b.op, .int .i64 x1.b.width, .int .u64 x1.b.val, .string x1.b.name, .slice p1.ba x1.b.args.length p1.bc], .slice (some ⟨b2, o2, none⟩) l2.length c2, .int .i64 k, .pointer (some ⟨b2, o2 + k * 14, none⟩), .agg #[.int .i64 x2.kind, .slice p2.ra x2.refs.length p2.rc, .int .i64 x2.rule, .slice p2.sa x2.subs.length p2.sc, .int .i64 x2.a.op, .int .i64 x2.a.width, .int .u64 x2.a.val, .string x2.a.name, .slice p2.aa x2.a.args.length p2.ac, .int .i64 x2.b.op, .int .i64 x2.b.width, .int .u64 x2.b.val, .string x2.b.name, .slice p2.ba x2.b.args.length p2.bc], u27, u28, u29, u30, u31, u32, u33, u34, u35, u36, u37, u38, u39, u40, u41, u42, u43, u44, u45, u46, u47, u48, u49, u50, u51, u52, u53, u54, u55, u56, u57, u58, u59, u60, u61, u62, u63, u64, u65, u66, u67, u68, u69, u70], []⟩ ∧ ∃ W, W = W3 ∧ Hid (W.heap[gx]? = some (.cells #[.int .i64 x1.kind, .slice p1.ra x1.refs.length p1.rc, .int .i64 x1.rule, .slice p1.sa x1.subs.length p1.sc, .int .i64 x1.a.op, .int .i64 x1.a.width, .int .u64 x1.a.val, .string x1.a.name, .slice p1.aa x1.a.args.length p1.ac, .int .i64 x1.b.op, .int .i64 x1.b.width, .int .u64 x1.b.val, .string x1.b.name, .slice p1.ba x1.b.args.length p1.bc] 36 (0, 0))) ∧ Hid (W.heap[gy]? = some (.cells #[.int .i64 x2.kind, .slice p2.ra x2.refs.length p2.rc, .int .i64 x2.rule, .slice p2.sa x2.subs.length p2.sc, .int .i64 x2.a.op, .int .i64 x2.a.width, .int .u64 x2.a.val, .string x2.a.name, .slice p2.aa x2.a.args.length p2.ac, .int .i64 x2.b.op, .int .i64 x2.b.width, .int .u64 x2.b.val, .string x2.b.name, .slice p2.ba x2.b.args.length p2.bc] 36 (0, 0))) ∧ Hid (Below wr.heap.size wr W) ∧ Hid (wr.heap.size ≤ gx ∧ wr.heap.size ≤ gy)) | _ => False) ?hq ?wp
        case wp =>
          go_region_law (fail)
          all_goals
            first
            | exact ⟨wr.heap.size, wr.heap.size + 1, rfl, ex_world fun W hW => by subst hW; exact ⟨block_alloc (heap_alloc_new wr _) _, block_at1 wr _ _, (by first | exact below_alloc (below_alloc (Below.refl _ _) _) _ | exact below_drewN (below_alloc (below_alloc (Below.refl _ _) _) _) 1), Nat.le_refl _, by omega⟩⟩
            | exact ⟨wr.heap.size + 1, wr.heap.size, rfl, ex_world fun W hW => by subst hW; exact ⟨block_at1 wr _ _, block_alloc (heap_alloc_new wr _) _, (by first | exact below_alloc (below_alloc (Below.refl _ _) _) _ | exact below_drewN (below_alloc (below_alloc (Below.refl _ _) _) _) 1), by omega, Nat.le_refl _⟩⟩
        intro e a W3' hpost
        cases e <;> first | (cases hpost; done) | skip
        obtain ⟨gx, gy, rfl, W, rfl, KX, KY, BW, hgg⟩ := hpost
        try simp only [Exit.then, Exit.inBlock]
        clear i0 i1 i2 i3 i4 i5 i6 i7 i8 i9 i10 i11 i12 i13 j0 j1 j2 j3 j4 j5 j6 j7 j8 j9 j10 j11 j12 j13
        have hX0 := Lib.hid hr1
        have hY0 := Lib.hid hr2
        have HX1 := Lib.hid hx1
        have HX2 := Lib.hid hx2
        have HXE := Lib.hid (st_ext (x := x1) (y := x2))
        have hX := Lib.hid (hr1.frame (Same.below BW.out))
        have hY := Lib.hid (hr2.frame (Same.below BW.out))
        have CR := Lib.hid (fun W h h' => ref03_Same S1 S2 p1.ra p2.ra p1.rc p2.rc x1.refs x2.refs W h h')
        have CS := Lib.hid (fun W h h' => ref34_subs S1 S2 p1.sa p2.sa p1.sc p2.sc x1.subs x2.subs W h h')
        have CA := Lib.hid (fun W h h' => ref06_Same _ x1.a (Nat.le_refl _) x2.a S1 S2 p1.aa p2.aa p1.ac p2.ac W h h')
        have CB := Lib.hid (fun W h h' => ref06_Same _ x1.b (Nat.le_refl _) x2.b S1 S2 p1.ba p2.ba p1.bc p2.bc W h h')
        obtain ⟨f0, f1, -, -⟩ := (st_block KX.out).1
        obtain ⟨g0, g1, -, -⟩ := (st_block KY.out).1
        clear hr1 hr2 hx1 hx2 hb hb'
        by_cases hq : x1.kind = x2.kind
        · have e0 := Lib.hid hq
          clear hq
          have q0 : (x1.kind != x2.kind) = false := by rw [e0.out]; simp
          have q0' : (x1.kind == x2.kind) = true := by rw [e0.out]; simp
          by_cases hq : x1.refs = x2.refs
          · have e1 := Lib.hid hq
            clear hq
            rw [decide_eq_true e1.out] at CR
            by_cases hq : x1.rule = x2.rule
            · have e2 := Lib.hid hq
              clear hq
              have q2 : (x1.rule != x2.rule) = false := by rw [e2.out]; simp
              have q2' : (x1.rule == x2.rule) = true := by rw [e2.out]; simp
              by_cases hq : x1.subs = x2.subs
              · have e3 := Lib.hid hq
                clear hq
                rw [decide_eq_true e3.out] at CS
                by_cases hq : x1.a = x2.a
                · have e4 := Lib.hid hq
                  clear hq
                  rw [decide_eq_true e4.out] at CA
                  by_cases hq : x1.b = x2.b
                  · have e5 := Lib.hid hq
                    clear hq
                    rw [decide_eq_true e5.out] at CB
                    go_wp2_with (first
                      | (go_at_call 15
                         refine (CR.out W hX.out.refs hY.out.refs).mono ?_
                         rintro e w2 ⟨rfl, d2⟩
                         have K2 := Lib.hid (d2.heap KX.out)
                         have L2 := Lib.hid (d2.heap KY.out)
                         have B2 := Lib.hid (BW.out.trans (d2.below _))
                         have fx := (st_block K2.out).1
                         have fy := (st_block L2.out).1
                         obtain ⟨-, -, fx2, fx3⟩ := fx
                         obtain ⟨-, -, fy2, fy3⟩ := fy
                         clear d2)
                      | (go_at_call 34
                         refine (CS.out w2 (hX0.out.subs.frame (Same.below B2.out)) (hY0.out.subs.frame (Same.below B2.out))).mono ?_
                         rintro e w3 ⟨rfl, b3⟩
                         have B3 := Lib.hid (below_then B2.out B2.out.size b3)
                         have K3 := Lib.hid (block_below b3 K2.out)
                         have L3 := Lib.hid (block_below b3 L2.out)
                         have fxa := (st_block K3.out).2.1
                         have fya := (st_block L3.out).2.1
                         obtain ⟨fx4, fx5, fx6, fx7, fx8⟩ := fxa
                         obtain ⟨fy4, fy5, fy6, fy7, fy8⟩ := fya
                         clear b3)
                      | (go_at_call 35
                         first
                         | (with_reducible refine gate_a #[tmVal x1.a p1.aa p1.ac, tmVal x2.a p2.aa p2.ac] rfl ?_
                            refine (CA.out w3 (hX0.out.a.frame (Same.below B3.out)) (hY0.out.a.frame (Same.below B3.out))).mono ?_
                            rintro e w4 ⟨rfl, b4⟩
                            have B4 := Lib.hid (below_then B3.out B3.out.size b4)
                            have K4 := Lib.hid (block_below b4 K3.out)
                            have L4 := Lib.hid (block_below b4 L3.out)
                            have fxb := (st_block K4.out).2.2.1
                            have fyb := (st_block L4.out).2.2.1
                            obtain ⟨fx9, fx10, fx11, fx12, fx13⟩ := fxb
                            obtain ⟨fy9, fy10, fy11, fy12, fy13⟩ := fyb
                            clear b4)
                         | (with_reducible refine gate_a #[tmVal x1.b p1.ba p1.bc, tmVal x2.b p2.ba p2.bc] rfl ?_
                            refine (CB.out w4 (hX0.out.b.frame (Same.below B4.out)) (hY0.out.b.frame (Same.below B4.out))).mono ?_
                            rintro e w5 ⟨rfl, b5⟩
                            have B5 := Lib.hid (below_then B4.out B4.out.size b5)
                            clear b5))
                      | fail)
                    go_roundw
                    case rel =>
                      refine ⟨k + 1, by omega, by go_num, fun i hi hi2 hik => ?_, below_then HB.out HB.out.size B5.out⟩
                      rcases Nat.lt_or_ge i k with h' | h'
                      · exact hv.out i hi hi2 h'
                      · obtain rfl : i = k := by omega
                        rw [HX1.out, HX2.out]
                        exact HXE.out.2 ⟨e0.out, e1.out, e2.out, e3.out, e4.out, e5.out⟩
                    case measure => simp [intOf]; omega
                  · have HNE : Hid (¬ l1 = l2) := fun e => hq (HXE.out.1 (HX1.out.symm.trans ((congrArgAt e hlt hlt2).trans HX2.out))).2.2.2.2.2
                    rw [decide_eq_false hq] at CB
                    clear hq
                    go_wp2_with (first
                      | (go_at_call 15
                         refine (CR.out W hX.out.refs hY.out.refs).mono ?_
                         rintro e w2 ⟨rfl, d2⟩
                         have K2 := Lib.hid (d2.heap KX.out)
                         have L2 := Lib.hid (d2.heap KY.out)
                         have B2 := Lib.hid (BW.out.trans (d2.below _))
                         have fx := (st_block K2.out).1
                         have fy := (st_block L2.out).1
                         obtain ⟨-, -, fx2, fx3⟩ := fx
                         obtain ⟨-, -, fy2, fy3⟩ := fy
                         clear d2)
                      | (go_at_call 34
                         refine (CS.out w2 (hX0.out.subs.frame (Same.below B2.out)) (hY0.out.subs.frame (Same.below B2.out))).mono ?_
                         rintro e w3 ⟨rfl, b3⟩
                         have B3 := Lib.hid (below_then B2.out B2.out.size b3)
                         have K3 := Lib.hid (block_below b3 K2.out)
                         have L3 := Lib.hid (block_below b3 L2.out)
                         have fxa := (st_block K3.out).2.1
                         have fya := (st_block L3.out).2.1
                         obtain ⟨fx4, fx5, fx6, fx7, fx8⟩ := fxa
                         obtain ⟨fy4, fy5, fy6, fy7, fy8⟩ := fya
                         clear b3)
                      | (go_at_call 35
                         first
                         | (with_reducible refine gate_a #[tmVal x1.a p1.aa p1.ac, tmVal x2.a p2.aa p2.ac] rfl ?_
                            refine (CA.out w3 (hX0.out.a.frame (Same.below B3.out)) (hY0.out.a.frame (Same.below B3.out))).mono ?_
                            rintro e w4 ⟨rfl, b4⟩
                            have B4 := Lib.hid (below_then B3.out B3.out.size b4)
                            have K4 := Lib.hid (block_below b4 K3.out)
                            have L4 := Lib.hid (block_below b4 L3.out)
                            have fxb := (st_block K4.out).2.2.1
                            have fyb := (st_block L4.out).2.2.1
                            obtain ⟨fx9, fx10, fx11, fx12, fx13⟩ := fxb
                            obtain ⟨fy9, fy10, fy11, fy12, fy13⟩ := fyb
                            clear b4)
                         | (with_reducible refine gate_a #[tmVal x1.b p1.ba p1.bc, tmVal x2.b p2.ba p2.bc] rfl ?_
                            refine (CB.out w4 (hX0.out.b.frame (Same.below B4.out)) (hY0.out.b.frame (Same.below B4.out))).mono ?_
                            rintro e w5 ⟨rfl, b5⟩
                            have B5 := Lib.hid (below_then B4.out B4.out.size b5)
                            clear b5))
                      | fail)
                    go_ret
                    refine ⟨ret_bool ?_, below_then HB.out HB.out.size B5.out⟩
                    exact (decide_eq_false HNE.out).symm
                · have HNE : Hid (¬ l1 = l2) := fun e => hq (HXE.out.1 (HX1.out.symm.trans ((congrArgAt e hlt hlt2).trans HX2.out))).2.2.2.2.1
                  rw [decide_eq_false hq] at CA
                  clear hq
                  go_wp2_with (first
                    | (go_at_call 15
                       refine (CR.out W hX.out.refs hY.out.refs).mono ?_
                       rintro e w2 ⟨rfl, d2⟩
                       have K2 := Lib.hid (d2.heap KX.out)
                       have L2 := Lib.hid (d2.heap KY.out)
                       have B2 := Lib.hid (BW.out.trans (d2.below _))
                       have fx := (st_block K2.out).1
                       have fy := (st_block L2.out).1
                       obtain ⟨-, -, fx2, fx3⟩ := fx
                       obtain ⟨-, -, fy2, fy3⟩ := fy
                       clear d2)
                    | (go_at_call 34
                       refine (CS.out w2 (hX0.out.subs.frame (Same.below B2.out)) (hY0.out.subs.frame (Same.below B2.out))).mono ?_
                       rintro e w3 ⟨rfl, b3⟩
                       have B3 := Lib.hid (below_then B2.out B2.out.size b3)
                       have K3 := Lib.hid (block_below b3 K2.out)
                       have L3 := Lib.hid (block_below b3 L2.out)
                       have fxa := (st_block K3.out).2.1
                       have fya := (st_block L3.out).2.1
                       obtain ⟨fx4, fx5, fx6, fx7, fx8⟩ := fxa
                       obtain ⟨fy4, fy5, fy6, fy7, fy8⟩ := fya
                       clear b3)
                    | (go_at_call 35
                       first
                       | (with_reducible refine gate_a #[tmVal x1.a p1.aa p1.ac, tmVal x2.a p2.aa p2.ac] rfl ?_
                          refine (CA.out w3 (hX0.out.a.frame (Same.below B3.out)) (hY0.out.a.frame (Same.below B3.out))).mono ?_
                          rintro e w4 ⟨rfl, b4⟩
                          have B4 := Lib.hid (below_then B3.out B3.out.size b4)
                          have K4 := Lib.hid (block_below b4 K3.out)
                          have L4 := Lib.hid (block_below b4 L3.out)
                          have fxb := (st_block K4.out).2.2.1
                          have fyb := (st_block L4.out).2.2.1
                          obtain ⟨fx9, fx10, fx11, fx12, fx13⟩ := fxb
                          obtain ⟨fy9, fy10, fy11, fy12, fy13⟩ := fyb
                          clear b4)
                       | (with_reducible refine gate_a #[tmVal x1.b p1.ba p1.bc, tmVal x2.b p2.ba p2.bc] rfl ?_
                          refine (CB.out w4 (hX0.out.b.frame (Same.below B4.out)) (hY0.out.b.frame (Same.below B4.out))).mono ?_
                          rintro e w5 ⟨rfl, b5⟩
                          have B5 := Lib.hid (below_then B4.out B4.out.size b5)
                          clear b5))
                    | fail)
                  go_ret
                  refine ⟨ret_bool ?_, below_then HB.out HB.out.size B4.out⟩
                  exact (decide_eq_false HNE.out).symm
              · have HNE : Hid (¬ l1 = l2) := fun e => hq (HXE.out.1 (HX1.out.symm.trans ((congrArgAt e hlt hlt2).trans HX2.out))).2.2.2.1
                rw [decide_eq_false hq] at CS
                clear hq
                go_wp2_with (first
                  | (go_at_call 15
                     refine (CR.out W hX.out.refs hY.out.refs).mono ?_
                     rintro e w2 ⟨rfl, d2⟩
                     have K2 := Lib.hid (d2.heap KX.out)
                     have L2 := Lib.hid (d2.heap KY.out)
                     have B2 := Lib.hid (BW.out.trans (d2.below _))
                     have fx := (st_block K2.out).1
                     have fy := (st_block L2.out).1
                     obtain ⟨-, -, fx2, fx3⟩ := fx
                     obtain ⟨-, -, fy2, fy3⟩ := fy
                     clear d2)
                  | (go_at_call 34
                     refine (CS.out w2 (hX0.out.subs.frame (Same.below B2.out)) (hY0.out.subs.frame (Same.below B2.out))).mono ?_
                     rintro e w3 ⟨rfl, b3⟩
                     have B3 := Lib.hid (below_then B2.out B2.out.size b3)
                     have K3 := Lib.hid (block_below b3 K2.out)
                     have L3 := Lib.hid (block_below b3 L2.out)
                     have fxa := (st_block K3.out).2.1
                     have fya := (st_block L3.out).2.1
                     obtain ⟨fx4, fx5, fx6, fx7, fx8⟩ := fxa
                     obtain ⟨fy4, fy5, fy6, fy7, fy8⟩ := fya
                     clear b3)
                  | (go_at_call 35
                     first
                     | (with_reducible refine gate_a #[tmVal x1.a p1.aa p1.ac, tmVal x2.a p2.aa p2.ac] rfl ?_
                        refine (CA.out w3 (hX0.out.a.frame (Same.below B3.out)) (hY0.out.a.frame (Same.below B3.out))).mono ?_
                        rintro e w4 ⟨rfl, b4⟩
                        have B4 := Lib.hid (below_then B3.out B3.out.size b4)
                        have K4 := Lib.hid (block_below b4 K3.out)
                        have L4 := Lib.hid (block_below b4 L3.out)
                        have fxb := (st_block K4.out).2.2.1
                        have fyb := (st_block L4.out).2.2.1
                        obtain ⟨fx9, fx10, fx11, fx12, fx13⟩ := fxb
                        obtain ⟨fy9, fy10, fy11, fy12, fy13⟩ := fyb
                        clear b4)
                     | (with_reducible refine gate_a #[tmVal x1.b p1.ba p1.bc, tmVal x2.b p2.ba p2.bc] rfl ?_
                        refine (CB.out w4 (hX0.out.b.frame (Same.below B4.out)) (hY0.out.b.frame (Same.below B4.out))).mono ?_
                        rintro e w5 ⟨rfl, b5⟩
                        have B5 := Lib.hid (below_then B4.out B4.out.size b5)
                        clear b5))
                  | fail)
                go_ret
                refine ⟨ret_bool ?_, below_then HB.out HB.out.size B3.out⟩
                exact (decide_eq_false HNE.out).symm
            · have HNE : Hid (¬ l1 = l2) := fun e => hq (HXE.out.1 (HX1.out.symm.trans ((congrArgAt e hlt hlt2).trans HX2.out))).2.2.1
              have q2 : (x1.rule != x2.rule) = true := by simpa using hq
              have q2' : (x1.rule == x2.rule) = false := by simpa using hq
              clear hq
              go_wp2_with (first
                | (go_at_call 15
                   refine (CR.out W hX.out.refs hY.out.refs).mono ?_
                   rintro e w2 ⟨rfl, d2⟩
                   have K2 := Lib.hid (d2.heap KX.out)
                   have L2 := Lib.hid (d2.heap KY.out)
                   have B2 := Lib.hid (BW.out.trans (d2.below _))
                   have fx := (st_block K2.out).1
                   have fy := (st_block L2.out).1
                   obtain ⟨-, -, fx2, fx3⟩ := fx
                   obtain ⟨-, -, fy2, fy3⟩ := fy
                   clear d2)
                | (go_at_call 34
                   refine (CS.out w2 (hX0.out.subs.frame (Same.below B2.out)) (hY0.out.subs.frame (Same.below B2.out))).mono ?_
                   rintro e w3 ⟨rfl, b3⟩
                   have B3 := Lib.hid (below_then B2.out B2.out.size b3)
                   have K3 := Lib.hid (block_below b3 K2.out)
                   have L3 := Lib.hid (block_below b3 L2.out)
                   have fxa := (st_block K3.out).2.1
                   have fya := (st_block L3.out).2.1
                   obtain ⟨fx4, fx5, fx6, fx7, fx8⟩ := fxa
                   obtain ⟨fy4, fy5, fy6, fy7, fy8⟩ := fya
                   clear b3)
                | (go_at_call 35
                   first
                   | (with_reducible refine gate_a #[tmVal x1.a p1.aa p1.ac, tmVal x2.a p2.aa p2.ac] rfl ?_
                      refine (CA.out w3 (hX0.out.a.frame (Same.below B3.out)) (hY0.out.a.frame (Same.below B3.out))).mono ?_
                      rintro e w4 ⟨rfl, b4⟩
                      have B4 := Lib.hid (below_then B3.out B3.out.size b4)
                      have K4 := Lib.hid (block_below b4 K3.out)
                      have L4 := Lib.hid (block_below b4 L3.out)
                      have fxb := (st_block K4.out).2.2.1
                      have fyb := (st_block L4.out).2.2.1
                      obtain ⟨fx9, fx10, fx11, fx12, fx13⟩ := fxb
                      obtain ⟨fy9, fy10, fy11, fy12, fy13⟩ := fyb
                      clear b4)
                   | (with_reducible refine gate_a #[tmVal x1.b p1.ba p1.bc, tmVal x2.b p2.ba p2.bc] rfl ?_
                      refine (CB.out w4 (hX0.out.b.frame (Same.below B4.out)) (hY0.out.b.frame (Same.below B4.out))).mono ?_
                      rintro e w5 ⟨rfl, b5⟩
                      have B5 := Lib.hid (below_then B4.out B4.out.size b5)
                      clear b5))
                | fail)
              go_ret
              refine ⟨ret_bool ?_, below_then HB.out HB.out.size B2.out⟩
              exact (decide_eq_false HNE.out).symm
          · have HNE : Hid (¬ l1 = l2) := fun e => hq (HXE.out.1 (HX1.out.symm.trans ((congrArgAt e hlt hlt2).trans HX2.out))).2.1
            rw [decide_eq_false hq] at CR
            clear hq
            go_wp2_with (first
              | (go_at_call 15
                 refine (CR.out W hX.out.refs hY.out.refs).mono ?_
                 rintro e w2 ⟨rfl, d2⟩
                 have K2 := Lib.hid (d2.heap KX.out)
                 have L2 := Lib.hid (d2.heap KY.out)
                 have B2 := Lib.hid (BW.out.trans (d2.below _))
                 have fx := (st_block K2.out).1
                 have fy := (st_block L2.out).1
                 obtain ⟨-, -, fx2, fx3⟩ := fx
                 obtain ⟨-, -, fy2, fy3⟩ := fy
                 clear d2)
              | (go_at_call 34
                 refine (CS.out w2 (hX0.out.subs.frame (Same.below B2.out)) (hY0.out.subs.frame (Same.below B2.out))).mono ?_
                 rintro e w3 ⟨rfl, b3⟩
                 have B3 := Lib.hid (below_then B2.out B2.out.size b3)
                 have K3 := Lib.hid (block_below b3 K2.out)
                 have L3 := Lib.hid (block_below b3 L2.out)
                 have fxa := (st_block K3.out).2.1
                 have fya := (st_block L3.out).2.1
                 obtain ⟨fx4, fx5, fx6, fx7, fx8⟩ := fxa
                 obtain ⟨fy4, fy5, fy6, fy7, fy8⟩ := fya
                 clear b3)
              | (go_at_call 35
                 first
                 | (with_reducible refine gate_a #[tmVal x1.a p1.aa p1.ac, tmVal x2.a p2.aa p2.ac] rfl ?_
                    refine (CA.out w3 (hX0.out.a.frame (Same.below B3.out)) (hY0.out.a.frame (Same.below B3.out))).mono ?_
                    rintro e w4 ⟨rfl, b4⟩
                    have B4 := Lib.hid (below_then B3.out B3.out.size b4)
                    have K4 := Lib.hid (block_below b4 K3.out)
                    have L4 := Lib.hid (block_below b4 L3.out)
                    have fxb := (st_block K4.out).2.2.1
                    have fyb := (st_block L4.out).2.2.1
                    obtain ⟨fx9, fx10, fx11, fx12, fx13⟩ := fxb
                    obtain ⟨fy9, fy10, fy11, fy12, fy13⟩ := fyb
                    clear b4)
                 | (with_reducible refine gate_a #[tmVal x1.b p1.ba p1.bc, tmVal x2.b p2.ba p2.bc] rfl ?_
                    refine (CB.out w4 (hX0.out.b.frame (Same.below B4.out)) (hY0.out.b.frame (Same.below B4.out))).mono ?_
                    rintro e w5 ⟨rfl, b5⟩
                    have B5 := Lib.hid (below_then B4.out B4.out.size b5)
                    clear b5))
              | fail)
            go_ret
            refine ⟨ret_bool ?_, below_then HB.out HB.out.size B2.out⟩
            exact (decide_eq_false HNE.out).symm
        · have HNE : Hid (¬ l1 = l2) := fun e => hq (HXE.out.1 (HX1.out.symm.trans ((congrArgAt e hlt hlt2).trans HX2.out))).1
          have q0 : (x1.kind != x2.kind) = true := by simpa using hq
          have q0' : (x1.kind == x2.kind) = false := by simpa using hq
          clear hq
          go_wp2_with (first
            | (go_at_call 15
               refine (CR.out W hX.out.refs hY.out.refs).mono ?_
               rintro e w2 ⟨rfl, d2⟩
               have K2 := Lib.hid (d2.heap KX.out)
               have L2 := Lib.hid (d2.heap KY.out)
               have B2 := Lib.hid (BW.out.trans (d2.below _))
               have fx := (st_block K2.out).1
               have fy := (st_block L2.out).1
               obtain ⟨-, -, fx2, fx3⟩ := fx
               obtain ⟨-, -, fy2, fy3⟩ := fy
               clear d2)
            | (go_at_call 34
               refine (CS.out w2 (hX0.out.subs.frame (Same.below B2.out)) (hY0.out.subs.frame (Same.below B2.out))).mono ?_
               rintro e w3 ⟨rfl, b3⟩
               have B3 := Lib.hid (below_then B2.out B2.out.size b3)
               have K3 := Lib.hid (block_below b3 K2.out)
               have L3 := Lib.hid (block_below b3 L2.out)
               have fxa := (st_block K3.out).2.1
               have fya := (st_block L3.out).2.1
               obtain ⟨fx4, fx5, fx6, fx7, fx8⟩ := fxa
               obtain ⟨fy4, fy5, fy6, fy7, fy8⟩ := fya
               clear b3)
            | (go_at_call 35
               first
               | (with_reducible refine gate_a #[tmVal x1.a p1.aa p1.ac, tmVal x2.a p2.aa p2.ac] rfl ?_
                  refine (CA.out w3 (hX0.out.a.frame (Same.below B3.out)) (hY0.out.a.frame (Same.below B3.out))).mono ?_
                  rintro e w4 ⟨rfl, b4⟩
                  have B4 := Lib.hid (below_then B3.out B3.out.size b4)
                  have K4 := Lib.hid (block_below b4 K3.out)
                  have L4 := Lib.hid (block_below b4 L3.out)
                  have fxb := (st_block K4.out).2.2.1
                  have fyb := (st_block L4.out).2.2.1
                  obtain ⟨fx9, fx10, fx11, fx12, fx13⟩ := fxb
                  obtain ⟨fy9, fy10, fy11, fy12, fy13⟩ := fyb
                  clear b4)
               | (with_reducible refine gate_a #[tmVal x1.b p1.ba p1.bc, tmVal x2.b p2.ba p2.bc] rfl ?_
                  refine (CB.out w4 (hX0.out.b.frame (Same.below B4.out)) (hY0.out.b.frame (Same.below B4.out))).mono ?_
                  rintro e w5 ⟨rfl, b5⟩
                  have B5 := Lib.hid (below_then B4.out B4.out.size b5)
                  clear b5))
            | fail)
          go_ret
          refine ⟨ret_bool ?_, below_then HB.out HB.out.size BW.out⟩
          exact (decide_eq_false HNE.out).symm
      · clear hb hb'
        go_wp2
        go_ret
        refine ⟨ret_bool ?_, HB.out⟩
        symm
        rw [decide_eq_true_eq, eq_iff_elems]
        exact ⟨HE.out, fun i hi hi2 => hv.out i hi hi2 (by omega)⟩
  · have hb : (l1.length != l2.length) = true := by simp [he]
    have hb' : ((l1.length : Int) != (l2.length : Int)) = true := by simp; omega
    go_wp2
    go_ret
    refine ⟨ret_bool ?_, Below.refl _ _⟩
    symm
    rw [decide_eq_false_iff_not]
    rintro rfl
    exact he rfl
end Go.Proofs.Sat
