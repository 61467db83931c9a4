/- The walk of proof.Same. -/
import Derived.Test.YtgjdpjefoaohkaaDoorTmS
import Derived.Test.YtgjdpjefoaohkaaDoorStW
import Derived.Test.YtgjdpjefoaohkaaDoorPrF
import Derived.Test.YtgjdpjefoaohkaaDoorRfS
set_option linter.unusedVariables false
set_option linter.unusedSimpArgs false
namespace Go.Proofs.Sat
open Go Go.RowKit
abbrev sbVal (x : Sb) (a : Option Addr) (c : Nat) : Value := .agg #[.string x.name, .int .i64 x.term.op, .int .i64 x.term.width, .int .u64 x.term.val, .string x.term.name, .slice a x.term.args.length c]
/-- slices.Equal at []int. -/
theorem sl_Equal (S1 S2 : Nat → Prop) (a1 a2 : Option Addr) (c1 c2 : Nat) (l1 l2 : List Int) (w : World) (h1 : Rd (Kd.int .i64) S1 w a1 c1 l1) (h2 : Rd (Kd.int .i64) S2 w a2 c2 l2) :
    Calls Tryd.prog 47 #[.slice a1 l1.length c1, .slice a2 l2.length c2] w fun e w' => e = .returned (.bool (decide (l1 = l2))) ∧ Drawn w w' := by
  have hl2 := h2.le
  rcases Nat.eq_zero_or_pos l1.length with h0 | hp
  · obtain rfl := List.eq_nil_of_length_eq_zero h0
    refine (Tryd.slices_Equal_int_empty a1 a2 c1 l2.length c2 w hl2).mono ?_
    rintro e w' ⟨rfl, rfl⟩
    refine ⟨ret_bool ?_, Drawn.refl _⟩
    rw [decide_eq_decide]
    cases l2 <;> simp
  · rcases Nat.eq_zero_or_pos l2.length with h0 | hp2
    · obtain rfl := List.eq_nil_of_length_eq_zero h0
      refine (Tryd.slices_Equal_int_lens a1 a2 l1.length c1 0 c2 w (by omega)).mono ?_
      rintro e w' ⟨rfl, rfl⟩
      refine ⟨ret_bool ?_, Drawn.refl _⟩
      symm
      rw [decide_eq_false_iff_not]
      rintro rfl
      simp at hp
    · obtain ⟨b1, o1, rfl, _, _, hc1⟩ := h1.vals hp 0
      obtain ⟨b2, o2, rfl, _, _, hc2⟩ := h2.vals hp2 0
      refine (Tryd.slices_Equal_int b1 o1 l1.length c1 b2 o2 l2.length c2 l1 l2 w (Nat.le_refl _) (Nat.le_refl _) h1.le hl2 hc1 hc2).mono ?_
      rintro e w' ⟨rfl, n, rfl⟩
      refine ⟨ret_bool ?_, Drawn.of _ _⟩
      rw [List.take_length, List.take_length, Bool.eq_iff_iff]
      simp
set_option maxHeartbeats 1000000 in
theorem sub_eq (x y : Sb) (S1 S2 : Nat → Prop) (a1 a2 : Option Addr) (c1 c2 : Nat) (w : World) (h1 : Rd kT S1 w a1 c1 x.term.args) (h2 : Rd kT S2 w a2 c2 y.term.args) :
    Calls Tryd.prog 45 #[sbVal x a1 c1, sbVal y a2 c2] w fun e w' => e = .returned (.bool (decide (x = y))) ∧ Below w.heap.size w w' := by
  have CT := Lib.hid fun o o' => term_Same _ x.term (Nat.le_refl _) y.term S1 S2 a1 a2 c1 c2 ((w.alloc o).alloc o') (h1.frame ((Same.alloc _ w o).trans (Same.alloc _ _ o'))) (h2.frame ((Same.alloc _ w o).trans (Same.alloc _ _ o')))
  have HE := Lib.hid (sb_ext (x := x) (y := y))
  unfold sbVal
  go_enter Tryd.func45, Tryd.ntmps45
  by_cases e4 : x.name = y.name
  case neg =>
    have b4 : (x.name.toList == y.name.toList) = false := by rw [bytes_beq]; exact decide_eq_false e4
    have b4' : (x.name.toList != y.name.toList) = true := by rw [bne, b4]; rfl
    have HF := Lib.hid (show decide (x = y) = false from decide_eq_false fun h => e4 (HE.out.1 h).1)
    clear e4
    rw [HF.out]
    go_wp2_with fail
    all_goals go_ret
    all_goals exact ⟨rfl, below_alloc (below_alloc (Below.refl _ _) _) _⟩
  have b4 : (x.name.toList == y.name.toList) = true := by rw [e4]; simp
  have b4' : (x.name.toList != y.name.toList) = false := by rw [e4]; simp
  have HD : Hid (decide (x.term = y.term) = decide (x = y)) := by
    show _ = _
    rw [decide_eq_decide, HE.out]
    exact ⟨fun h => ⟨e4, h⟩, fun h => h.2⟩
  replace e4 := Lib.hid e4
  rw [← HD.out]
  go_wp2_with (first
    | (go_at_call 46; refine (CT.out _ _).mono ?_; rintro e w1 ⟨rfl, hb1⟩)
    | fail)
  go_ret
  exact ⟨rfl, below_both (below_alloc (below_alloc (Below.refl _ _) _) _) hb1⟩
set_option maxHeartbeats 2000000 in
theorem eqf_Sb (S1 S2 : Nat → Prop) (a1 a2 : Option Addr) (c1 c2 : Nat) (l1 l2 : List Sb) (w : World) (h1 : Rd kSb S1 w a1 c1 l1) (h2 : Rd kSb S2 w a2 c2 l2) :
    Calls Tryd.prog 48 #[.slice a1 l1.length c1, .slice a2 l2.length c2, .func (.func 45) #[] #[]] w fun e w' => e = .returned (.bool (decide (l1 = l2))) ∧ Below w.heap.size w w' := by
  go_enter Tryd.func48, Tryd.ntmps48
  have hl1 := h1.le
  have hl2 := h2.le
  by_cases he : l1.length = l2.length
  · have hb : (l1.length != l2.length) = false := by simp [he]
    have hb' : ((l1.length : Int) != (l2.length : Int)) = false := by simp [he]
    have HE := Lib.hid he
    clear he
    go_wp2
    go_loopw [17] (fun i wr => ∃ k : Nat, k ≤ l1.length ∧ i = .int .i64 k ∧ Hid (∀ i (h : i < l1.length) (h' : i < l2.length), i < k → l1[i] = l2[i]) ∧ Hid (Below w.heap.size w wr)) (fun i _ => l1.length - (intOf i).toNat)
    case atStart => exact ⟨0, by omega, rfl, fun i h => by omega, Below.refl _ _⟩
    case round =>
      obtain ⟨k, hk, rfl, hv, HB⟩ := hrel
      by_cases hlt : k < l1.length
      · have hlt2 : k < l2.length := by have := HE.out; omega
        obtain ⟨b1, o1, a1', c1', rfl, lt1, hr1, P⟩ := sb_elem (h1.frame (Same.below HB.out)) hlt
        obtain ⟨b2, o2, a2', c2', rfl, lt2, hr2, Q⟩ := sb_elem (h2.frame (Same.below HB.out)) hlt2
        have CT := Lib.hid fun o o' => sub_eq l1[k] l2[k] _ _ _ _ _ _ ((wr.alloc o).alloc o') (hr1.frame ((Same.alloc _ wr o).trans (Same.alloc _ _ o'))) (hr2.frame ((Same.alloc _ wr o).trans (Same.alloc _ _ o')))
        obtain ⟨i0, i1, i2, i3, i4, i5⟩ := P
        have QA := fun ob => Q.frame (Below.heap_alloc wr ob b2 lt2)
        have j0 := fun ob => (QA ob).c0
        have j1 := fun ob => (QA ob).c1
        have j2 := fun ob => (QA ob).c2
        have j3 := fun ob => (QA ob).c3
        have j4 := fun ob => (QA ob).c4
        have j5 := fun ob => (QA ob).c5
        clear hr1 hr2 QA Q
        clear hb hb'
        generalize hx1 : l1[k] = x1 at *
        generalize hx2 : l2[k] = x2 at *
        have HX1 := Lib.hid hx1
        have HX2 := Lib.hid hx2
        clear hx1 hx2
        by_cases hq : x1 = x2
        · have hq' : decide (x1 = x2) = true := by simpa using hq
          have HQ := Lib.hid hq
          clear hq
          rw [hq'] at CT
          go_wp2_with (first
            | (go_at_call 45; refine (CT.out _ _).mono ?_; rintro e w1 ⟨rfl, hb1⟩; replace hb1 := Lib.hid hb1)
            | fail)
          go_roundw
          case rel =>
            refine ⟨k + 1, by omega, by go_num, fun i hi hi2 hik => ?_, below_both (below_alloc (below_alloc HB.out _) _) hb1.out⟩
            rcases Nat.lt_or_ge i k with h' | h'
            · exact hv.out i hi hi2 h'
            · obtain rfl : i = k := by omega
              rw [HX1.out, HX2.out, HQ.out]
          case measure => simp [intOf]; omega
        · have hq' : decide (x1 = x2) = false := by simpa using hq
          have HQ := Lib.hid hq
          clear hq
          rw [hq'] at CT
          go_wp2_with (first
            | (go_at_call 45; refine (CT.out _ _).mono ?_; rintro e w1 ⟨rfl, hb1⟩; replace hb1 := Lib.hid hb1)
            | fail)
          go_ret
          refine ⟨ret_bool ?_, below_both (below_alloc (below_alloc HB.out _) _) hb1.out⟩
          symm
          rw [decide_eq_false_iff_not]
          rintro rfl
          exact HQ.out (HX1.out.symm.trans HX2.out)
      · clear hb hb'
        go_wp2
        go_ret
        refine ⟨ret_bool ?_, HB.out⟩
        symm
        rw [decide_eq_true_eq, eq_iff_elems]
        exact ⟨HE.out, fun i hi hi2 => hv.out i hi hi2 (by omega)⟩
  · have hb : (l1.length != l2.length) = true := by simp [he]
    have hb' : ((l1.length : Int) != (l2.length : Int)) = true := by simp; omega
    go_wp2
    go_ret
    refine ⟨ret_bool ?_, Below.refl _ _⟩
    symm
    rw [decide_eq_false_iff_not]
    rintro rfl
    exact he rfl
set_option maxRecDepth 20000 in
set_option maxHeartbeats 2000000 in
theorem step_eq (x y : St) (p q : StAt) (S1 S2 : Nat → Prop) (w : World) (h1 : StRd S1 w x p) (h2 : StRd S2 w y q) :
    Calls Tryd.prog 44 #[stVal x p, stVal y q] w fun e w' => e = .returned (.bool (decide (x = y))) ∧ Below w.heap.size w w' := by
  have HE := Lib.hid (st_ext (x := x) (y := y))
  unfold stVal
  go_enter Tryd.func44, Tryd.ntmps44
  have BW := Lib.hid (below_alloc (below_alloc (Below.refl w.heap.size w) (.cells #[.int .i64 x.kind, .slice p.ra x.refs.length p.rc, .int .i64 x.rule, .slice p.sa x.subs.length p.sc, .int .i64 x.a.op, .int .i64 x.a.width, .int .u64 x.a.val, .string x.a.name, .slice p.aa x.a.args.length p.ac, .int .i64 x.b.op, .int .i64 x.b.width, .int .u64 x.b.val, .string x.b.name, .slice p.ba x.b.args.length p.bc] 36)) (.cells #[.int .i64 y.kind, .slice q.ra y.refs.length q.rc, .int .i64 y.rule, .slice q.sa y.subs.length q.sc, .int .i64 y.a.op, .int .i64 y.a.width, .int .u64 y.a.val, .string y.a.name, .slice q.aa y.a.args.length q.ac, .int .i64 y.b.op, .int .i64 y.b.width, .int .u64 y.b.val, .string y.b.name, .slice q.ba y.b.args.length q.bc] 36))
  have H1 := Lib.hid (h1.frame (Same.below BW.out))
  have H2 := Lib.hid (h2.frame (Same.below BW.out))
  have KX := Lib.hid (block_alloc (heap_alloc_new w (.cells #[.int .i64 x.kind, .slice p.ra x.refs.length p.rc, .int .i64 x.rule, .slice p.sa x.subs.length p.sc, .int .i64 x.a.op, .int .i64 x.a.width, .int .u64 x.a.val, .string x.a.name, .slice p.aa x.a.args.length p.ac, .int .i64 x.b.op, .int .i64 x.b.width, .int .u64 x.b.val, .string x.b.name, .slice p.ba x.b.args.length p.bc] 36)) (.cells #[.int .i64 y.kind, .slice q.ra y.refs.length q.rc, .int .i64 y.rule, .slice q.sa y.subs.length q.sc, .int .i64 y.a.op, .int .i64 y.a.width, .int .u64 y.a.val, .string y.a.name, .slice q.aa y.a.args.length q.ac, .int .i64 y.b.op, .int .i64 y.b.width, .int .u64 y.b.val, .string y.b.name, .slice q.ba y.b.args.length q.bc] 36))
  have KY := Lib.hid (block_at1 w (.cells #[.int .i64 x.kind, .slice p.ra x.refs.length p.rc, .int .i64 x.rule, .slice p.sa x.subs.length p.sc, .int .i64 x.a.op, .int .i64 x.a.width, .int .u64 x.a.val, .string x.a.name, .slice p.aa x.a.args.length p.ac, .int .i64 x.b.op, .int .i64 x.b.width, .int .u64 x.b.val, .string x.b.name, .slice p.ba x.b.args.length p.bc] 36) (.cells #[.int .i64 y.kind, .slice q.ra y.refs.length q.rc, .int .i64 y.rule, .slice q.sa y.subs.length q.sc, .int .i64 y.a.op, .int .i64 y.a.width, .int .u64 y.a.val, .string y.a.name, .slice q.aa y.a.args.length q.ac, .int .i64 y.b.op, .int .i64 y.b.width, .int .u64 y.b.val, .string y.b.name, .slice q.ba y.b.args.length q.bc] 36))
  have CR := Lib.hid (fun W h h' => sl_Equal S1 S2 p.ra q.ra p.rc q.rc x.refs y.refs W h h')
  have CS := Lib.hid (fun W h h' => eqf_Sb S1 S2 p.sa q.sa p.sc q.sc x.subs y.subs W h h')
  have CA := Lib.hid (fun W h h' => term_Same _ x.a (Nat.le_refl _) y.a S1 S2 p.aa q.aa p.ac q.ac W h h')
  have CB := Lib.hid (fun W h h' => term_Same _ x.b (Nat.le_refl _) y.b S1 S2 p.ba q.ba p.bc q.bc W h h')
  by_cases e0 : x.kind = y.kind
  case neg =>
    have HF := Lib.hid (show decide (x = y) = false from decide_eq_false fun h => e0 (HE.out.1 h).1)
    have t0 : (x.kind == y.kind) = false := by simpa using e0
    clear e0
    rw [HF.out]
    go_wp2_with (first
      | (go_at_call 47
         refine (CR.out _ H1.out.refs H2.out.refs).mono ?_
         rintro e w2 ⟨rfl, d2⟩
         have K2 := Lib.hid (d2.heap KX.out)
         have L2 := Lib.hid (d2.heap KY.out)
         have B2 := Lib.hid (BW.out.trans (d2.below _))
         have fx := (st_block K2.out).1
         have fy := (st_block L2.out).1
         obtain ⟨-, -, -, fx3⟩ := fx
         obtain ⟨-, -, -, fy3⟩ := fy
         clear d2)
      | (go_at_call 48
         refine (CS.out w2 (h1.subs.frame (Same.below B2.out)) (h2.subs.frame (Same.below B2.out))).mono ?_
         rintro e w3 ⟨rfl, b3⟩
         have B3 := Lib.hid (below_both B2.out b3)
         have K3 := Lib.hid (block_below b3 K2.out)
         have L3 := Lib.hid (block_below b3 L2.out)
         have fxa := (st_block K3.out).2.1
         have fya := (st_block L3.out).2.1
         obtain ⟨fx4, fx5, fx6, fx7, fx8⟩ := fxa
         obtain ⟨fy4, fy5, fy6, fy7, fy8⟩ := fya
         clear b3)
      | (go_at_call 46
         first
         | (with_reducible refine gate_a #[tmVal x.a p.aa p.ac, tmVal y.a q.aa q.ac] rfl ?_
            refine (CA.out w3 (h1.a.frame (Same.below B3.out)) (h2.a.frame (Same.below B3.out))).mono ?_
            rintro e w4 ⟨rfl, b4⟩
            have B4 := Lib.hid (below_both B3.out b4)
            have K4 := Lib.hid (block_below b4 K3.out)
            have L4 := Lib.hid (block_below b4 L3.out)
            have fxb := (st_block K4.out).2.2.1
            have fyb := (st_block L4.out).2.2.1
            obtain ⟨fx9, fx10, fx11, fx12, fx13⟩ := fxb
            obtain ⟨fy9, fy10, fy11, fy12, fy13⟩ := fyb
            clear b4)
         | (with_reducible refine gate_a #[tmVal x.b p.ba p.bc, tmVal y.b q.ba q.bc] rfl ?_
            refine (CB.out w4 (h1.b.frame (Same.below B4.out)) (h2.b.frame (Same.below B4.out))).mono ?_
            rintro e w5 ⟨rfl, b5⟩
            have B5 := Lib.hid (below_both B4.out b5)
            clear b5))
      | fail)
    go_ret
    exact ⟨rfl, BW.out⟩
  have t0 : (x.kind == y.kind) = true := by simpa using e0
  replace e0 := Lib.hid e0
  by_cases e1 : x.rule = y.rule
  case neg =>
    have HF := Lib.hid (show decide (x = y) = false from decide_eq_false fun h => e1 (HE.out.1 h).2.2.1)
    have t1 : (x.rule == y.rule) = false := by simpa using e1
    clear e1
    rw [HF.out]
    go_wp2_with (first
      | (go_at_call 47
         refine (CR.out _ H1.out.refs H2.out.refs).mono ?_
         rintro e w2 ⟨rfl, d2⟩
         have K2 := Lib.hid (d2.heap KX.out)
         have L2 := Lib.hid (d2.heap KY.out)
         have B2 := Lib.hid (BW.out.trans (d2.below _))
         have fx := (st_block K2.out).1
         have fy := (st_block L2.out).1
         obtain ⟨-, -, -, fx3⟩ := fx
         obtain ⟨-, -, -, fy3⟩ := fy
         clear d2)
      | (go_at_call 48
         refine (CS.out w2 (h1.subs.frame (Same.below B2.out)) (h2.subs.frame (Same.below B2.out))).mono ?_
         rintro e w3 ⟨rfl, b3⟩
         have B3 := Lib.hid (below_both B2.out b3)
         have K3 := Lib.hid (block_below b3 K2.out)
         have L3 := Lib.hid (block_below b3 L2.out)
         have fxa := (st_block K3.out).2.1
         have fya := (st_block L3.out).2.1
         obtain ⟨fx4, fx5, fx6, fx7, fx8⟩ := fxa
         obtain ⟨fy4, fy5, fy6, fy7, fy8⟩ := fya
         clear b3)
      | (go_at_call 46
         first
         | (with_reducible refine gate_a #[tmVal x.a p.aa p.ac, tmVal y.a q.aa q.ac] rfl ?_
            refine (CA.out w3 (h1.a.frame (Same.below B3.out)) (h2.a.frame (Same.below B3.out))).mono ?_
            rintro e w4 ⟨rfl, b4⟩
            have B4 := Lib.hid (below_both B3.out b4)
            have K4 := Lib.hid (block_below b4 K3.out)
            have L4 := Lib.hid (block_below b4 L3.out)
            have fxb := (st_block K4.out).2.2.1
            have fyb := (st_block L4.out).2.2.1
            obtain ⟨fx9, fx10, fx11, fx12, fx13⟩ := fxb
            obtain ⟨fy9, fy10, fy11, fy12, fy13⟩ := fyb
            clear b4)
         | (with_reducible refine gate_a #[tmVal x.b p.ba p.bc, tmVal y.b q.ba q.bc] rfl ?_
            refine (CB.out w4 (h1.b.frame (Same.below B4.out)) (h2.b.frame (Same.below B4.out))).mono ?_
            rintro e w5 ⟨rfl, b5⟩
            have B5 := Lib.hid (below_both B4.out b5)
            clear b5))
      | fail)
    go_ret
    exact ⟨rfl, BW.out⟩
  have t1 : (x.rule == y.rule) = true := by simpa using e1
  replace e1 := Lib.hid e1
  by_cases e2 : x.refs = y.refs
  case neg =>
    have HF := Lib.hid (show decide (x = y) = false from decide_eq_false fun h => e2 (HE.out.1 h).2.1)
    rw [decide_eq_false e2] at CR
    clear e2
    rw [HF.out]
    go_wp2_with (first
      | (go_at_call 47
         refine (CR.out _ H1.out.refs H2.out.refs).mono ?_
         rintro e w2 ⟨rfl, d2⟩
         have K2 := Lib.hid (d2.heap KX.out)
         have L2 := Lib.hid (d2.heap KY.out)
         have B2 := Lib.hid (BW.out.trans (d2.below _))
         have fx := (st_block K2.out).1
         have fy := (st_block L2.out).1
         obtain ⟨-, -, -, fx3⟩ := fx
         obtain ⟨-, -, -, fy3⟩ := fy
         clear d2)
      | (go_at_call 48
         refine (CS.out w2 (h1.subs.frame (Same.below B2.out)) (h2.subs.frame (Same.below B2.out))).mono ?_
         rintro e w3 ⟨rfl, b3⟩
         have B3 := Lib.hid (below_both B2.out b3)
         have K3 := Lib.hid (block_below b3 K2.out)
         have L3 := Lib.hid (block_below b3 L2.out)
         have fxa := (st_block K3.out).2.1
         have fya := (st_block L3.out).2.1
         obtain ⟨fx4, fx5, fx6, fx7, fx8⟩ := fxa
         obtain ⟨fy4, fy5, fy6, fy7, fy8⟩ := fya
         clear b3)
      | (go_at_call 46
         first
         | (with_reducible refine gate_a #[tmVal x.a p.aa p.ac, tmVal y.a q.aa q.ac] rfl ?_
            refine (CA.out w3 (h1.a.frame (Same.below B3.out)) (h2.a.frame (Same.below B3.out))).mono ?_
            rintro e w4 ⟨rfl, b4⟩
            have B4 := Lib.hid (below_both B3.out b4)
            have K4 := Lib.hid (block_below b4 K3.out)
            have L4 := Lib.hid (block_below b4 L3.out)
            have fxb := (st_block K4.out).2.2.1
            have fyb := (st_block L4.out).2.2.1
            obtain ⟨fx9, fx10, fx11, fx12, fx13⟩ := fxb
            obtain ⟨fy9, fy10, fy11, fy12, fy13⟩ := fyb
            clear b4)
         | (with_reducible refine gate_a #[tmVal x.b p.ba p.bc, tmVal y.b q.ba q.bc] rfl ?_
            refine (CB.out w4 (h1.b.frame (Same.below B4.out)) (h2.b.frame (Same.below B4.out))).mono ?_
            rintro e w5 ⟨rfl, b5⟩
            have B5 := Lib.hid (below_both B4.out b5)
            clear b5))
      | fail)
    go_ret
    exact ⟨rfl, B2.out⟩
  rw [decide_eq_true e2] at CR
  replace e2 := Lib.hid e2
  by_cases e3 : x.subs = y.subs
  case neg =>
    have HF := Lib.hid (show decide (x = y) = false from decide_eq_false fun h => e3 (HE.out.1 h).2.2.2.1)
    rw [decide_eq_false e3] at CS
    clear e3
    rw [HF.out]
    go_wp2_with (first
      | (go_at_call 47
         refine (CR.out _ H1.out.refs H2.out.refs).mono ?_
         rintro e w2 ⟨rfl, d2⟩
         have K2 := Lib.hid (d2.heap KX.out)
         have L2 := Lib.hid (d2.heap KY.out)
         have B2 := Lib.hid (BW.out.trans (d2.below _))
         have fx := (st_block K2.out).1
         have fy := (st_block L2.out).1
         obtain ⟨-, -, -, fx3⟩ := fx
         obtain ⟨-, -, -, fy3⟩ := fy
         clear d2)
      | (go_at_call 48
         refine (CS.out w2 (h1.subs.frame (Same.below B2.out)) (h2.subs.frame (Same.below B2.out))).mono ?_
         rintro e w3 ⟨rfl, b3⟩
         have B3 := Lib.hid (below_both B2.out b3)
         have K3 := Lib.hid (block_below b3 K2.out)
         have L3 := Lib.hid (block_below b3 L2.out)
         have fxa := (st_block K3.out).2.1
         have fya := (st_block L3.out).2.1
         obtain ⟨fx4, fx5, fx6, fx7, fx8⟩ := fxa
         obtain ⟨fy4, fy5, fy6, fy7, fy8⟩ := fya
         clear b3)
      | (go_at_call 46
         first
         | (with_reducible refine gate_a #[tmVal x.a p.aa p.ac, tmVal y.a q.aa q.ac] rfl ?_
            refine (CA.out w3 (h1.a.frame (Same.below B3.out)) (h2.a.frame (Same.below B3.out))).mono ?_
            rintro e w4 ⟨rfl, b4⟩
            have B4 := Lib.hid (below_both B3.out b4)
            have K4 := Lib.hid (block_below b4 K3.out)
            have L4 := Lib.hid (block_below b4 L3.out)
            have fxb := (st_block K4.out).2.2.1
            have fyb := (st_block L4.out).2.2.1
            obtain ⟨fx9, fx10, fx11, fx12, fx13⟩ := fxb
            obtain ⟨fy9, fy10, fy11, fy12, fy13⟩ := fyb
            clear b4)
         | (with_reducible refine gate_a #[tmVal x.b p.ba p.bc, tmVal y.b q.ba q.bc] rfl ?_
            refine (CB.out w4 (h1.b.frame (Same.below B4.out)) (h2.b.frame (Same.below B4.out))).mono ?_
            rintro e w5 ⟨rfl, b5⟩
            have B5 := Lib.hid (below_both B4.out b5)
            clear b5))
      | fail)
    go_ret
    exact ⟨rfl, B3.out⟩
  rw [decide_eq_true e3] at CS
  replace e3 := Lib.hid e3
  by_cases e4 : x.a = y.a
  case neg =>
    have HF := Lib.hid (show decide (x = y) = false from decide_eq_false fun h => e4 (HE.out.1 h).2.2.2.2.1)
    rw [decide_eq_false e4] at CA
    clear e4
    rw [HF.out]
    go_wp2_with (first
      | (go_at_call 47
         refine (CR.out _ H1.out.refs H2.out.refs).mono ?_
         rintro e w2 ⟨rfl, d2⟩
         have K2 := Lib.hid (d2.heap KX.out)
         have L2 := Lib.hid (d2.heap KY.out)
         have B2 := Lib.hid (BW.out.trans (d2.below _))
         have fx := (st_block K2.out).1
         have fy := (st_block L2.out).1
         obtain ⟨-, -, -, fx3⟩ := fx
         obtain ⟨-, -, -, fy3⟩ := fy
         clear d2)
      | (go_at_call 48
         refine (CS.out w2 (h1.subs.frame (Same.below B2.out)) (h2.subs.frame (Same.below B2.out))).mono ?_
         rintro e w3 ⟨rfl, b3⟩
         have B3 := Lib.hid (below_both B2.out b3)
         have K3 := Lib.hid (block_below b3 K2.out)
         have L3 := Lib.hid (block_below b3 L2.out)
         have fxa := (st_block K3.out).2.1
         have fya := (st_block L3.out).2.1
         obtain ⟨fx4, fx5, fx6, fx7, fx8⟩ := fxa
         obtain ⟨fy4, fy5, fy6, fy7, fy8⟩ := fya
         clear b3)
      | (go_at_call 46
         first
         | (with_reducible refine gate_a #[tmVal x.a p.aa p.ac, tmVal y.a q.aa q.ac] rfl ?_
            refine (CA.out w3 (h1.a.frame (Same.below B3.out)) (h2.a.frame (Same.below B3.out))).mono ?_
            rintro e w4 ⟨rfl, b4⟩
            have B4 := Lib.hid (below_both B3.out b4)
            have K4 := Lib.hid (block_below b4 K3.out)
            have L4 := Lib.hid (block_below b4 L3.out)
            have fxb := (st_block K4.out).2.2.1
            have fyb := (st_block L4.out).2.2.1
            obtain ⟨fx9, fx10, fx11, fx12, fx13⟩ := fxb
            obtain ⟨fy9, fy10, fy11, fy12, fy13⟩ := fyb
            clear b4)
         | (with_reducible refine gate_a #[tmVal x.b p.ba p.bc, tmVal y.b q.ba q.bc] rfl ?_
            refine (CB.out w4 (h1.b.frame (Same.below B4.out)) (h2.b.frame (Same.below B4.out))).mono ?_
            rintro e w5 ⟨rfl, b5⟩
            have B5 := Lib.hid (below_both B4.out b5)
            clear b5))
      | fail)
    go_ret
    exact ⟨rfl, B4.out⟩
  rw [decide_eq_true e4] at CA
  replace e4 := Lib.hid e4
  by_cases e5 : x.b = y.b
  case neg =>
    have HF := Lib.hid (show decide (x = y) = false from decide_eq_false fun h => e5 (HE.out.1 h).2.2.2.2.2)
    rw [decide_eq_false e5] at CB
    clear e5
    rw [HF.out]
    go_wp2_with (first
      | (go_at_call 47
         refine (CR.out _ H1.out.refs H2.out.refs).mono ?_
         rintro e w2 ⟨rfl, d2⟩
         have K2 := Lib.hid (d2.heap KX.out)
         have L2 := Lib.hid (d2.heap KY.out)
         have B2 := Lib.hid (BW.out.trans (d2.below _))
         have fx := (st_block K2.out).1
         have fy := (st_block L2.out).1
         obtain ⟨-, -, -, fx3⟩ := fx
         obtain ⟨-, -, -, fy3⟩ := fy
         clear d2)
      | (go_at_call 48
         refine (CS.out w2 (h1.subs.frame (Same.below B2.out)) (h2.subs.frame (Same.below B2.out))).mono ?_
         rintro e w3 ⟨rfl, b3⟩
         have B3 := Lib.hid (below_both B2.out b3)
         have K3 := Lib.hid (block_below b3 K2.out)
         have L3 := Lib.hid (block_below b3 L2.out)
         have fxa := (st_block K3.out).2.1
         have fya := (st_block L3.out).2.1
         obtain ⟨fx4, fx5, fx6, fx7, fx8⟩ := fxa
         obtain ⟨fy4, fy5, fy6, fy7, fy8⟩ := fya
         clear b3)
      | (go_at_call 46
         first
         | (with_reducible refine gate_a #[tmVal x.a p.aa p.ac, tmVal y.a q.aa q.ac] rfl ?_
            refine (CA.out w3 (h1.a.frame (Same.below B3.out)) (h2.a.frame (Same.below B3.out))).mono ?_
            rintro e w4 ⟨rfl, b4⟩
            have B4 := Lib.hid (below_both B3.out b4)
            have K4 := Lib.hid (block_below b4 K3.out)
            have L4 := Lib.hid (block_below b4 L3.out)
            have fxb := (st_block K4.out).2.2.1
            have fyb := (st_block L4.out).2.2.1
            obtain ⟨fx9, fx10, fx11, fx12, fx13⟩ := fxb
            obtain ⟨fy9, fy10, fy11, fy12, fy13⟩ := fyb
            clear b4)
         | (with_reducible refine gate_a #[tmVal x.b p.ba p.bc, tmVal y.b q.ba q.bc] rfl ?_
            refine (CB.out w4 (h1.b.frame (Same.below B4.out)) (h2.b.frame (Same.below B4.out))).mono ?_
            rintro e w5 ⟨rfl, b5⟩
            have B5 := Lib.hid (below_both B4.out b5)
            clear b5))
      | fail)
    go_ret
    exact ⟨rfl, B5.out⟩
  rw [decide_eq_true e5] at CB
  replace e5 := Lib.hid e5
  have HF := Lib.hid (show decide (x = y) = true from decide_eq_true (HE.out.2 ⟨e0.out, e2.out, e1.out, e3.out, e4.out, e5.out⟩))
  rw [HF.out]
  go_wp2_with (first
    | (go_at_call 47
       refine (CR.out _ H1.out.refs H2.out.refs).mono ?_
       rintro e w2 ⟨rfl, d2⟩
       have K2 := Lib.hid (d2.heap KX.out)
       have L2 := Lib.hid (d2.heap KY.out)
       have B2 := Lib.hid (BW.out.trans (d2.below _))
       have fx := (st_block K2.out).1
       have fy := (st_block L2.out).1
       obtain ⟨-, -, -, fx3⟩ := fx
       obtain ⟨-, -, -, fy3⟩ := fy
       clear d2)
    | (go_at_call 48
       refine (CS.out w2 (h1.subs.frame (Same.below B2.out)) (h2.subs.frame (Same.below B2.out))).mono ?_
       rintro e w3 ⟨rfl, b3⟩
       have B3 := Lib.hid (below_both B2.out b3)
       have K3 := Lib.hid (block_below b3 K2.out)
       have L3 := Lib.hid (block_below b3 L2.out)
       have fxa := (st_block K3.out).2.1
       have fya := (st_block L3.out).2.1
       obtain ⟨fx4, fx5, fx6, fx7, fx8⟩ := fxa
       obtain ⟨fy4, fy5, fy6, fy7, fy8⟩ := fya
       clear b3)
    | (go_at_call 46
       first
       | (with_reducible refine gate_a #[tmVal x.a p.aa p.ac, tmVal y.a q.aa q.ac] rfl ?_
          refine (CA.out w3 (h1.a.frame (Same.below B3.out)) (h2.a.frame (Same.below B3.out))).mono ?_
          rintro e w4 ⟨rfl, b4⟩
          have B4 := Lib.hid (below_both B3.out b4)
          have K4 := Lib.hid (block_below b4 K3.out)
          have L4 := Lib.hid (block_below b4 L3.out)
          have fxb := (st_block K4.out).2.2.1
          have fyb := (st_block L4.out).2.2.1
          obtain ⟨fx9, fx10, fx11, fx12, fx13⟩ := fxb
          obtain ⟨fy9, fy10, fy11, fy12, fy13⟩ := fyb
          clear b4)
       | (with_reducible refine gate_a #[tmVal x.b p.ba p.bc, tmVal y.b q.ba q.bc] rfl ?_
          refine (CB.out w4 (h1.b.frame (Same.below B4.out)) (h2.b.frame (Same.below B4.out))).mono ?_
          rintro e w5 ⟨rfl, b5⟩
          have B5 := Lib.hid (below_both B4.out b5)
          clear b5))
    | fail)
  go_ret
  exact ⟨rfl, B5.out⟩
set_option maxRecDepth 20000 in
set_option maxHeartbeats 2000000 in
theorem eqf_St (S1 S2 : Nat → Prop) (a1 a2 : Option Addr) (c1 c2 : Nat) (l1 l2 : List St) (w : World) (h1 : Rd kSt S1 w a1 c1 l1) (h2 : Rd kSt S2 w a2 c2 l2) :
    Calls Tryd.prog 43 #[.slice a1 l1.length c1, .slice a2 l2.length c2, .func (.func 44) #[] #[]] w fun e w' => e = .returned (.bool (decide (l1 = l2))) ∧ Below w.heap.size w w' := by
  go_enter Tryd.func43, Tryd.ntmps43
  have hl1 := h1.le
  have hl2 := h2.le
  by_cases he : l1.length = l2.length
  · have hb : (l1.length != l2.length) = false := by simp [he]
    have hb' : ((l1.length : Int) != (l2.length : Int)) = false := by simp [he]
    have HE := Lib.hid he
    clear he
    go_wp2
    go_loopw [17] (fun i wr => ∃ k : Nat, k ≤ l1.length ∧ i = .int .i64 k ∧ Hid (∀ i (h : i < l1.length) (h' : i < l2.length), i < k → l1[i] = l2[i]) ∧ Hid (Below w.heap.size w wr)) (fun i _ => l1.length - (intOf i).toNat)
    case atStart => exact ⟨0, by omega, rfl, fun i h => by omega, Below.refl _ _⟩
    case round =>
      obtain ⟨k, hk, rfl, hv, HB⟩ := hrel
      by_cases hlt : k < l1.length
      · have hlt2 : k < l2.length := by have := HE.out; omega
        obtain ⟨b1, o1, p1, rfl, lt1, hr1, P⟩ := st_elem (h1.frame (Same.below HB.out)) hlt
        obtain ⟨b2, o2, p2, rfl, lt2, hr2, Q⟩ := st_elem (h2.frame (Same.below HB.out)) hlt2
        have CT := Lib.hid fun o o' => step_eq l1[k] l2[k] p1 p2 _ _ ((wr.alloc o).alloc o') (hr1.frame ((Same.alloc _ wr o).trans (Same.alloc _ _ o'))) (hr2.frame ((Same.alloc _ wr o).trans (Same.alloc _ _ o')))
        obtain ⟨i0, i1, i2, i3, i4, i5, i6, i7, i8, i9, i10, i11, i12, i13⟩ := P
        have QA := fun ob => Q.frame (Below.heap_alloc wr ob b2 lt2)
        have j0 := fun ob => (QA ob).c0
        have j1 := fun ob => (QA ob).c1
        have j2 := fun ob => (QA ob).c2
        have j3 := fun ob => (QA ob).c3
        have j4 := fun ob => (QA ob).c4
        have j5 := fun ob => (QA ob).c5
        have j6 := fun ob => (QA ob).c6
        have j7 := fun ob => (QA ob).c7
        have j8 := fun ob => (QA ob).c8
        have j9 := fun ob => (QA ob).c9
        have j10 := fun ob => (QA ob).c10
        have j11 := fun ob => (QA ob).c11
        have j12 := fun ob => (QA ob).c12
        have j13 := fun ob => (QA ob).c13
        clear hr1 hr2 QA Q
        clear hb hb'
        generalize hx1 : l1[k] = x1 at *
        generalize hx2 : l2[k] = x2 at *
        have HX1 := Lib.hid hx1
        have HX2 := Lib.hid hx2
        clear hx1 hx2
        by_cases hq : x1 = x2
        · have hq' : decide (x1 = x2) = true := by simpa using hq
          have HQ := Lib.hid hq
          clear hq
          rw [hq'] at CT
          go_wp2_with (first
            | (go_at_call 44; refine (CT.out _ _).mono ?_; rintro e w1 ⟨rfl, hb1⟩; replace hb1 := Lib.hid hb1)
            | fail)
          go_roundw
          case rel =>
            refine ⟨k + 1, by omega, by go_num, fun i hi hi2 hik => ?_, below_both (below_alloc (below_alloc HB.out _) _) hb1.out⟩
            rcases Nat.lt_or_ge i k with h' | h'
            · exact hv.out i hi hi2 h'
            · obtain rfl : i = k := by omega
              rw [HX1.out, HX2.out, HQ.out]
          case measure => simp [intOf]; omega
        · have hq' : decide (x1 = x2) = false := by simpa using hq
          have HQ := Lib.hid hq
          clear hq
          rw [hq'] at CT
          go_wp2_with (first
            | (go_at_call 44; refine (CT.out _ _).mono ?_; rintro e w1 ⟨rfl, hb1⟩; replace hb1 := Lib.hid hb1)
            | fail)
          go_ret
          refine ⟨ret_bool ?_, below_both (below_alloc (below_alloc HB.out _) _) hb1.out⟩
          symm
          rw [decide_eq_false_iff_not]
          rintro rfl
          exact HQ.out (HX1.out.symm.trans HX2.out)
      · clear hb hb'
        go_wp2
        go_ret
        refine ⟨ret_bool ?_, HB.out⟩
        symm
        rw [decide_eq_true_eq, eq_iff_elems]
        exact ⟨HE.out, fun i hi hi2 => hv.out i hi hi2 (by omega)⟩
  · have hb : (l1.length != l2.length) = true := by simp [he]
    have hb' : ((l1.length : Int) != (l2.length : Int)) = true := by simp; omega
    go_wp2
    go_ret
    refine ⟨ret_bool ?_, Below.refl _ _⟩
    symm
    rw [decide_eq_false_iff_not]
    rintro rfl
    exact he rfl
set_option maxHeartbeats 1000000 in
theorem proof_Same (S1 S2 : Nat → Prop) (a1 a2 : Option Addr) (c1 c2 : Nat) (l1 l2 : List St) (w : World) (h1 : Rd kSt S1 w a1 c1 l1) (h2 : Rd kSt S2 w a2 c2 l2) :
    Calls Tryd.prog 30 #[.slice a1 l1.length c1, .slice a2 l2.length c2] w fun e w' => e = .returned (.bool (decide (l1 = l2))) ∧ Below w.heap.size w w' := by
  go_enter Tryd.func30, Tryd.ntmps30
  go_wp2_with (first
    | (go_at_call 43; refine (eqf_St S1 S2 a1 a2 c1 c2 l1 l2 w h1 h2).mono ?_; rintro e w1 ⟨rfl, hb1⟩)
    | fail)
  go_ret
  exact ⟨rfl, hb1⟩
end Go.Proofs.Sat
