/- MsQ, MsR, one after the other. -/
import Derived.Test.YtiepphjpfjfkmaaGreatDoorMsP
set_option linter.unusedVariables false
set_option linter.unusedSimpArgs false
/- Same of the reference, at programs. -/
namespace Go.Proofs.Sat
open Go Go.RowKit
set_option maxRecDepth 20000 in
set_option maxHeartbeats 4000000 in
theorem ref48_Same (S1 S2 : Nat → Prop) (c d : Cd) (p q : CdAt) (w : World) (h1 : CdRd S1 w c p) (h2 : CdRd S2 w d q) : Calls Tryz.prog 16 #[cdVal c p, cdVal d q] w fun e w' => e = .returned (.bool (decide (c = d))) ∧ Below w.heap.size w w' := by
  obtain ⟨ia, ic, oa, oc⟩ := p
  obtain ⟨ja, jc, qa, qc⟩ := q
  have BW := Lib.hid (below_alloc (below_alloc (Below.refl w.heap.size w) (.cells (cellsC c ia ic oa oc) 25)) (.cells (cellsC d ja jc qa qc) 25))
  have KC := Lib.hid (block_alloc (heap_alloc_new w (.cells (cellsC c ia ic oa oc) 25)) (.cells (cellsC d ja jc qa qc) 25))
  have KD := Lib.hid (block_at1 w (.cells (cellsC c ia ic oa oc) 25) (.cells (cellsC d ja jc qa qc) 25))
  have H1 := Lib.hid h1
  have H2 := Lib.hid h2
  have l1 := h1.ins.le
  have l2 := h2.ins.le
  have l3 := h1.out.le
  have l4 := h2.out.le
  have EQ : Hid (c = d ↔ c.width = d.width ∧ c.regs = d.regs ∧ c.ins.length = d.ins.length ∧ c.out.length = d.out.length ∧ c.out = d.out ∧ c.ins = d.ins) := by
    show _ ↔ _
    constructor
    · rintro rfl; exact ⟨rfl, rfl, rfl, rfl, rfl, rfl⟩
    · rintro ⟨a, b, -, -, e, f⟩
      cases c; cases d; simp_all
  clear h1 h2
  unfold cdVal
  go_enter Tryz.func16, Tryz.ntmps16
  go_upto_region 1 with fail
  obtain ⟨s0, s1, s2, s3⟩ := cd_block4 KC.out
  obtain ⟨t0, t1, t2, t3⟩ := cd_block4 KD.out
  generalize (w.alloc (.cells (cellsC c ia ic oa oc) 25)).alloc (.cells (cellsC d ja jc qa qc) 25) = W0 at *
  have HO1 := Lib.hid (H1.out.out.frame (Same.below BW.out))
  have HO2 := Lib.hid (H2.out.out.frame (Same.below BW.out))
  go_cut [36] (fun s wx => s = .bool (!(decide (c.width = d.width ∧ c.regs = d.regs ∧ c.ins.length = d.ins.length ∧ c.out.length = d.out.length))) ∧ Drawn W0 wx)
  case first =>
    by_cases e1 : c.width = d.width
    · have f1 : (c.width != d.width) = false := by simpa using e1
      by_cases e2 : c.regs = d.regs
      · have f2 : (c.regs != d.regs) = false := by simpa using e2
        by_cases e3 : c.ins.length = d.ins.length
        · have f3 : ((c.ins.length : Int) != (d.ins.length : Int)) = false := by simp; omega
          have f3' : (c.ins.length != d.ins.length) = false := by simpa using e3
          by_cases e4 : c.out.length = d.out.length
          · have f4 : ((c.out.length : Int) != (d.out.length : Int)) = false := by simp; omega
            have f4' : (c.out.length != d.out.length) = false := by simpa using e4
            have HE : Hid (decide (c.width = d.width ∧ c.regs = d.regs ∧ c.ins.length = d.ins.length ∧ c.out.length = d.out.length) = true) := by show _ = _; simp [e1, e2, e3, e4]
            clear e1 e2 e3 e4
            go_wp2_with fail
            go_meet
            case rel => exact ⟨by rw [HE.out]; rfl, Drawn.refl _⟩
          · have f4 : ((c.out.length : Int) != (d.out.length : Int)) = true := by simp; omega
            have f4' : (c.out.length != d.out.length) = true := by simpa using e4
            have HE : Hid (decide (c.width = d.width ∧ c.regs = d.regs ∧ c.ins.length = d.ins.length ∧ c.out.length = d.out.length) = false) := by show _ = _; simp [e4]
            clear e1 e2 e3 e4
            go_wp2_with fail
            go_meet
            case rel => exact ⟨by rw [HE.out]; rfl, Drawn.refl _⟩
        · have f3 : ((c.ins.length : Int) != (d.ins.length : Int)) = true := by simp; omega
          have HE : Hid (decide (c.width = d.width ∧ c.regs = d.regs ∧ c.ins.length = d.ins.length ∧ c.out.length = d.out.length) = false) := by show _ = _; simp [e3]
          have f3' : (c.ins.length != d.ins.length) = true := by simpa using e3
          clear e1 e2 e3
          go_wp2_with fail
          go_meet
          case rel => exact ⟨by rw [HE.out]; rfl, Drawn.refl _⟩
      · have f2 : (c.regs != d.regs) = true := by simpa using e2
        have HE : Hid (decide (c.width = d.width ∧ c.regs = d.regs ∧ c.ins.length = d.ins.length ∧ c.out.length = d.out.length) = false) := by show _ = _; simp [e2]
        clear e1 e2
        go_wp2_with fail
        go_meet
        case rel => exact ⟨by rw [HE.out]; rfl, Drawn.refl _⟩
    · have f1 : (c.width != d.width) = true := by simpa using e1
      have HE : Hid (decide (c.width = d.width ∧ c.regs = d.regs ∧ c.ins.length = d.ins.length ∧ c.out.length = d.out.length) = false) := by show _ = _; simp [e1]
      clear e1
      go_wp2_with fail
      go_meet
      case rel => exact ⟨by rw [HE.out]; rfl, Drawn.refl _⟩
  case rest =>
    obtain ⟨rfl, d1⟩ := hcut
    have B1 := Lib.hid (BW.out.trans (d1.below _))
    have KC1 := Lib.hid (d1.heap KC.out)
    have KD1 := Lib.hid (d1.heap KD.out)
    clear s0 s1 s2 s3 t0 t1 t2 t3 d1
    cases hb : decide (c.width = d.width ∧ c.regs = d.regs ∧ c.ins.length = d.ins.length ∧ c.out.length = d.out.length)
    · have HE : Hid (decide (c = d) = false) := by
        have := of_decide_eq_false hb
        exact decide_eq_false (fun e => this (by obtain ⟨a1, a2, a3, a4, a5, a6⟩ := EQ.out.1 e; exact ⟨a1, a2, a3, a4⟩))
      clear hb
      go_wp2
      go_ret
      exact ⟨ret_bool HE.out.symm, B1.out⟩
    · obtain ⟨e1, e2, e3, e4⟩ := of_decide_eq_true hb
      have HE0 : Hid (decide (c = d) = decide (c.ins = d.ins ∧ c.out = d.out)) := by
        show _ = _
        rw [Bool.eq_iff_iff, decide_eq_true_iff, decide_eq_true_iff, EQ.out]
        exact ⟨fun h => ⟨h.2.2.2.2.2, h.2.2.2.2.1⟩, fun h => ⟨e1, e2, e3, e4, h.2, h.1⟩⟩
      have HL := Lib.hid e3
      have HLO := Lib.hid e4
      clear hb e1 e2 e3 e4
      obtain ⟨w1, hw1⟩ : ∃ w1, w1 = wc := ⟨_, rfl⟩
      subst hw1
      go_wp2
      go_loopw [5] (fun i wr => ∃ k : Nat, k ≤ c.ins.length ∧ i = .int .i64 k ∧ Hid (c.ins.take k = d.ins.take k) ∧ Hid (Drawn w1 wr)) (fun i _ => c.ins.length - (intOf i).toNat)
      case atStart => exact ⟨0, by omega, rfl, by simp [Hid], Drawn.refl _⟩
      case round =>
        obtain ⟨k, hk, rfl, HT, HD⟩ := hrel
        obtain ⟨s0, s1, s2, s3⟩ := cd_block4 (HD.out.heap KC1.out)
        obtain ⟨t0, t1, t2, t3⟩ := cd_block4 (HD.out.heap KD1.out)
        by_cases hlt : k < c.ins.length
        · have hlt2 : k < d.ins.length := by have := HL.out; omega
          obtain ⟨b, o, rfl, -, hb0, hat⟩ := in_elem H1.out.ins hlt
          obtain ⟨b', o', rfl, -, hb0', hat'⟩ := in_elem H2.out.ins hlt2
          obtain ⟨c0, c1, c2, c3, c4, c5⟩ := hat.frame (w' := wr) ((HD.out.below w.heap.size).block b hb0 |>.trans (B1.out.block b hb0))
          obtain ⟨c0', c1', c2', c3', c4', c5'⟩ := hat'.frame (w' := wr) ((HD.out.below w.heap.size).block b' hb0' |>.trans (B1.out.block b' hb0'))
          have HT1 := Lib.hid (List.take_succ_eq_append_getElem hlt)
          have HT2 := Lib.hid (List.take_succ_eq_append_getElem hlt2)
          have HG1 := Lib.hid (List.getElem?_eq_getElem hlt)
          have HG2 := Lib.hid (List.getElem?_eq_getElem hlt2)
          have hk2 : (k : Int) < (d.ins.length : Int) := by omega
          clear hat hat'
          generalize c.ins[k] = x at *
          generalize d.ins[k] = y at *
          have NQ : ∀ W : World, (binOp .neq 48 (.agg #[.int .i64 x.op, .int .i64 x.dst, .int .i64 x.a, .int .i64 x.b, .int .i64 x.c, .int .u64 x.imm]) (.agg #[.int .i64 y.op, .int .i64 y.dst, .int .i64 y.a, .int .i64 y.b, .int .i64 y.c, .int .u64 y.imm])).run Tryz.prog W = .ok (.bool (!(decide (x = y)))) W := fun W => neq_in W x y
          by_cases hxy : x = y
          · have t9 : decide (x = y) = true := decide_eq_true hxy
            have HT3 : Hid (c.ins.take (k + 1) = d.ins.take (k + 1)) := by show _ = _; rw [HT1.out, HT2.out, HT.out, hxy]
            rw [t9] at NQ
            clear hxy t9
            go_wp2_with fail
            go_quiet (fail)
            go_wp2_with fail
            go_roundw
            case rel => exact ⟨k + 1, by omega, by go_num, HT3.out, HD.out.trans (Drawn.of _ _)⟩
            case measure => simp [intOf]; omega
          · have t9 : decide (x = y) = false := decide_eq_false hxy
            have HE : Hid (decide (c = d) = false) := by
              show _ = _
              rw [HE0.out]
              refine decide_eq_false (fun e => hxy ?_)
              have h1 := HG1.out
              rw [e.1, HG2.out] at h1
              exact (Option.some.inj h1).symm
            rw [t9] at NQ
            clear hxy t9
            go_wp2_with fail
            go_quiet (fail)
            go_wp2_with fail
            go_ret
            exact ⟨ret_bool HE.out.symm, B1.out.trans ((HD.out.trans (Drawn.of _ _)).below _)⟩
        · have hk2 : ¬ ((k : Int) < (c.ins.length : Int)) := by omega
          have HI : Hid (c.ins = d.ins) := by
            have h := HT.out
            rw [List.take_of_length_le (by omega), List.take_of_length_le (by have := HL.out; omega)] at h
            exact h
          obtain ⟨w2, hw2⟩ : ∃ w2, w2 = wr := ⟨_, rfl⟩
          subst hw2
          have B2 := Lib.hid (B1.out.trans (HD.out.below _))
          have KC2 := Lib.hid (HD.out.heap KC1.out)
          have KD2 := Lib.hid (HD.out.heap KD1.out)
          have HO1' := Lib.hid (H1.out.out.frame (Same.below B2.out))
          have HO2' := Lib.hid (H2.out.out.frame (Same.below B2.out))
          clear HT hlt hk
          go_wp2_with fail
          go_loopw [6] (fun i wr => ∃ k : Nat, k ≤ c.out.length ∧ i = .int .i64 k ∧ Hid (∀ i, i < k → c.out.getD i 0 = d.out.getD i 0) ∧ Hid (Drawn w2 wr)) (fun i _ => c.out.length - (intOf i).toNat)
          case atStart => exact ⟨0, by omega, rfl, fun i h => by omega, Drawn.refl _⟩
          case round =>
            obtain ⟨k, hk, rfl, HV, HD2⟩ := hrel
            obtain ⟨s0, s1, s2, s3⟩ := cd_block4 (HD2.out.heap KC2.out)
            obtain ⟨t0, t1, t2, t3⟩ := cd_block4 (HD2.out.heap KD2.out)
            by_cases hlt : k < c.out.length
            · have hlt2 : k < d.out.length := by have := HLO.out; omega
              obtain ⟨b1, o1, rfl, _, _, hc1⟩ := (HO1'.out.frame (Same.drawn _ HD2.out)).vals (by omega) 0
              obtain ⟨b2, o2, rfl, _, _, hc2⟩ := (HO2'.out.frame (Same.drawn _ HD2.out)).vals (by omega) 0
              have d1 := hc1 k hlt
              have d2 := hc2 k hlt2
              have hki : (k : Int) < (d.out.length : Int) := by omega
              clear hc1 hc2
              have HX : Hid (∀ i, i = k → (c.out.getD k 0 = d.out.getD k 0 ↔ c.out.getD i 0 = d.out.getD i 0)) := fun i h => by rw [h]
              have HNE : Hid (c.out.getD k 0 ≠ d.out.getD k 0 → c.out ≠ d.out) := fun h e => h (by rw [e])
              generalize c.out.getD k 0 = X at *
              generalize d.out.getD k 0 = Y at *
              by_cases hq : X = Y
              · have hq' : (X != Y) = false := by simp [hq]
                have HQ := Lib.hid hq
                clear hq
                go_wp2_with fail
                go_quiet (fail)
                go_wp2_with fail
                go_roundw
                case rel =>
                  refine ⟨k + 1, by omega, by go_num, fun i h => ?_, HD2.out.trans (Drawn.of _ _)⟩
                  rcases Nat.lt_or_ge i k with h' | h'
                  · exact HV.out i h'
                  · exact (HX.out i (by omega)).1 HQ.out
                case measure => simp [intOf]; omega
              · have hq' : (X != Y) = true := by simp [hq]
                have HE : Hid (decide (c = d) = false) := by
                  show _ = _
                  rw [HE0.out]
                  exact decide_eq_false (fun e => HNE.out hq e.2)
                clear hq
                go_wp2_with fail
                go_quiet (fail)
                go_wp2_with fail
                go_ret
                exact ⟨ret_bool HE.out.symm, B2.out.trans ((HD2.out.trans (Drawn.of _ _)).below _)⟩
            · have hki : ¬ ((k : Int) < (c.out.length : Int)) := by omega
              have HE : Hid (decide (c = d) = true) := by
                show _ = _
                rw [HE0.out]
                refine decide_eq_true ⟨HI.out, ?_⟩
                rw [eq_iff_places]
                exact ⟨HLO.out, fun i hi => HV.out i (by omega)⟩
              clear hlt hk
              go_wp2_with fail
              go_ret
              exact ⟨ret_bool HE.out.symm, B2.out.trans (HD2.out.below _)⟩
end Go.Proofs.Sat
/- slices.Equal at instructions and at numbers; Same of package isa. -/
namespace Go.Proofs.Sat
open Go Go.RowKit
set_option maxRecDepth 20000 in
set_option maxHeartbeats 4000000 in
theorem ins_Equal (S1 S2 : Nat → Prop) (a1 a2 : Option Addr) (c1 c2 : Nat) (l1 l2 : List In) (w : World) (h1 : Rd kIn S1 w a1 c1 l1) (h2 : Rd kIn S2 w a2 c2 l2) :
    Calls Tryz.prog 55 #[.slice a1 l1.length c1, .slice a2 l2.length c2] w fun e w' => e = .returned (.bool (decide (l1 = l2))) ∧ Drawn w w' := by
  have hl1 := h1.le
  have hl2 := h2.le
  go_enter Tryz.func55, Tryz.ntmps55
  by_cases he : l1.length = l2.length
  · have hb : (l1.length != l2.length) = false := by simp [he]
    have hb' : ((l1.length : Int) != (l2.length : Int)) = false := by simp [he]
    have HE := Lib.hid he
    clear he
    go_wp2_with fail
    go_loopw [13] (fun i wr => ∃ k : Nat, k ≤ l1.length ∧ i = .int .i64 k ∧ Hid (l1.take k = l2.take k) ∧ Hid (Drawn w wr)) (fun i _ => l1.length - (intOf i).toNat)
    case atStart => exact ⟨0, by omega, rfl, by simp [Hid], Drawn.refl _⟩
    case round =>
      obtain ⟨k, hk, rfl, HT, HD⟩ := hrel
      by_cases hlt : k < l1.length
      · have hlt2 : k < l2.length := by have := HE.out; omega
        have hk2 : (k : Int) < (l2.length : Int) := by omega
        obtain ⟨b, o, rfl, -, hb0, hat⟩ := in_elem h1 hlt
        obtain ⟨b', o', rfl, -, hb0', hat'⟩ := in_elem h2 hlt2
        obtain ⟨c0, c1, c2, c3, c4, c5⟩ := hat.frame (w' := wr) ((HD.out.below w.heap.size).block b hb0)
        obtain ⟨c0', c1', c2', c3', c4', c5'⟩ := hat'.frame (w' := wr) ((HD.out.below w.heap.size).block b' hb0')
        have HT1 := Lib.hid (List.take_succ_eq_append_getElem hlt)
        have HT2 := Lib.hid (List.take_succ_eq_append_getElem hlt2)
        have HG1 := Lib.hid (List.getElem?_eq_getElem hlt)
        have HG2 := Lib.hid (List.getElem?_eq_getElem hlt2)
        clear hat hat'
        generalize l1[k] = x at *
        generalize l2[k] = y at *
        have NQ : ∀ W : World, (binOp .neq 48 (.agg #[.int .i64 x.op, .int .i64 x.dst, .int .i64 x.a, .int .i64 x.b, .int .i64 x.c, .int .u64 x.imm]) (.agg #[.int .i64 y.op, .int .i64 y.dst, .int .i64 y.a, .int .i64 y.b, .int .i64 y.c, .int .u64 y.imm])).run Tryz.prog W = .ok (.bool (!(decide (x = y)))) W := fun W => neq_in W x y
        by_cases hxy : x = y
        · have t9 : decide (x = y) = true := decide_eq_true hxy
          have HT3 : Hid (l1.take (k + 1) = l2.take (k + 1)) := by show _ = _; rw [HT1.out, HT2.out, HT.out, hxy]
          rw [t9] at NQ
          clear hxy t9
          go_wp2_with fail
          go_quiet (fail)
          go_wp2_with fail
          go_roundw
          case rel => exact ⟨k + 1, by omega, by go_num, HT3.out, HD.out.trans (Drawn.of _ _)⟩
          case measure => simp [intOf]; omega
        · have t9 : decide (x = y) = false := decide_eq_false hxy
          have HN : Hid (decide (l1 = l2) = false) := by
            refine decide_eq_false (fun e => hxy ?_)
            have h1 := HG1.out
            rw [e, HG2.out] at h1
            exact (Option.some.inj h1).symm
          rw [t9] at NQ
          clear hxy t9
          go_wp2_with fail
          go_quiet (fail)
          go_wp2_with fail
          go_ret
          exact ⟨ret_bool HN.out.symm, HD.out.trans (Drawn.of _ _)⟩
      · have hk2 : ¬ ((k : Int) < (l1.length : Int)) := by omega
        have HI : Hid (decide (l1 = l2) = true) := by
          have h := HT.out
          rw [List.take_of_length_le (by omega), List.take_of_length_le (by have := HE.out; omega)] at h
          exact decide_eq_true h
        clear hlt hk
        go_wp2_with fail
        go_ret
        exact ⟨ret_bool HI.out.symm, HD.out⟩
  · have hb : (l1.length != l2.length) = true := by simp [he]
    have hb' : ((l1.length : Int) != (l2.length : Int)) = true := by simp; omega
    go_wp2_with fail
    go_ret
    refine ⟨ret_bool ?_, Drawn.refl _⟩
    symm
    rw [decide_eq_false_iff_not]
    rintro rfl
    exact he rfl
theorem int_Equal (S1 S2 : Nat → Prop) (a1 a2 : Option Addr) (c1 c2 : Nat) (l1 l2 : List Int) (w : World) (h1 : Rd (Kd.int .i64) S1 w a1 c1 l1) (h2 : Rd (Kd.int .i64) S2 w a2 c2 l2) :
    Calls Tryz.prog 56 #[.slice a1 l1.length c1, .slice a2 l2.length c2] w fun e w' => e = .returned (.bool (decide (l1 = l2))) ∧ Drawn w w' := by
  by_cases he : l1.length = l2.length
  · rcases Nat.eq_zero_or_pos l1.length with h0 | hp
    · obtain rfl := List.eq_nil_of_length_eq_zero h0
      obtain rfl := List.eq_nil_of_length_eq_zero (he.symm.trans h0)
      refine (Tryz.slices_Equal_int_empty a1 a2 c1 0 c2 w (by omega)).mono ?_
      rintro e w' ⟨rfl, rfl⟩
      exact ⟨rfl, Drawn.refl _⟩
    · obtain ⟨b1, o1, rfl, _, _, hc1⟩ := h1.vals hp 0
      obtain ⟨b2, o2, rfl, _, _, hc2⟩ := h2.vals (by omega) 0
      refine (Tryz.slices_Equal_int b1 o1 l1.length c1 b2 o2 l2.length c2 l1 l2 w (Nat.le_refl _) (Nat.le_refl _) h1.le h2.le hc1 hc2).mono ?_
      rintro e w' ⟨rfl, q, rfl⟩
      refine ⟨ret_bool ?_, Drawn.of _ _⟩
      rw [List.take_length, List.take_length]
      rw [Bool.eq_iff_iff]; simp
  · refine (Tryz.slices_Equal_int_lens a1 a2 l1.length c1 l2.length c2 w he).mono ?_
    rintro e w' ⟨rfl, rfl⟩
    exact ⟨ret_bool (by symm; rw [decide_eq_false_iff_not]; rintro rfl; exact he rfl), Drawn.refl _⟩
set_option maxRecDepth 20000 in
set_option maxHeartbeats 4000000 in
theorem isa_Same (S1 S2 : Nat → Prop) (c d : Cd) (p q : CdAt) (w : World) (h1 : CdRd S1 w c p) (h2 : CdRd S2 w d q) : Calls Tryz.prog 31 #[cdVal c p, cdVal d q] w fun e w' => e = .returned (.bool (decide (c = d))) ∧ Below w.heap.size w w' := by
  obtain ⟨ia, ic, oa, oc⟩ := p
  obtain ⟨ja, jc, qa, qc⟩ := q
  have BW := Lib.hid (below_alloc (below_alloc (Below.refl w.heap.size w) (.cells (cellsC c ia ic oa oc) 25)) (.cells (cellsC d ja jc qa qc) 25))
  have KC := Lib.hid (block_alloc (heap_alloc_new w (.cells (cellsC c ia ic oa oc) 25)) (.cells (cellsC d ja jc qa qc) 25))
  have KD := Lib.hid (block_at1 w (.cells (cellsC c ia ic oa oc) 25) (.cells (cellsC d ja jc qa qc) 25))
  have H1 := Lib.hid h1
  have H2 := Lib.hid h2
  have EQ : Hid (c = d ↔ c.width = d.width ∧ c.regs = d.regs ∧ c.ins = d.ins ∧ c.out = d.out) := by
    show _ ↔ _
    constructor
    · rintro rfl; exact ⟨rfl, rfl, rfl, rfl⟩
    · rintro ⟨a, b, e, f⟩
      cases c; cases d; simp_all
  clear h1 h2
  unfold cdVal
  go_enter Tryz.func31, Tryz.ntmps31
  go_upto_region 1 with fail
  obtain ⟨s0, s1, s2, s3⟩ := cd_block4 KC.out
  obtain ⟨t0, t1, t2, t3⟩ := cd_block4 KD.out
  generalize (w.alloc (.cells (cellsC c ia ic oa oc) 25)).alloc (.cells (cellsC d ja jc qa qc) 25) = W0 at *
  have CE := Lib.hid (ins_Equal _ _ ia ja ic jc c.ins d.ins W0 (H1.out.ins.frame (Same.below BW.out)) (H2.out.ins.frame (Same.below BW.out)))
  by_cases e1 : c.width = d.width
  case neg =>
    have f1 : (c.width == d.width) = false := by simpa using e1
    have HE : Hid (decide (c = d) = false) := decide_eq_false (fun e => e1 (EQ.out.1 e).1)
    clear e1
    go_wp2_with fail
    go_ret
    exact ⟨ret_bool HE.out.symm, BW.out⟩
  have f1 : (c.width == d.width) = true := by simpa using e1
  by_cases e2 : c.regs = d.regs
  case neg =>
    have f2 : (c.regs == d.regs) = false := by simpa using e2
    have HE : Hid (decide (c = d) = false) := decide_eq_false (fun e => e2 (EQ.out.1 e).2.1)
    clear e1 e2
    go_wp2_with fail
    go_ret
    exact ⟨ret_bool HE.out.symm, BW.out⟩
  have f2 : (c.regs == d.regs) = true := by simpa using e2
  have HE0 : Hid (decide (c = d) = decide (c.ins = d.ins ∧ c.out = d.out)) := by
    show _ = _
    rw [Bool.eq_iff_iff, decide_eq_true_iff, decide_eq_true_iff, EQ.out]
    exact ⟨fun h => h.2.2, fun h => ⟨e1, e2, h⟩⟩
  clear e1 e2
  go_wp2_with fail
  refine CE.out.mono ?_
  rintro e w1 ⟨rfl, d1⟩
  have B1 := Lib.hid (BW.out.trans (d1.below _))
  obtain ⟨s0, s1, s2, s3⟩ := cd_block4 (d1.heap KC.out)
  obtain ⟨t0, t1, t2, t3⟩ := cd_block4 (d1.heap KD.out)
  have CI := Lib.hid (int_Equal _ _ oa qa oc qc c.out d.out w1 ((H1.out.out.frame (Same.below BW.out)).frame (Same.drawn _ d1)) ((H2.out.out.frame (Same.below BW.out)).frame (Same.drawn _ d1)))
  clear d1
  cases hi : decide (c.ins = d.ins)
  · have HE : Hid (decide (c = d) = false) := by
      show _ = _
      rw [HE0.out]
      exact decide_eq_false (fun e => (of_decide_eq_false hi) e.1)
    clear hi
    go_wp2_with fail
    go_ret
    exact ⟨ret_bool HE.out.symm, B1.out⟩
  · have HE : Hid (decide (c = d) = decide (c.out = d.out)) := by
      show _ = _
      rw [HE0.out, Bool.eq_iff_iff, decide_eq_true_iff, decide_eq_true_iff]
      exact ⟨fun h => h.2, fun h => ⟨of_decide_eq_true hi, h⟩⟩
    clear hi
    go_wp2_with fail
    refine CI.out.mono ?_
    rintro e w2 ⟨rfl, d2⟩
    have B2 := Lib.hid (B1.out.trans (d2.below _))
    clear d2
    go_wp2_with fail
    go_ret
    exact ⟨ret_bool HE.out.symm, B2.out⟩
end Go.Proofs.Sat
