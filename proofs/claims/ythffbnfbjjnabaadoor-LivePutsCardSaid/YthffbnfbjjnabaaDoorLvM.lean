/- The walks of the reference's Same and Without. -/
import Derived.Test.YthffbnfbjjnabaaDoorLvQ4
import Derived.Test.YthffbnfbjjnabaaDoorIsaY
import Derived.Test.YthffbnfbjjnabaaDoorEqW
set_option linter.unusedVariables false
set_option linter.unusedSimpArgs false
namespace Go.Proofs.Sat
open Go Go.RowKit
set_option maxRecDepth 20000 in
set_option maxHeartbeats 2000000 in
theorem ref50_Same (S1 S2 : Nat → Prop) (c d : Cd) (p q : CdAt) (w : World) (h1 : CdRd S1 w c p) (h2 : CdRd S2 w d q) : Calls Tryd.prog 16 #[cdVal c p, cdVal d q] w fun e w' => e = .returned (.bool (decide (c = d))) ∧ Below w.heap.size w w' := by
  obtain ⟨ia, ic, oa, oc⟩ := p
  obtain ⟨ja, jc, qa, qc⟩ := q
  have BW := Lib.hid (below_alloc (below_alloc (Below.refl w.heap.size w) (.cells (cellsC c ia ic oa oc) 25)) (.cells (cellsC d ja jc qa qc) 25))
  have KC := Lib.hid (block_alloc (heap_alloc_new w (.cells (cellsC c ia ic oa oc) 25)) (.cells (cellsC d ja jc qa qc) 25))
  have KD := Lib.hid (block_at1 w (.cells (cellsC c ia ic oa oc) 25) (.cells (cellsC d ja jc qa qc) 25))
  have H1 := Lib.hid h1
  have H2 := Lib.hid h2
  have l1 := h1.ins.le
  have l2 := h2.ins.le
  have EQ : Hid (c = d ↔ c.width = d.width ∧ c.regs = d.regs ∧ c.ins.length = d.ins.length ∧ c.out = d.out ∧ c.ins = d.ins) := by
    show _ ↔ _
    constructor
    · rintro rfl; exact ⟨rfl, rfl, rfl, rfl, rfl⟩
    · rintro ⟨a, b, -, e, f⟩
      cases c; cases d; simp_all
  clear h1 h2
  unfold cdVal
  go_enter Tryd.func16, Tryd.ntmps16
  go_upto_region 1 with fail
  obtain ⟨s0, s1, s2, s3⟩ := cd_block4 KC.out
  obtain ⟨t0, t1, t2, t3⟩ := cd_block4 KD.out
  generalize (w.alloc (.cells (cellsC c ia ic oa oc) 25)).alloc (.cells (cellsC d ja jc qa qc) 25) = W0 at *
  have HO1 := Lib.hid (H1.out.out.frame (Same.below BW.out))
  have HO2 := Lib.hid (H2.out.out.frame (Same.below BW.out))
  go_cut [34] (fun s wx => s = .bool (!(decide (c.width = d.width ∧ c.regs = d.regs ∧ c.ins.length = d.ins.length ∧ c.out = d.out))) ∧ Drawn W0 wx)
  case first =>
    by_cases e1 : c.width = d.width
    · have f1 : (c.width != d.width) = false := by simpa using e1
      by_cases e2 : c.regs = d.regs
      · have f2 : (c.regs != d.regs) = false := by simpa using e2
        by_cases e3 : c.ins.length = d.ins.length
        · have f3 : ((c.ins.length : Int) != (d.ins.length : Int)) = false := by simp; omega
          have HE : Hid (decide (c.width = d.width ∧ c.regs = d.regs ∧ c.ins.length = d.ins.length ∧ c.out = d.out) = decide (c.out = d.out)) := by show _ = _; simp [e1, e2, e3]
          have f3' : (c.ins.length != d.ins.length) = false := by simpa using e3
          clear e1 e2 e3
          go_wp2_with fail
          refine (ref50_SameInts _ _ oa qa oc qc c.out d.out W0 HO1.out HO2.out).mono ?_
          rintro e w2 ⟨rfl, d2⟩
          go_wp2_with fail
          go_meet
          case rel => exact ⟨by rw [HE.out], d2⟩
        · have f3 : ((c.ins.length : Int) != (d.ins.length : Int)) = true := by simp; omega
          have HE : Hid (decide (c.width = d.width ∧ c.regs = d.regs ∧ c.ins.length = d.ins.length ∧ c.out = d.out) = false) := by show _ = _; simp [e3]
          have f3' : (c.ins.length != d.ins.length) = true := by simpa using e3
          clear e1 e2 e3
          go_wp2_with fail
          go_meet
          case rel => exact ⟨by rw [HE.out]; rfl, Drawn.refl _⟩
      · have f2 : (c.regs != d.regs) = true := by simpa using e2
        have HE : Hid (decide (c.width = d.width ∧ c.regs = d.regs ∧ c.ins.length = d.ins.length ∧ c.out = d.out) = false) := by show _ = _; simp [e2]
        clear e1 e2
        go_wp2_with fail
        go_meet
        case rel => exact ⟨by rw [HE.out]; rfl, Drawn.refl _⟩
    · have f1 : (c.width != d.width) = true := by simpa using e1
      have HE : Hid (decide (c.width = d.width ∧ c.regs = d.regs ∧ c.ins.length = d.ins.length ∧ c.out = d.out) = false) := by show _ = _; simp [e1]
      clear e1
      go_wp2_with fail
      go_meet
      case rel => exact ⟨by rw [HE.out]; rfl, Drawn.refl _⟩
  case rest =>
    obtain ⟨rfl, d1⟩ := hcut
    have B1 := Lib.hid (BW.out.trans (d1.below _))
    have KC1 := Lib.hid (d1.heap KC.out)
    have KD1 := Lib.hid (d1.heap KD.out)
    clear s0 s1 s2 s3 t0 t1 t2 t3 d1
    cases hb : decide (c.width = d.width ∧ c.regs = d.regs ∧ c.ins.length = d.ins.length ∧ c.out = d.out)
    · have HE : Hid (decide (c = d) = false) := by
        have := of_decide_eq_false hb
        exact decide_eq_false (fun e => this (by obtain ⟨a1, a2, a3, a4, a5⟩ := EQ.out.1 e; exact ⟨a1, a2, a3, a4⟩))
      clear hb
      go_wp2
      go_ret
      exact ⟨ret_bool HE.out.symm, B1.out⟩
    · obtain ⟨e1, e2, e3, e4⟩ := of_decide_eq_true hb
      have HE0 : Hid (decide (c = d) = decide (c.ins = d.ins)) := by
        show _ = _
        rw [Bool.eq_iff_iff, decide_eq_true_iff, decide_eq_true_iff, EQ.out]
        exact ⟨fun h => h.2.2.2.2, fun h => ⟨e1, e2, e3, e4, h⟩⟩
      have HL := Lib.hid e3
      clear hb e1 e2 e3 e4
      obtain ⟨w1, hw1⟩ : ∃ w1, w1 = wc := ⟨_, rfl⟩
      subst hw1
      go_wp2
      go_loopw [5] (fun i wr => ∃ k : Nat, k ≤ c.ins.length ∧ i = .int .i64 k ∧ Hid (c.ins.take k = d.ins.take k) ∧ Hid (Drawn w1 wr)) (fun i _ => c.ins.length - (intOf i).toNat)
      case atStart => exact ⟨0, by omega, rfl, by simp [Hid], Drawn.refl _⟩
      case round =>
        obtain ⟨k, hk, rfl, HT, HD⟩ := hrel
        obtain ⟨s0, s1, s2, s3⟩ := cd_block4 (HD.out.heap KC1.out)
        obtain ⟨t0, t1, t2, t3⟩ := cd_block4 (HD.out.heap KD1.out)
        by_cases hlt : k < c.ins.length
        · have hlt2 : k < d.ins.length := by have := HL.out; omega
          obtain ⟨b, o, rfl, -, hb0, hat⟩ := in_elem H1.out.ins hlt
          obtain ⟨b', o', rfl, -, hb0', hat'⟩ := in_elem H2.out.ins hlt2
          obtain ⟨c0, c1, c2, c3, c4, c5⟩ := hat.frame (w' := wr) ((HD.out.below w.heap.size).block b hb0 |>.trans (B1.out.block b hb0))
          obtain ⟨c0', c1', c2', c3', c4', c5'⟩ := hat'.frame (w' := wr) ((HD.out.below w.heap.size).block b' hb0' |>.trans (B1.out.block b' hb0'))
          have HT1 := Lib.hid (List.take_succ_eq_append_getElem hlt)
          have HT2 := Lib.hid (List.take_succ_eq_append_getElem hlt2)
          have HG1 := Lib.hid (List.getElem?_eq_getElem hlt)
          have HG2 := Lib.hid (List.getElem?_eq_getElem hlt2)
          have hk2 : (k : Int) < (d.ins.length : Int) := by omega
          clear hat hat'
          generalize c.ins[k] = x at *
          generalize d.ins[k] = y at *
          have NQ : ∀ W : World, (binOp .neq 54 (.agg #[.int .i64 x.op, .int .i64 x.dst, .int .i64 x.a, .int .i64 x.b, .int .i64 x.c, .int .u64 x.imm]) (.agg #[.int .i64 y.op, .int .i64 y.dst, .int .i64 y.a, .int .i64 y.b, .int .i64 y.c, .int .u64 y.imm])).run Tryd.prog W = .ok (.bool (!(decide (x = y)))) W := fun W => neq_in W x y
          by_cases hxy : x = y
          · have t9 : decide (x = y) = true := decide_eq_true hxy
            have HT3 : Hid (c.ins.take (k + 1) = d.ins.take (k + 1)) := by show _ = _; rw [HT1.out, HT2.out, HT.out, hxy]
            rw [t9] at NQ
            clear hxy t9
            go_wp2_with fail
            go_quiet (fail)
            go_wp2_with fail
            go_roundw
            case rel => exact ⟨k + 1, by omega, by go_num, HT3.out, HD.out.trans (Drawn.of _ _)⟩
            case measure => simp [intOf]; omega
          · have t9 : decide (x = y) = false := decide_eq_false hxy
            have HE : Hid (decide (c = d) = false) := by
              show _ = _
              rw [HE0.out]
              refine decide_eq_false (fun e => hxy ?_)
              have := HG1.out
              rw [e, HG2.out] at this
              exact (Option.some.inj this).symm
            rw [t9] at NQ
            clear hxy t9
            go_wp2_with fail
            go_quiet (fail)
            go_wp2_with fail
            go_ret
            exact ⟨ret_bool HE.out.symm, B1.out.trans ((HD.out.trans (Drawn.of _ _)).below _)⟩
        · have HE : Hid (decide (c = d) = true) := by
            show _ = _
            rw [HE0.out]
            have := HT.out
            rw [List.take_of_length_le (by omega), List.take_of_length_le (by have := HL.out; omega)] at this
            exact decide_eq_true this
          go_wp2_with fail
          go_ret
          exact ⟨ret_bool HE.out.symm, B1.out.trans (HD.out.below _)⟩
theorem er_succ {α : Type} {l : List α} {k i : Nat} (hk : k < l.length) : (l.take (k + 1)).eraseIdx i = if k = i then (l.take k).eraseIdx i else (l.take k).eraseIdx i ++ [l[k]] := by
  rw [List.take_succ_eq_append_getElem hk]
  have hl : (l.take k).length = k := by simp; omega
  by_cases e : k = i
  · have h2 : (l.take k).eraseIdx i = l.take k := List.eraseIdx_of_length_le (by omega)
    rw [if_pos e, h2, List.eraseIdx_append_of_length_le (by omega), show i - (l.take k).length = 0 by omega]
    simp
  · rw [if_neg e]
    by_cases h : i < k
    · rw [List.eraseIdx_append_of_lt_length (by omega)]
    · rw [List.eraseIdx_of_length_le (by simp; omega), List.eraseIdx_of_length_le (by omega)]
/-- A program without instruction i. -/
def wout (c : Cd) (i : Nat) : Cd := { c with ins := c.ins.eraseIdx i }
set_option maxRecDepth 20000 in
set_option maxHeartbeats 2000000 in
theorem ref50_Without (S : Nat → Prop) (c : Cd) (p : CdAt) (i : Nat) (w : World) (h : CdRd S w c p) (hi : i < c.ins.length) (h256 : c.ins.length ≤ 1000000) : Calls Tryd.prog 34 #[cdVal c p, .int .i64 (i : Int)] w fun e w' => ∃ a cc, e = .returned (cdVal (wout c i) ⟨a, cc, p.oa, p.oc⟩) ∧ Rd kIn (fun b => w.heap.size + 2 ≤ b) w' a cc (c.ins.eraseIdx i) ∧ Below w.heap.size w w' := by
  obtain ⟨ia, ic, oa, oc⟩ := p
  have BW := Lib.hid (below_alloc (below_alloc (Below.refl w.heap.size w) (.cells (cellsC c ia ic oa oc) 25)) (.cells #[.int .i64 0, .int .i64 0, .slice none 0 0, .slice none 0 0] 25))
  have KC := Lib.hid (block_alloc (heap_alloc_new w (.cells (cellsC c ia ic oa oc) 25)) (.cells #[.int .i64 0, .int .i64 0, .slice none 0 0, .slice none 0 0] 25))
  have KZ := Lib.hid (block_at1 w (.cells (cellsC c ia ic oa oc) 25) (.cells #[.int .i64 0, .int .i64 0, .slice none 0 0, .slice none 0 0] 25))
  have HC := Lib.hid h
  have hil := h.ins.le
  clear h
  unfold cdVal
  go_enter Tryd.func34, Tryd.ntmps34
  go_upto_region 1 with fail
  generalize (w.alloc (.cells (cellsC c ia ic oa oc) 25)).alloc (.cells #[.int .i64 0, .int .i64 0, .slice none 0 0, .slice none 0 0] 25) = W0 at *
  have HZ0 : Hid (w.heap.size + 2 ≤ W0.heap.size) := (Array.getElem?_eq_some_iff.1 KZ.out).1
  have HWO : Hid (Own kIn 54 NoS (W0.alloc (.cells #[] 54)) (w.heap.size + 2) (.slice (some ⟨W0.heap.size, 0, none⟩) 0 0) []) :=
    ⟨[], ⟨rfl, .inr ⟨W0.heap.size, 0, #[], rfl, HZ0.out, heap_alloc_new W0 _, by simp, by simp [maxLen], rfl, rfl⟩⟩, .nil⟩
  go_wp2_with fail
  go_loopw [5, 6] (fun v j wr => ∃ k : Nat, k ≤ c.ins.length ∧ j = .int .i64 k ∧ Hid (Own kIn 54 NoS wr (w.heap.size + 2) v ((c.ins.take k).eraseIdx i)) ∧ Hid (Below w.heap.size w wr) ∧ Hid (w.heap.size + 2 ≤ wr.heap.size) ∧ Hid (wr.heap[w.heap.size]? = some (.cells (cellsC c ia ic oa oc) 25 (0, 0))) ∧ Hid (wr.heap[w.heap.size + 1]? = some (.cells #[.int .i64 0, .int .i64 0, .slice none 0 0, .slice none 0 0] 25 (0, 0)))) (fun _ j _ => c.ins.length - (intOf j).toNat)
  case atStart => exact ⟨0, by omega, rfl, HWO.out, below_alloc BW.out _, Nat.le_trans HZ0.out (by simp), block_alloc KC.out _, block_alloc KZ.out _⟩
  case round =>
    obtain ⟨k, hk, rfl, HO, HB, HZ, KC1, KZ1⟩ := hrel
    obtain ⟨z0, z1, z2, z3⟩ := cd_block4 KC1.out
    by_cases hlt : k < c.ins.length
    · obtain ⟨b, o, rfl, -, hbw0, hat0⟩ := in_elem HC.out.ins hlt
      obtain ⟨c0, c1, c2, c3, c4, c5⟩ := hat0.frame (w' := wr) (HB.out.block b hbw0)
      have HT := Lib.hid (er_succ (i := i) hlt)
      have HL : Hid (((c.ins.take k).eraseIdx i).length ≤ k) := Nat.le_trans (List.length_eraseIdx_le _ _) (by simp; omega)
      clear hat0
      generalize c.ins[k] = x at *
      by_cases hki : k = i
      · have t0 : ((k : Int) != (i : Int)) = false := by simp; omega
        have HT2 := HT.out
        rw [if_pos hki] at HT2
        replace HT2 := Lib.hid HT2
        clear hki
        go_wp2_with fail
        go_roundw
        case rel => exact ⟨k + 1, by omega, by go_num, by show Own _ _ _ _ _ _ _; rw [HT2.out]; exact HO.out, HB.out, HZ.out, KC1.out, KZ1.out⟩
        case measure => simp [intOf]; omega
      · have t0 : ((k : Int) != (i : Int)) = true := by simp; omega
        have HT2 := HT.out
        rw [if_neg hki] at HT2
        replace HT2 := Lib.hid HT2
        clear hki
        have HLL := Lib.hid (Nat.le_trans HL.out hk)
        go_wp2_with (first
          | (at_builtin; refine wpList_append_ev _ rfl _ _ 22 rfl _ _ rfl rfl _ (run_app1 wr infoIn rfl _ HO.out 54 (inCells x) x rfl (by have := HLL.out; omega) (by have := HLL.out; omega) HZ.out) ?_; rintro n6 w6 ⟨ow6, g6, -, _⟩; have B6 := Lib.hid (HB.out.grown g6 HB.out.size (fun k hk => by have := (HO.out.lt k hk).1; omega)); have KC6 := Lib.hid (block_grown g6 KC1.out (fun e => by have := (HO.out.lt _ e.symm).1; omega)); have KZ6 := Lib.hid (block_grown g6 KZ1.out (fun e => by have := (HO.out.lt _ e.symm).1; omega)); have O6 := Lib.hid ow6; have H6 : Hid (w.heap.size + 2 ≤ w6.heap.size) := Nat.le_trans HZ.out g6.size; clear ow6 g6)
          | fail)
        go_roundw
        case rel => exact ⟨k + 1, by omega, by go_num, by show Own _ _ _ _ _ _ _; rw [HT2.out]; exact O6.out, B6.out, H6.out, KC6.out, KZ6.out⟩
        case measure => simp [intOf]; omega
    · obtain rfl : k = c.ins.length := by omega
      rw [List.take_length] at HO
      obtain ⟨a2, cc2, rfl, r2⟩ := HO.out.rd
      have R2 := Lib.hid (r2.mono (S' := fun b => w.heap.size + 2 ≤ b) (fun b _ hb => by rcases hb with hb | hb; (· exact hb.elim); (· exact hb)))
      clear r2
      obtain ⟨q0, q1, q2, q3⟩ := cd_block4 KZ1.out
      have qf : ∀ i, wr.frozen? ⟨w.heap.size, i, none⟩ = false := fun i => frozen_of_block KC1.out
      have qf' : ∀ i, wr.frozen? ⟨w.heap.size + 1, i, none⟩ = false := fun i => frozen_of_block KZ1.out
      have KZ2 := Lib.hid (block_far KZ1.out (p := ⟨w.heap.size, 2, none⟩) (.slice a2 (c.ins.eraseIdx i).length cc2) (by show w.heap.size + 1 ≠ w.heap.size; omega))
      have B2 := Lib.hid (HB.out.setCell (p := ⟨w.heap.size, 2, none⟩) (Nat.le_refl _) (.slice a2 (c.ins.eraseIdx i).length cc2))
      have R3 := Lib.hid (R2.out.frame (Same.setCell wr (p := ⟨w.heap.size, 2, none⟩) (.slice a2 (c.ins.eraseIdx i).length cc2) (fun b hb => by have : w.heap.size + 2 ≤ b := hb; show b ≠ w.heap.size; omega)))
      go_wp2_with fail
      refine bodyPost_ret_block (cs := cellsC (wout c i) a2 cc2 oa oc) (w.heap.size + 1) (0, 0) _ rfl rfl (four_set KZ2.out _ _ _ _) Tryd.underlying25 rfl (by kernel_rfl) rfl ⟨a2, cc2, rfl, ?_, four_below B2.out (by omega) _ _ _ _⟩
      exact R3.out.frame (four_same (fun b hb => by have : w.heap.size + 2 ≤ b := hb; omega) _ _ _ _)
end Go.Proofs.Sat
