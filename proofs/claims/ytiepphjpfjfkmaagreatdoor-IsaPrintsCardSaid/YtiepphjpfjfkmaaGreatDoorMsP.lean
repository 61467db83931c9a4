/- MsH, MsP, one after the other. -/
import Derived.Test.YtiepphjpfjfkmaaGreatDoorMsG
import Derived.Test.YtiepphjpfjfkmaaGreatDoorBldL
import Derived.Deep.DeepCutAuto
import Derived.Test.YtiepphjpfjfkmaaGreatDoorMsO
import Derived.Test.YtiepphjpfjfkmaaGreatDoorEqW
set_option linter.unusedVariables false
set_option linter.unusedSimpArgs false
/- isa.Print. -/
namespace Go.Proofs.Sat
open Go Go.RowKit
abbrev IsBld (B b : Nat) (cur : List UInt8) (w : World) : Prop := Lib.IsBuilder 64 5 B b (Lib.byteCells cur) w
theorem bldAt_below {T e : TypeId} {B b : Nat} {p : Value} {bs : List Value} {w w' : World} (h : Lib.BuilderAt T e B b p bs w) (hb : Below w.heap.size w w') : Lib.BuilderAt T e B b p bs w' := by
  obtain ⟨hB, v, hg, ho, hne⟩ := h
  refine ⟨hB, v, block_below hb hg, ⟨ho.1, ?_⟩, hne⟩
  rcases ho.2 with hn | ⟨g, cap, cur, rfl, hb2, hg2, rest⟩
  · exact .inl hn
  · exact .inr ⟨g, cap, cur, rfl, hb2, block_below hb hg2, rest⟩
theorem IsBld.below {B b : Nat} {cur : List UInt8} {w w' : World} (h : IsBld B b cur w) (hb : Below w.heap.size w w') : IsBld B b cur w' := by
  rcases h with h | h
  · exact .inl (bldAt_below h hb)
  · exact .inr (bldAt_below h hb)
theorem IsBld.fresh (w : World) : IsBld w.heap.size w.heap.size [] (w.alloc (.cells #[.pointer none, .slice none 0 0] 64)) :=
  .inl ⟨Nat.le_refl _, .slice none 0 0, heap_alloc_new w _, World.ownsRow_nil .., by simp [Value.ownBlock]⟩
theorem sb_write (B b : Nat) (cur s : List UInt8) (w : World) (h : IsBld B b cur w) (hlen : cur.length + s.length ≤ 140737488355328) (hBw : B ≤ w.heap.size) :
    Calls Tryz.prog 43 #[.pointer (some ⟨b, 0, none⟩), .string (strOf s)] w fun e w' => e = .returned (.tuple #[.int .i64 s.length, .nilIface]) ∧ IsBld B b (cur ++ s) w' ∧ Below B w w' := by
  have h1 := Tryz.sb_WriteString B b (Lib.byteCells cur) (strOf s) w h (by rw [Lib.byteCells_length, strOf_size]; exact hlen) hBw
  rw [strOf_size, show Lib.strCells (strOf s) = Lib.byteCells s from Lib.strCells_eq _, ← Lib.byteCells_append] at h1
  refine h1.mono ?_
  rintro e w' ⟨rfl, h2, h3⟩
  exact ⟨rfl, .inr h2, h3⟩
theorem sb_string (B b : Nat) (cur : List UInt8) (w : World) (h : IsBld B b cur w) (hBw : B ≤ w.heap.size) :
    Calls Tryz.prog 46 #[.pointer (some ⟨b, 0, none⟩)] w fun e w' => e = .returned (.string (strOf cur)) ∧ Below B w w' := Tryz.Builder_String_any B b cur w h hBw
set_option maxRecDepth 20000 in
set_option maxHeartbeats 4000000 in
theorem isa_Print (S : Nat → Prop) (c : Cd) (p : CdAt) (w : World) (hT : MsT w) (h : CdRd S w c p) (hC : CdOK c) (hli : c.ins.length ≤ 10000) (hlo : c.out.length ≤ 10000) :
    Calls Tryz.prog 17 #[cdVal c p] w fun e w' => e = .returned (.string (strOf (printL c))) ∧ Below w.heap.size w w' := by
  obtain ⟨ia, ic, oa, oc⟩ := p
  obtain ⟨W0, hW0⟩ : ∃ W0, W0 = w.alloc (.cells #[.int .i64 c.width, .int .i64 c.regs, .slice ia c.ins.length ic, .slice oa c.out.length oc] 25) := ⟨_, rfl⟩
  have hz0 : W0.heap.size = w.heap.size + 1 := by rw [hW0]; simp
  obtain ⟨W1, hW1⟩ : ∃ W1, W1 = W0.alloc (.cells #[.pointer none, .slice none 0 0] 64) := ⟨_, rfl⟩
  have HB1 : Hid (IsBld (w.heap.size + 1) (w.heap.size + 1) [] W1) := by
    have h := IsBld.fresh W0
    rw [hz0, ← hW1] at h
    exact h
  have BW0 : Hid (Below w.heap.size w W0) := by rw [hW0]; exact below_alloc (Below.refl _ _) _
  have BW1 : Hid (Below w.heap.size w W1) := by rw [hW1]; exact below_alloc BW0.out _
  have hz1 : W1.heap.size = w.heap.size + 2 := by rw [hW1]; simp [hz0]
  have KC : Hid (W1.heap[w.heap.size]? = some (.cells #[.int .i64 c.width, .int .i64 c.regs, .slice ia c.ins.length ic, .slice oa c.out.length oc] 25 (0, 0))) := by
    rw [hW1, hW0]
    exact block_alloc (heap_alloc_new w _) _
  have HZ1 := Lib.hid hz1
  have HT := Lib.hid hT
  have HI : Hid (Rd kIn S w ia ic c.ins) := h.ins
  have HO : Hid (Rd (Kd.int .i64) S w oa oc c.out) := h.out
  have HCI := Lib.hid hC.ins
  have HCO := Lib.hid hC.out
  have CW := Lib.hid (fun W hW => digits_Int c.width W hC.width.1 hC.width.2 hW)
  have CG := Lib.hid (fun W hW => digits_Int c.regs W hC.regs.1 hC.regs.2 hW)
  have CI := Lib.hid (fun (r : Int) (hr : -9223372036854775808 ≤ r ∧ r ≤ 9223372036854775807) W hW => digits_Int r W hr.1 hr.2 hW)
  have hlw := itoa_len hC.width
  have hlg := itoa_len hC.regs
  have HHD := Lib.hid (head_parts c)
  have HPP := Lib.hid (print_parts c)
  have HLL := Lib.hid (fun k => linesT_len (l := c.ins.take k) (fun x hx => hC.ins x (List.mem_of_mem_take hx)))
  have HRL := Lib.hid (fun k => regsL_len (l := c.out.take k) (fun x hx => hC.out x (List.mem_of_mem_take hx)))
  have hhl := headL_len hC.width hC.regs
  have hht : (headT c).length ≤ 145 := by unfold headT; rw [List.length_append]; simp; omega
  have hadd : ∀ a b : List UInt8, a.length + b.length ≤ 100000000 → ∀ W : World, (Op.stringOp .add (strOf a) (strOf b)).run Tryz.prog W = .ok (.string (strOf (a ++ b))) W := fun a b hab => str_add a b (by omega)
  generalize Lib.itoa c.width = iw at *
  generalize Lib.itoa c.regs = ir at *
  have q1 : ∀ W : World, (Op.stringOp .add { data := #[119, 105, 100, 116, 104, 32] } (strOf iw)).run Tryz.prog W = .ok (.string (strOf ([119, 105, 100, 116, 104, 32] ++ iw))) W := hadd [119, 105, 100, 116, 104, 32] iw (by show 6 + _ ≤ _; omega)
  have ql1 : ([119, 105, 100, 116, 104, 32] ++ iw).length ≤ 72 := by rw [List.length_append]; show 6 + _ ≤ _; omega
  generalize [119, 105, 100, 116, 104, 32] ++ iw = z1 at *
  have q2 : ∀ W : World, (Op.stringOp .add (strOf z1) { data := #[32, 114, 101, 103, 115, 32] }).run Tryz.prog W = .ok (.string (strOf (z1 ++ [32, 114, 101, 103, 115, 32]))) W := hadd z1 [32, 114, 101, 103, 115, 32] (by show _ + 6 ≤ _; omega)
  have ql2 : (z1 ++ [32, 114, 101, 103, 115, 32]).length ≤ 78 := by rw [List.length_append]; show _ + 6 ≤ _; omega
  generalize z1 ++ [32, 114, 101, 103, 115, 32] = z2 at *
  have q3 := hadd z2 ir (by omega)
  have ql3 : (z2 ++ ir).length ≤ 144 := by rw [List.length_append]; omega
  generalize z2 ++ ir = z3 at *
  have q4 : ∀ W : World, (Op.stringOp .add (strOf z3) { data := #[10] }).run Tryz.prog W = .ok (.string (strOf (headT c))) W := by
    rw [HHD.out]
    exact hadd z3 [10] (by show _ + 1 ≤ _; omega)
  generalize headT c = hd at *
  have HQ1 := Lib.hid hadd
  have HHT := Lib.hid hht
  clear hadd h hC hhl hlw hlg ql1 ql2 ql3 hz0 hz1 hT hht
  unfold cdVal
  go_enter Tryz.func17, Tryz.ntmps17
  go_upto_region 2 with fail
  rw [← hW0, ← hW1]
  clear hW0 hW1 BW0
  have hbz : w.heap.size + 1 ≤ W1.heap.size := by rw [HZ1.out]; omega
  have HBZ := Lib.hid hbz
  clear hbz
  have hy := cd_block KC.out
  have HY := Lib.hid hy
  obtain ⟨y0, y1⟩ := hy
  have T1 : Hid (MsT W1.drew) := HT.out.below BW1.out.drew
  have HB1d : Hid (IsBld (w.heap.size + 1) (w.heap.size + 1) [] W1.drew) := HB1.out
  go_region_held3 (fun w' => w'.cell? ⟨w.heap.size, 0, none⟩ = some (.int .i64 c.width) ∧ w'.cell? ⟨w.heap.size, 1, none⟩ = some (.int .i64 c.regs))
    (first | with_reducible exact cd_block K4.out | with_reducible exact cd_block K3.out | with_reducible exact cd_block K2.out | exact HY.out)
    (first
    | (go_at_call 44
       (with_reducible refine gate_a #[.int .i64 c.width] rfl ?_)
       refine (CW.out _ T1.out.dig).mono ?_
       rintro e w2 ⟨rfl, b2⟩
       have BB2 : Hid (Below (w.heap.size + 1) W1 w2) := ((Below.refl (w.heap.size + 1) W1).drew).trans (b2.mono HBZ.out)
       have K2 := Lib.hid (block_below (w := W1.drew) b2 KC.out)
       have IB2 := Lib.hid (HB1d.out.below b2)
       have T2 := Lib.hid (T1.out.below b2)
       clear b2)
    | (go_at_call 44
       (with_reducible refine gate_a #[.int .i64 c.regs] rfl ?_)
       refine (CG.out _ T2.out.dig).mono ?_
       rintro e w3 ⟨rfl, b3⟩
       have BB3 : Hid (Below (w.heap.size + 1) W1 w3) := BB2.out.trans (b3.mono (Nat.le_trans HBZ.out BB2.out.size))
       have K3 := Lib.hid (block_below b3 K2.out)
       have IB3 := Lib.hid (IB2.out.below b3)
       clear b3)
    | (go_at_call 43
       refine (sb_write (w.heap.size + 1) (w.heap.size + 1) [] hd _ IB3.out (by have := HHT.out; simp; omega) (Nat.le_trans HBZ.out BB3.out.size)).mono ?_
       rintro e w4 ⟨rfl, i4, b4⟩
       have BB4 : Hid (Below (w.heap.size + 1) W1 w4) := BB3.out.trans b4
       have K4 := Lib.hid ((b4.block w.heap.size (Nat.lt_succ_self _)).trans K3.out)
       have IB4 : Hid (IsBld (w.heap.size + 1) (w.heap.size + 1) hd w4) := i4
       clear b4 i4)
    | fail)
  clear q1 q2 q3 q4 y0 y1 HY
  obtain ⟨y0, y1, y2, y3⟩ := cd_block4 K4.out
  go_wp2_with fail
  clear y0 y1 y2 y3
  go_loopw [22] (fun is wr => ∃ (k : Nat), k ≤ c.ins.length ∧ is = .int .i64 k ∧ Hid (IsBld (w.heap.size + 1) (w.heap.size + 1) (hd ++ linesT (c.ins.take k)) wr) ∧ Hid (Below (w.heap.size + 1) W1 wr)) (fun is _ => c.ins.length - (intOf is).toNat)
  case atStart => exact ⟨0, by omega, rfl, by rw [List.take_zero]; show IsBld _ _ (hd ++ []) _; rw [List.append_nil]; exact IB4.out, BB4.out⟩
  case round =>
    obtain ⟨k, hk, rfl, IB, BB⟩ := hrel
    have BT := Lib.hid (BW1.out.trans (BB.out.mono (Nat.le_succ _)))
    by_cases hlt : k < c.ins.length
    · have hkl : (k : Int) < (c.ins.length : Int) := by omega
      obtain ⟨b, o, rfl, -, -, hat⟩ := in_elem (HI.out.frame (Same.below BT.out)) hlt
      obtain ⟨c0, c1, c2, c3, c4, c5⟩ := hat
      have hxl := lineL_len (HCI.out _ (List.getElem_mem hlt))
      have CL := Lib.hid (fun W hW => isa_line (c.ins[k]) W hW (HCI.out _ (List.getElem_mem hlt)))
      have hcl : (hd ++ linesT (c.ins.take k)).length ≤ 4000000 := by
        have h1 := HLL.out k
        have h2 := HHT.out
        rw [List.length_take] at h1
        rw [List.length_append]
        omega
      have HE : Hid ((hd ++ linesT (c.ins.take k)) ++ (lineL c.ins[k] ++ [10]) = hd ++ linesT (c.ins.take (k + 1))) := by
        show _ = _
        rw [List.take_succ_eq_append_getElem hlt, linesT_snoc]
        simp only [List.append_assoc]
      generalize hd ++ linesT (c.ins.take k) = cur at *
      generalize c.ins[k] = x at *
      generalize lineL x = lx at *
      have BA := Lib.hid (below_alloc (Below.refl wr.heap.size wr) (.cells #[.int .i64 x.op, .int .i64 x.dst, .int .i64 x.a, .int .i64 x.b, .int .i64 x.c, .int .u64 x.imm] 48))
      have KX := Lib.hid (heap_alloc_new wr (.cells #[.int .i64 x.op, .int .i64 x.dst, .int .i64 x.a, .int .i64 x.b, .int .i64 x.c, .int .u64 x.imm] 48))
      have q1 : ∀ W : World, (Op.stringOp .add (strOf lx) { data := #[10] }).run Tryz.prog W = .ok (.string (strOf (lx ++ [10]))) W := HQ1.out lx [10] (by show _ + 1 ≤ _; omega)
      have ql : (lx ++ [10]).length ≤ 343 := by rw [List.length_append]; show _ + 1 ≤ _; omega
      generalize lx ++ [10] = lx2 at *
      have HCL := Lib.hid hcl
      have HQL := Lib.hid ql
      have TA := Lib.hid ((HT.out.below BT.out).below BA.out)
      clear hxl hcl ql
      go_wp2_with (first
        | (go_at_call 45; refine (CL.out _ TA.out).mono ?_; rintro e w5 ⟨rfl, b5⟩; have BA5 := Lib.hid (below_both BA.out b5); clear b5)
        | (go_at_call 43
           refine (sb_write (w.heap.size + 1) (w.heap.size + 1) cur lx2 _ (IB.out.below BA5.out) (by have := HCL.out; have := HQL.out; omega) (Nat.le_trans HBZ.out (Nat.le_trans BB.out.size BA5.out.size))).mono ?_
           rintro e w6 ⟨rfl, i6, b6⟩
           have IB6 := Lib.hid i6
           have BB6 := Lib.hid ((BB.out.trans (BA5.out.mono (Nat.le_trans HBZ.out BB.out.size))).trans b6)
           clear i6 b6)
        | fail)
      go_roundw
      case rel => exact ⟨k + 1, by omega, by go_num, by rw [← HE.out]; exact IB6.out, BB6.out⟩
      case measure => simp [intOf]; omega
    · have hnl : ¬ ((k : Int) < (c.ins.length : Int)) := by omega
      have hkt : c.ins.take k = c.ins := List.take_of_length_le (by omega)
      have hlt2 : (linesT c.ins).length ≤ 343 * c.ins.length := by have := HLL.out c.ins.length; rwa [List.take_length] at this
      rw [hkt] at IB
      have hcl : (hd ++ linesT c.ins).length ≤ 4000000 := by
        have h2 := HHT.out
        rw [List.length_append]
        omega
      have HE0 : Hid (printL c = (((hd ++ linesT c.ins) ++ wOut) ++ regsL c.out) ++ [10]) := HPP.out
      generalize hd ++ linesT c.ins = cur at *
      have K5 := Lib.hid ((BB.out.block w.heap.size (Nat.lt_succ_self _)).trans KC.out)
      have HCL := Lib.hid hcl
      clear hlt hk hkt hlt2 hcl
      go_wp2_with fail
      refine (sb_write (w.heap.size + 1) (w.heap.size + 1) cur [111, 117, 116] _ IB.out (by have := HCL.out; show _ + 3 ≤ _; omega) (Nat.le_trans HBZ.out BB.out.size)).mono ?_
      rintro e w6 ⟨rfl, i6, b6⟩
      have IB6 := Lib.hid i6
      have BB6 := Lib.hid (BB.out.trans b6)
      have K6 := Lib.hid ((b6.block w.heap.size (Nat.lt_succ_self _)).trans K5.out)
      clear i6 b6
      have HCL2 : Hid ((cur ++ [111, 117, 116]).length ≤ 4000003) := by show _ ≤ _; have := HCL.out; rw [List.length_append]; show _ + 3 ≤ _; omega
      have HE1 : Hid (printL c = ((cur ++ [111, 117, 116]) ++ regsL c.out) ++ [10]) := HE0.out
      generalize cur ++ [111, 117, 116] = cu1 at *
      obtain ⟨y0, y1, y2, y3⟩ := cd_block4 K6.out
      go_wp2_with fail
      clear y0 y1 y2 y3
      go_loopw [35] (fun is wr => ∃ (k : Nat), k ≤ c.out.length ∧ is = .int .i64 k ∧ Hid (IsBld (w.heap.size + 1) (w.heap.size + 1) (cu1 ++ regsL (c.out.take k)) wr) ∧ Hid (Below (w.heap.size + 1) W1 wr)) (fun is _ => c.out.length - (intOf is).toNat)
      case atStart => exact ⟨0, by omega, rfl, by rw [List.take_zero]; show IsBld _ _ (cu1 ++ []) _; rw [List.append_nil]; exact IB6.out, BB6.out⟩
      case round =>
        obtain ⟨k, hk, rfl, IB7, BB7⟩ := hrel
        have BT7 := Lib.hid (BW1.out.trans (BB7.out.mono (Nat.le_succ _)))
        by_cases hlt : k < c.out.length
        · have hkl : (k : Int) < (c.out.length : Int) := by omega
          obtain ⟨b, o, rfl, -, -, hc⟩ := (HO.out.frame (Same.below BT7.out)).vals (by omega) 0
          have d5 := hc k hlt
          rw [getD_at _ hlt] at d5
          have hr := HCO.out _ (List.getElem_mem hlt)
          have CIR := Lib.hid (fun W hW => CI.out (c.out[k]) hr W hW)
          have hil := itoa_len hr
          have hcl : (cu1 ++ regsL (c.out.take k)).length ≤ 8000000 := by
            have h1 := HRL.out k
            have h2 := HCL2.out
            rw [List.length_take] at h1
            rw [List.length_append]
            omega
          have HE : Hid ((cu1 ++ regsL (c.out.take k)) ++ ([32, 114] ++ Lib.itoa c.out[k]) = cu1 ++ regsL (c.out.take (k + 1))) := by
            show _ = _
            rw [List.take_succ_eq_append_getElem hlt, regsL_snoc2]
            simp only [List.append_assoc]
          generalize cu1 ++ regsL (c.out.take k) = cu2 at *
          generalize c.out[k] = r at *
          generalize Lib.itoa r = it at *
          have q1 : ∀ W : World, (Op.stringOp .add { data := #[32, 114] } (strOf it)).run Tryz.prog W = .ok (.string (strOf ([32, 114] ++ it))) W := HQ1.out [32, 114] it (by show 2 + _ ≤ _; omega)
          have ql : ([32, 114] ++ it).length ≤ 68 := by rw [List.length_append]; show 2 + _ ≤ _; omega
          generalize [32, 114] ++ it = it2 at *
          have HCL7 := Lib.hid hcl
          have HQL := Lib.hid ql
          have T7 := Lib.hid (HT.out.below BT7.out)
          clear hc hr hil hcl ql
          go_wp2_with (first
            | (go_at_call 44; refine (CIR.out _ T7.out.dig).mono ?_; rintro e w8 ⟨rfl, b8⟩; have B8 := Lib.hid b8; clear b8)
            | (go_at_call 43
               refine (sb_write (w.heap.size + 1) (w.heap.size + 1) cu2 it2 _ (IB7.out.below B8.out) (by have := HCL7.out; have := HQL.out; omega) (Nat.le_trans HBZ.out (Nat.le_trans BB7.out.size B8.out.size))).mono ?_
               rintro e w9 ⟨rfl, i9, b9⟩
               have IB9 := Lib.hid i9
               have BB9 := Lib.hid ((BB7.out.trans (B8.out.mono (Nat.le_trans HBZ.out BB7.out.size))).trans b9)
               clear i9 b9)
            | fail)
          go_roundw
          case rel => exact ⟨k + 1, by omega, by go_num, by rw [← HE.out]; exact IB9.out, BB9.out⟩
          case measure => simp [intOf]; omega
        · have hnl : ¬ ((k : Int) < (c.out.length : Int)) := by omega
          have hkt : c.out.take k = c.out := List.take_of_length_le (by omega)
          rw [hkt] at IB7
          have hrl2 : (regsL c.out).length ≤ 68 * c.out.length := by have := HRL.out c.out.length; rwa [List.take_length] at this
          have hcl : (cu1 ++ regsL c.out).length ≤ 8000000 := by
            have h2 := HCL2.out
            rw [List.length_append]
            omega
          generalize cu1 ++ regsL c.out = cu2 at *
          have HCL7 := Lib.hid hcl
          clear hlt hk hkt hrl2 hcl
          go_wp2_with fail
          refine (sb_write (w.heap.size + 1) (w.heap.size + 1) cu2 [10] _ IB7.out (by have := HCL7.out; show _ + 1 ≤ _; omega) (Nat.le_trans HBZ.out BB7.out.size)).mono ?_
          rintro e w8 ⟨rfl, i8, b8⟩
          have IB8 := Lib.hid i8
          have BB8 := Lib.hid (BB7.out.trans b8)
          clear i8 b8
          go_wp2_with fail
          refine (sb_string (w.heap.size + 1) (w.heap.size + 1) _ _ IB8.out (Nat.le_trans HBZ.out BB8.out.size)).mono ?_
          rintro e w9 ⟨rfl, b9⟩
          have BB9 := Lib.hid (BW1.out.trans ((BB8.out.trans b9).mono (Nat.le_succ _)))
          clear b9
          go_wp2_with fail
          go_ret
          exact ⟨by rw [HE1.out]; rfl, BB9.out⟩
end Go.Proofs.Sat
/- The example of the chapter. -/
namespace Go.Proofs.Sat
open Go Go.RowKit
abbrev exT1 : List UInt8 := [119, 105, 100, 116, 104, 32, 56, 32, 114, 101, 103, 115, 32, 50, 10, 97, 100, 100, 32, 114, 48, 32, 114, 48, 32, 114, 49, 10, 111, 117, 116, 32, 114, 48, 10]
abbrev exT2 : List UInt8 := [119, 105, 100, 116, 104, 32, 56, 32, 114, 101, 103, 115, 32, 50, 10, 97, 100, 100, 32, 114, 48, 32, 114, 48, 32, 114, 50, 10, 111, 117, 116, 32, 114, 48]
abbrev exT3 : List UInt8 := [119, 105, 100, 116, 104, 32, 56, 32, 114, 101, 103, 115, 32, 50, 10, 97, 100, 100, 32, 114, 48, 32, 32, 114, 49, 10, 111, 117, 116]
abbrev exC : Cd := ⟨8, 2, [⟨8, 0, 0, 1, 0, 0⟩], [0]⟩
theorem ex_p1 : parseW exT1 = (exC, 0, 0) := by decide +kernel
theorem ex_p2 : parseW exT2 = (zCd, 2, 18) := by decide +kernel
theorem ex_p3 : parseW exT3 = (zCd, 2, 6) := by decide +kernel
theorem ex_of : ofI [115, 101, 108] = 19 := by decide +kernel
theorem ex_print : printL exC = exT1 := by decide +kernel
theorem ex_cost : costI exC.ins = 1 := by decide +kernel
theorem same_all {S : Nat → Prop} {w w' : World} (h : Below w.heap.size w w') : Same S w w' := ⟨h.size, fun b _ hlt => h.block b hlt⟩
theorem ex_ok : CdOK exC := by
  refine ⟨by decide, by decide, fun x hx => ?_, fun r hr => ?_⟩
  · rw [List.mem_singleton.1 hx]
    exact ⟨by decide, fun r hr => by simp at hr; omega, by decide⟩
  · have : r = 0 := by simpa using hr
    subst this
    decide
set_option maxRecDepth 20000 in
set_option maxHeartbeats 4000000 in
theorem law48_lives (w : World) (hT : MsT w) : Calls Tryz.prog 9 #[] w fun e w' => e = .returned (.bool true) ∧ Below w.heap.size w w' := by
  have HT := Lib.hid hT
  have CP1 : Hid (∀ W, MsT W → Calls Tryz.prog 14 #[.string { data := #[119, 105, 100, 116, 104, 32, 56, 32, 114, 101, 103, 115, 32, 50, 10, 97, 100, 100, 32, 114, 48, 32, 114, 48, 32, 114, 49, 10, 111, 117, 116, 32, 114, 48, 10] }] W fun e w' => ∃ ia ic oa oc, e = .returned (.tuple #[.agg #[.int .i64 8, .int .i64 2, .slice ia 1 ic, .slice oa 1 oc], .int .i64 0, .int .i64 0]) ∧ CdRd (fun b => W.heap.size ≤ b) w' exC ⟨ia, ic, oa, oc⟩ ∧ Below W.heap.size W w') := fun W hW => by
    refine (isa_Parse exT1 W (by decide) hW.dig hW.nam hW.isa).mono ?_
    rintro e w' ⟨c, ⟨ia, ic, oa, oc⟩, k, er, rfl, hp, hr, hb⟩
    rw [ex_p1] at hp
    cases hp
    exact ⟨ia, ic, oa, oc, rfl, hr, hb⟩
  have CP2 : Hid (∀ W, MsT W → Calls Tryz.prog 14 #[.string { data := #[119, 105, 100, 116, 104, 32, 56, 32, 114, 101, 103, 115, 32, 50, 10, 97, 100, 100, 32, 114, 48, 32, 114, 48, 32, 114, 50, 10, 111, 117, 116, 32, 114, 48] }] W fun e w' => ∃ ia ic oa oc, e = .returned (.tuple #[.agg #[.int .i64 0, .int .i64 0, .slice ia 0 ic, .slice oa 0 oc], .int .i64 2, .int .i64 18]) ∧ Below W.heap.size W w') := fun W hW => by
    refine (isa_Parse exT2 W (by decide) hW.dig hW.nam hW.isa).mono ?_
    rintro e w' ⟨c, ⟨ia, ic, oa, oc⟩, k, er, rfl, hp, hr, hb⟩
    rw [ex_p2] at hp
    cases hp
    exact ⟨ia, ic, oa, oc, rfl, hb⟩
  have CP3 : Hid (∀ W, MsT W → Calls Tryz.prog 14 #[.string { data := #[119, 105, 100, 116, 104, 32, 56, 32, 114, 101, 103, 115, 32, 50, 10, 97, 100, 100, 32, 114, 48, 32, 32, 114, 49, 10, 111, 117, 116] }] W fun e w' => ∃ ia ic oa oc, e = .returned (.tuple #[.agg #[.int .i64 0, .int .i64 0, .slice ia 0 ic, .slice oa 0 oc], .int .i64 2, .int .i64 6]) ∧ Below W.heap.size W w') := fun W hW => by
    refine (isa_Parse exT3 W (by decide) hW.dig hW.nam hW.isa).mono ?_
    rintro e w' ⟨c, ⟨ia, ic, oa, oc⟩, k, er, rfl, hp, hr, hb⟩
    rw [ex_p3] at hp
    cases hp
    exact ⟨ia, ic, oa, oc, rfl, hb⟩
  have CO : Hid (∀ W, MsT W → Calls Tryz.prog 18 #[.string { data := #[115, 101, 108] }] W fun e w' => e = .returned (.tuple #[.int .i64 19, .bool true]) ∧ Below W.heap.size W w') := fun W hW => by
    have := isa_Of ([115, 101, 108] : List UInt8) W hW.nam hW.isa
    rw [ex_of, show ofD ([115, 101, 108] : List UInt8) = 19 by decide +kernel] at this
    exact this
  have CC : Hid (∀ W ia ic oa oc, CdRd (fun _ => True) W exC ⟨ia, ic, oa, oc⟩ → Calls Tryz.prog 12 #[.agg #[.int .i64 8, .int .i64 2, .slice ia 1 ic, .slice oa 1 oc]] W fun e w' => e = .returned (.int .i64 1) ∧ Below W.heap.size W w') := fun W ia ic oa oc h => by
    have := isa_Cost _ exC ⟨ia, ic, oa, oc⟩ W h (by decide)
    rw [ex_cost] at this
    exact this
  have CPR : Hid (∀ W ia ic oa oc, MsT W → CdRd (fun _ => True) W exC ⟨ia, ic, oa, oc⟩ → Calls Tryz.prog 17 #[.agg #[.int .i64 8, .int .i64 2, .slice ia 1 ic, .slice oa 1 oc]] W fun e w' => e = .returned (.string { data := #[119, 105, 100, 116, 104, 32, 56, 32, 114, 101, 103, 115, 32, 50, 10, 97, 100, 100, 32, 114, 48, 32, 114, 48, 32, 114, 49, 10, 111, 117, 116, 32, 114, 48, 10] }) ∧ Below W.heap.size W w') := fun W ia ic oa oc hW h => by
    have := isa_Print _ exC ⟨ia, ic, oa, oc⟩ W hW h ex_ok (by decide) (by decide)
    rw [ex_print] at this
    exact this
  have CS3 : Hid (∀ W, MsT W → Calls Tryz.prog 23 #[.int .i64 19] W fun e w' => e = .returned (.int .i64 3) ∧ Drawn W w') := fun W hW => isa_Sources 19 W hW.isa
  have CS1 : Hid (∀ W, MsT W → Calls Tryz.prog 23 #[.int .i64 (-1)] W fun e w' => e = .returned (.int .i64 (-1)) ∧ Drawn W w') := fun W hW => isa_Sources (-1) W hW.isa
  have NEW := fun W : World => eql_in W ⟨8, 0, 0, 1, 0, 0⟩ ⟨8, 0, 0, 1, 0, 0⟩
  clear hT
  go_enter Tryz.func9, Tryz.ntmps9
  go_wp2_with fail
  refine (CP1.out w HT.out).mono ?_
  rintro e w1 ⟨ia, ic, oa, oc, rfl, r1, b1⟩
  have B1 := Lib.hid b1
  have R1 := Lib.hid r1
  have K1 := Lib.hid (heap_alloc_new w1 (.cells #[.int .i64 8, .int .i64 2, .slice ia 1 ic, .slice oa 1 oc] 25))
  have B1a := Lib.hid (below_alloc b1 (.cells #[.int .i64 8, .int .i64 2, .slice ia 1 ic, .slice oa 1 oc] 25))
  have R1a := Lib.hid (r1.frame (Same.alloc _ w1 (.cells #[.int .i64 8, .int .i64 2, .slice ia 1 ic, .slice oa 1 oc] 25)))
  clear b1 r1
  go_wp2_with fail
  refine (CP2.out _ (HT.out.below B1a.out)).mono ?_
  rintro e w2 ⟨ja, jc, pa, pc, rfl, b2⟩
  have B2 := Lib.hid (below_alloc (below_both B1a.out b2) (.cells #[.int .i64 0, .int .i64 0, .slice ja 0 jc, .slice pa 0 pc] 25))
  have K2 := Lib.hid (block_alloc (block_below b2 K1.out) (.cells #[.int .i64 0, .int .i64 0, .slice ja 0 jc, .slice pa 0 pc] 25))
  have R2 := Lib.hid ((R1a.out.frame (same_all b2)).frame (Same.alloc _ w2 (.cells #[.int .i64 0, .int .i64 0, .slice ja 0 jc, .slice pa 0 pc] 25)))
  clear b2
  go_wp2_with fail
  refine (CP3.out _ (HT.out.below B2.out)).mono ?_
  rintro e w3 ⟨ka, kc, qa, qc, rfl, b3⟩
  have B3 := Lib.hid (below_alloc (below_both B2.out b3) (.cells #[.int .i64 0, .int .i64 0, .slice ka 0 kc, .slice qa 0 qc] 25))
  have K3 := Lib.hid (block_alloc (block_below b3 K2.out) (.cells #[.int .i64 0, .int .i64 0, .slice ka 0 kc, .slice qa 0 qc] 25))
  have R3 := Lib.hid ((R2.out.frame (same_all b3)).frame (Same.alloc _ w3 (.cells #[.int .i64 0, .int .i64 0, .slice ka 0 kc, .slice qa 0 qc] 25)))
  clear b3
  go_wp2_with fail
  refine (CO.out _ (HT.out.below B3.out)).mono ?_
  rintro e w4 ⟨rfl, b4⟩
  have B4 := Lib.hid (below_both B3.out b4)
  have K4 := Lib.hid (block_below b4 K3.out)
  have R4 := Lib.hid (R3.out.frame (same_all b4))
  have HT4 := Lib.hid (HT.out.below B4.out)
  clear b4
  obtain ⟨q0, q1, q2, q3⟩ := cd_block4 K4.out
  obtain ⟨bi, bo, e1, -, -, hin⟩ := in_elem R4.out.ins (j := 0) (by decide)
  cases e1
  obtain ⟨i0, i1, i2, i3, i4, i5⟩ := hin
  simp only [Nat.zero_mul, Nat.add_zero] at i0 i1 i2 i3 i4 i5
  go_wp2_with fail
  clear i0 i1 i2 i3 i4 i5 q0 q1 q2 q3
  refine (CC.out w4 _ ic oa oc (R4.out.mono (fun _ _ _ => trivial))).mono ?_
  rintro e w5 ⟨rfl, b5⟩
  have B5 := Lib.hid (below_both B4.out b5)
  have R5 := Lib.hid (R4.out.frame (same_all b5))
  obtain ⟨q0, q1, q2, q3⟩ := cd_block4 (block_below b5 K4.out)
  clear b5
  go_wp2_with fail
  refine (CPR.out w5 _ ic oa oc (HT.out.below B5.out) (R5.out.mono (fun _ _ _ => trivial))).mono ?_
  rintro e w6 ⟨rfl, b6⟩
  have B6 := Lib.hid (below_both B5.out b6)
  clear b6
  go_wp2_with fail
  refine (CS3.out w6 (HT.out.below B6.out)).mono ?_
  rintro e w7 ⟨rfl, ds7⟩
  have B7 := Lib.hid (B6.out.trans (ds7.below _))
  clear ds7
  go_wp2_with fail
  refine (CS1.out w7 (HT.out.below B7.out)).mono ?_
  rintro e w8 ⟨rfl, ds8⟩
  have B8 := Lib.hid (B7.out.trans (ds8.below _))
  clear ds8
  go_wp2_with fail
  go_ret
  exact ⟨rfl, B8.out⟩
end Go.Proofs.Sat
