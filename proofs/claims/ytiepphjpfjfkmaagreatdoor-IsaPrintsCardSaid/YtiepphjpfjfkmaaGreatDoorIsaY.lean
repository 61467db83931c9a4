/- The walks of slices.Clone at instructions and at numbers, and of isa.Copy. -/
import Derived.Test.YtiepphjpfjfkmaaGreatDoorOps3
import Derived.Test.YtiepphjpfjfkmaaGreatDoorIsaK
set_option linter.unusedVariables false
set_option linter.unusedSimpArgs false
namespace Go.Proofs.Sat
open Go Go.RowKit
theorem infoIn : ElemInfo Tryz.prog 22 48 (.agg #[.int .i64 0, .int .i64 0, .int .i64 0, .int .i64 0, .int .i64 0, .int .u64 0]) 6 48 := ⟨Tryz.underlying22, by kernel_rfl, rfl, by decide⟩
theorem kIn_any {S S' : Nat → Prop} {w w' : World} : ∀ cs x, kIn.K S w cs x → kIn.K S' w' cs x := fun _ _ h => h
/-- slices.Clone at []int. -/
theorem int_Clone (S : Nat → Prop) (a : Option Addr) (c : Nat) (l : List Int) (w : World) (h : Rd (Kd.int .i64) S w a c l) (hb : l.length ≤ 1099511627776) :
    Calls Tryz.prog 51 #[.slice a l.length c] w fun e w' => ∃ v, e = .returned v ∧ Own (Kd.int .i64) 3 NoS w' w.heap.size v l ∧ Below w.heap.size w w' := by
  rcases Nat.eq_zero_or_pos l.length with h0 | hp
  · obtain rfl := List.eq_nil_of_length_eq_zero h0
    cases a with
    | none =>
      refine (Tryz.slices_Clone_int_nil 0 c w).mono ?_
      rintro e w' ⟨rfl, rfl⟩
      exact ⟨_, rfl, Own.nil _ _ _ _ _, Below.refl _ _⟩
    | some a =>
      refine (Tryz.slices_Clone_int_zero a c w).mono ?_
      rintro e w' ⟨v, rfl, ho, _, hb⟩
      exact ⟨v, rfl, ⟨[], ho, .nil⟩, hb⟩
  · obtain ⟨b, o, rfl, _, _, hc⟩ := h.vals hp 0
    refine (Tryz.slices_Clone_int b o l.length c l w (Nat.le_refl _) (by omega) hc).mono ?_
    rintro e w' ⟨v, rfl, ho, _, hb⟩
    rw [List.take_length] at ho
    exact ⟨v, rfl, ⟨l.map (Value.int .i64), ho, elems_vals l⟩, hb⟩
set_option maxHeartbeats 1000000 in
theorem ins_Clone (S : Nat → Prop) (a : Option Addr) (c : Nat) (l : List In) (w : World) (h : Rd kIn S w a c l) (hb : l.length ≤ 1099511627776) :
    Calls Tryz.prog 50 #[.slice a l.length c] w fun e w' => ∃ v, e = .returned v ∧ Own kIn 48 NoS w' w.heap.size v l ∧ Below w.heap.size w w' := by
  have NIL : ∀ (W : World) (A : Option Addr) (n c : Nat), (binOp .eql 22 (.slice A n c) (.slice none 0 0)).run Tryz.prog W = .ok (.bool A.isNone) W := fun W A n c => Go.Lib.run_eql_slice_nil (P := Tryz.prog) W 22 48 A n c 0 0 Tryz.underlying22
  have HR := Lib.hid h
  have HW : Hid (Own kIn 48 NoS (w.alloc (.cells #[] 48)) w.heap.size (.slice (some ⟨w.heap.size, 0, none⟩) 0 0) []) :=
    ⟨[], ⟨rfl, .inr ⟨w.heap.size, 0, #[], rfl, Nat.le_refl _, heap_alloc_new w _, by simp, by simp [maxLen], rfl, rfl⟩⟩, .nil⟩
  have BW := Lib.hid (below_alloc (Below.refl w.heap.size w) (.cells #[] 48))
  have HRW := Lib.hid (h.frame (Same.alloc _ w (.cells #[] 48)))
  go_enter Tryz.func50, Tryz.ntmps50
  cases a with
  | none =>
    have hl : l = [] := by
      rcases Nat.eq_zero_or_pos l.length with h0 | hp
      · exact List.eq_nil_of_length_eq_zero h0
      · obtain ⟨b, o, e, _⟩ := h.2.2 hp; cases e
    subst hl
    go_wp2
    go_ret
    exact ⟨_, rfl, Own.nil _ _ _ _ _, Below.refl _ _⟩
  | some a =>
    clear h
    go_wp2_with (first
      | (at_builtin; refine wpList_append_ev _ rfl _ _ 22 rfl _ _ rfl rfl _ (run_app_rd _ infoIn rfl _ HW.out (some a) c l.length l rfl HRW.out kIn_any (by simp; omega) (by simp; omega) BW.out.size) ?_; rintro n2 w2 ⟨ow2, g2, v2⟩; have B2 := Lib.hid (BW.out.grown g2 BW.out.size (fun k hk => (HW.out.lt k hk).1)); have O2 := Lib.hid ow2; clear ow2 g2 v2)
      | fail)
    go_ret
    exact ⟨_, rfl, O2.out, B2.out⟩
theorem four_set {w : World} {g : Nat} {t : TypeId} {v0 v1 v2 v3 : Value} (h : w.heap[g]? = some (.cells #[v0, v1, v2, v3] t (0, 0))) (u0 u1 u2 u3 : Value) :
    ((((w.setCell ⟨g, 0, none⟩ u0).setCell ⟨g, 1, none⟩ u1).setCell ⟨g, 2, none⟩ u2).setCell ⟨g, 3, none⟩ u3).heap[g]? = some (.cells #[u0, u1, u2, u3] t (0, 0)) := by
  simp [World.setCell, Array.getElem?_modify, h]
theorem four_below {B : Nat} {w0 w : World} {g : Nat} (h : Below B w0 w) (hg : B ≤ g) (u0 u1 u2 u3 : Value) : Below B w0 ((((w.setCell ⟨g, 0, none⟩ u0).setCell ⟨g, 1, none⟩ u1).setCell ⟨g, 2, none⟩ u2).setCell ⟨g, 3, none⟩ u3) :=
  (((h.setCell hg _).setCell hg _).setCell hg _).setCell hg _
theorem four_far (w : World) (g : Nat) (u0 u1 u2 u3 : Value) (b : Nat) (hb : b ≠ g) : ((((w.setCell ⟨g, 0, none⟩ u0).setCell ⟨g, 1, none⟩ u1).setCell ⟨g, 2, none⟩ u2).setCell ⟨g, 3, none⟩ u3).heap[b]? = w.heap[b]? := by
  rw [Below.heap_setCell _ _ _ b hb, Below.heap_setCell _ _ _ b hb, Below.heap_setCell _ _ _ b hb, Below.heap_setCell _ _ _ b hb]
theorem four_same {S : Nat → Prop} {w : World} {g : Nat} (hS : ∀ b, S b → b ≠ g) (u0 u1 u2 u3 : Value) : Same S w ((((w.setCell ⟨g, 0, none⟩ u0).setCell ⟨g, 1, none⟩ u1).setCell ⟨g, 2, none⟩ u2).setCell ⟨g, 3, none⟩ u3) :=
  ⟨by simp [World.setCell], fun b hb _ => four_far w g u0 u1 u2 u3 b (hS b hb)⟩
set_option maxRecDepth 20000 in
set_option maxHeartbeats 2000000 in
theorem isa_Copy (S : Nat → Prop) (c : Cd) (p : CdAt) (w : World) (h : CdRd S w c p) (hi : c.ins.length ≤ 1099511627776) (ho : c.out.length ≤ 1099511627776) : Calls Tryz.prog 29 #[cdVal c p] w fun e w' => ∃ p', e = .returned (cdVal c p') ∧ CdRd (fun b => w.heap.size ≤ b) w' c p' ∧ Below w.heap.size w w' := by
  obtain ⟨ia, ic, oa, oc⟩ := p
  have BW := Lib.hid (below_alloc (below_alloc (Below.refl w.heap.size w) (.cells (cellsC c ia ic oa oc) 25)) (.cells #[.int .i64 0, .int .i64 0, .slice none 0 0, .slice none 0 0] 25))
  have KC := Lib.hid (block_alloc (heap_alloc_new w (.cells (cellsC c ia ic oa oc) 25)) (.cells #[.int .i64 0, .int .i64 0, .slice none 0 0, .slice none 0 0] 25))
  have KZ := Lib.hid (block_at1 w (.cells (cellsC c ia ic oa oc) 25) (.cells #[.int .i64 0, .int .i64 0, .slice none 0 0, .slice none 0 0] 25))
  have HI : Hid (∀ W, Below w.heap.size w W → Calls Tryz.prog 50 #[.slice ia c.ins.length ic] W fun e w' => ∃ v, e = .returned v ∧ Own kIn 48 NoS w' W.heap.size v c.ins ∧ Below W.heap.size W w') := fun W b => ins_Clone S ia ic c.ins W (h.ins.frame (Same.below b)) hi
  have HO : Hid (∀ W, Below w.heap.size w W → Calls Tryz.prog 51 #[.slice oa c.out.length oc] W fun e w' => ∃ v, e = .returned v ∧ Own (Kd.int .i64) 3 NoS w' W.heap.size v c.out ∧ Below W.heap.size W w') := fun W b => int_Clone S oa oc c.out W (h.out.frame (Same.below b)) ho
  clear h hi ho
  unfold cdVal
  go_enter Tryz.func29, Tryz.ntmps29
  go_wp2_with fail
  obtain ⟨s0, s1, s2, s3⟩ := cd_block4 KC.out
  generalize (w.alloc (.cells (cellsC c ia ic oa oc) 25)).alloc (.cells #[.int .i64 0, .int .i64 0, .slice none 0 0, .slice none 0 0] 25) = W0 at *
  have BWd : Hid (Below w.heap.size w W0.drew) := below_drewN BW.out 1
  have KCd : Hid (W0.drew.heap[w.heap.size]? = _) := KC.out
  have KZd : Hid (W0.drew.heap[w.heap.size + 1]? = _) := KZ.out
  have hhn : w.heap.size ≠ w.heap.size + 1 := by omega
  go_region_held3 (fun w' => w'.cell? ⟨w.heap.size, 0, none⟩ = some (.int .i64 c.width) ∧ w'.cell? ⟨w.heap.size, 1, none⟩ = some (.int .i64 c.regs) ∧ w'.cell? ⟨w.heap.size, 2, none⟩ = some (.slice ia c.ins.length ic) ∧ w'.cell? ⟨w.heap.size, 3, none⟩ = some (.slice oa c.out.length oc))
      (first | with_reducible exact ⟨(World.cell?_of_block (EF _ hhn)).trans x0, (World.cell?_of_block (EF _ hhn)).trans x1, (World.cell?_of_block (EF _ hhn)).trans x2, (World.cell?_of_block (EF _ hhn)).trans x3⟩ | with_reducible exact cd_block4 KC2.out | with_reducible exact cd_block4 KC1.out | exact ⟨s0, s1, s2, s3⟩)
      (first
      | (go_at_call 50
         refine (HI.out _ BWd.out).mono ?_
         rintro e w1 ⟨v1, rfl, o1, b1⟩
         obtain ⟨a1, c1, rfl⟩ := o1.form
         have O1 := Lib.hid o1
         have B1 := Lib.hid (below_both BWd.out b1)
         have KC1 := Lib.hid (block_below b1 KCd.out)
         have KZ1 := Lib.hid (block_below b1 KZd.out)
         have HZ1 : Hid (w.heap.size + 1 < W0.heap.size) := (Array.getElem?_eq_some_iff.1 KZ.out).1
         clear o1 b1)
      | (go_at_call 51
         refine (HO.out _ B1.out).mono ?_
         rintro e w2 ⟨v2, rfl, o2, b2⟩
         obtain ⟨a2, c2, rfl⟩ := o2.form
         have O2 := Lib.hid o2
         have O12 := Lib.hid (O1.out.below b2)
         have B2 := Lib.hid (below_both B1.out b2)
         have KC2 := Lib.hid (block_below b2 KC1.out)
         have KZ2 := Lib.hid (block_below b2 KZ1.out)
         have HZ2 : Hid (w.heap.size + 1 < w1.heap.size) := (Array.getElem?_eq_some_iff.1 KZ1.out).1
         obtain ⟨x0, x1, x2, x3⟩ := cd_block4 KC2.out
         obtain ⟨q0, q1, q2, q3⟩ := cd_block4 KZ2.out
         have qf : ∀ i, w2.frozen? ⟨w.heap.size + 1, i, none⟩ = false := fun i => frozen_of_block KZ2.out
         have EF := four_far w2 (w.heap.size + 1) (.int .i64 c.width) (.int .i64 c.regs) (.slice a1 c.ins.length c1) (.slice a2 c.out.length c2)
         clear o2 b2)
      | fail)
  go_wp2_with fail
  refine bodyPost_ret_block (cs := cellsC c a1 c1 a2 c2) (w.heap.size + 1) (0, 0) _ rfl rfl (four_set KZ2.out _ _ _ _) Tryz.underlying25 rfl (by kernel_rfl) rfl ⟨⟨a1, c1, a2, c2⟩, rfl, ⟨?_, ?_⟩, four_below B2.out (by omega) _ _ _ _⟩
  · have r := (Own.rd' O12.out).mono (S' := fun b => w.heap.size + 1 < b) (fun b _ hb => by rcases hb with hb | hb; (· exact hb.elim); (· exact Nat.lt_of_lt_of_le HZ1.out hb))
    exact (r.frame (four_same (fun b hb => by have : w.heap.size + 1 < b := hb; omega) _ _ _ _)).mono (fun b _ hb => by have : w.heap.size + 1 < b := hb; show w.heap.size ≤ b; omega)
  · have r := (Own.rd' O2.out).mono (S' := fun b => w.heap.size + 1 < b) (fun b _ hb => by rcases hb with hb | hb; (· exact hb.elim); (· exact Nat.lt_of_lt_of_le HZ2.out hb))
    exact (r.frame (four_same (fun b hb => by have : w.heap.size + 1 < b := hb; omega) _ _ _ _)).mono (fun b _ hb => by have : w.heap.size + 1 < b := hb; show w.heap.size ≤ b; omega)
end Go.Proofs.Sat
