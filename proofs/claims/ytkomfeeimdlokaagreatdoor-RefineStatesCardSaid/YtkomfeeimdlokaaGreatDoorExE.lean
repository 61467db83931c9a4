/- The walks of exec.guarded and of its deferred closure, which recovers from a trap. -/
import Derived.Test.YtkomfeeimdlokaaGreatDoorExD
import Derived.Defers
import Derived.Recover
set_option linter.unusedVariables false
set_option linter.unusedSimpArgs false
namespace Go.Proofs.Sat
open Go Go.RowKit
set_option maxRecDepth 20000 in
set_option maxHeartbeats 2000000 in
theorem catch_panicking (p : Nat) (x : Bool) (older : List PanicEntry) (w : World) (hc : w.heap[p]? = some (.cells #[.bool x] 4 (0, 0))) :
    CallsD Tryz.prog 78 #[.pointer (some ⟨p, 0, none⟩)] (.panicking ({ v := .iface 99 (.agg #[]), recovered := false } :: older)) w fun e u' w' =>
      e = .returned (.tuple #[]) ∧ u' = .panicking ({ v := .iface 99 (.agg #[]), recovered := true } :: older) ∧ w'.heap[p]? = some (.cells #[.bool false] 4 (0, 0)) ∧ But p w w' := by
  have KP := Lib.hid (block_alloc hc (.cells #[] 99))
  have c1 := cell_of_block KP.out
  have f1 := frozen_of_block (o := 0) KP.out
  have HP := Lib.hid (Array.getElem?_eq_some_iff.1 hc).1
  have HB := Lib.hid (Below.refl w.heap.size w)
  clear hc
  have hta : ∀ w : World, (Instr.typeAssert (.iface 99 (.agg #[])) 20 99 true).run Tryz.prog w = .ok (.tuple #[.agg #[], .bool true]) w := fun _ => by kernel_rfl
  refine callsD_of_wpS Tryz.func78 rfl fun c₀ cs hu => ?_
  apply wpS_seq
  apply wpS_region
  simp [wpOpsS, go_sem, recoverD, hu, Tryz.ntmps78, Exit.thenS]
  refine wpS_of_wp ?_
  simp only [Array.replicate_succ, Array.replicate_zero, List.push_toArray, List.append_toArray, List.nil_append, List.cons_append, List.setIfInBounds_toArray, List.set_cons_zero, List.set_cons_succ]
  go_wp2_with fail
  simp [bodyPostS, results, Tryz.results78, hu]
  exact ⟨block_set KP.out, (But.of_below ((Below.refl _ _).alloc (Nat.le_refl _) _) (by have := HP.out; omega)).set _⟩
set_option maxRecDepth 20000 in
set_option maxHeartbeats 2000000 in
theorem catch_idle (p : Nat) (x : Bool) (w : World) (hc : w.heap[p]? = some (.cells #[.bool x] 4 (0, 0))) :
    CallsD Tryz.prog 78 #[.pointer (some ⟨p, 0, none⟩)] .returning w fun e u' w' =>
      e = .returned (.tuple #[]) ∧ u' = .returning ∧ w'.heap[p]? = some (.cells #[.bool true] 4 (0, 0)) ∧ But p w w' := by
  have KP := Lib.hid (block_alloc hc (.cells #[] 99))
  have c1 := cell_of_block KP.out
  have f1 := frozen_of_block (o := 0) KP.out
  have HP := Lib.hid (Array.getElem?_eq_some_iff.1 hc).1
  clear hc
  have hta : ∀ w : World, (Instr.typeAssert .nilIface 20 99 true).run Tryz.prog w = .ok (.tuple #[.agg #[], .bool false]) w := fun _ => by kernel_rfl
  refine callsD_of_wpS Tryz.func78 rfl fun c₀ cs hu => ?_
  apply wpS_seq
  apply wpS_region
  simp [wpOpsS, go_sem, recoverD, hu, Tryz.ntmps78, Exit.thenS]
  refine wpS_of_wp ?_
  simp only [Array.replicate_succ, Array.replicate_zero, List.push_toArray, List.append_toArray, List.nil_append, List.cons_append, List.setIfInBounds_toArray, List.set_cons_zero, List.set_cons_succ]
  go_wp2_with fail
  simp [bodyPostS, results, Tryz.results78, hu]
  refine ⟨.returning, by cases c₀; simp_all, rfl, block_set KP.out, (But.of_below ((Below.refl _ _).alloc (Nat.le_refl _) _) (by have := HP.out; omega)).set _⟩
set_option maxRecDepth 20000 in
set_option maxHeartbeats 2000000 in
/-- A function that returns or traps, guarded. -/
theorem exec_guarded (f : Nat) (caps : Array Value) (w : World) (OK BAD : World → Prop)
    (h : Calls Tryz.prog f caps (w.alloc (.cells #[.bool false] 4)) fun e w' => ((OK w' ∧ e = .returned (.tuple #[])) ∨ (BAD w' ∧ e = .panicked [{ v := .iface 99 (.agg #[]), recovered := false }])) ∧ w'.heap[w.heap.size]? = some (.cells #[.bool false] 4 (0, 0)))
    (hf : f = 52) :
    Calls Tryz.prog 51 #[.func (.func f) #[] caps] w fun e w' => ∃ (b : Bool) (w1 : World), e = .returned (.bool b) ∧ (if b = true then OK w1 else BAD w1) ∧ But w.heap.size w1 w' := by
  subst hf
  have HH := Lib.hid h
  clear h
  have hmf : ∀ (fn : Fn) (first cap : Array Value) (w : World), (Instr.makeFunc fn first cap).run Tryz.prog w = .ok (.func fn first cap) w := fun _ _ _ _ => rfl
  go_enter_defers Tryz.func51, Tryz.ntmps51
  go_wp2_with fail
  refine HH.out.mono ?_
  rintro e w1 ⟨hor, hb⟩
  have KB := Lib.hid hb
  have c0 := cell_of_block hb
  have f0 := frozen_of_block (o := 0) hb
  clear hb HH
  rcases hor with ⟨ho, rfl⟩ | ⟨ho, rfl⟩
  · have HO := Lib.hid ho
    clear ho
    go_wp2_with fail
    refine leaves_cons (f := 78) (args := #[.pointer (some ⟨w.heap.size, 0, none⟩)]) (by simp) (by simp [go_sem]) ?_
    refine (catch_idle w.heap.size true _ (block_set KB.out)).mono ?_
    rintro e u' w2 ⟨rfl, rfl, hb2, hbut⟩
    have c2 := cell_of_block hb2
    simp [Leaves, settle, results, Tryz.results51, go_sem, c2]
    exact ⟨w1, HO.out, ((But.refl _ _).set _).trans hbut⟩
  · have HO := Lib.hid ho
    clear ho
    go_wp2_with fail
    refine leaves_cons (f := 78) (args := #[.pointer (some ⟨w.heap.size, 0, none⟩)]) (by simp) (by simp [go_sem]) ?_
    refine (catch_panicking w.heap.size false [] _ KB.out).mono ?_
    rintro e u' w2 ⟨rfl, rfl, hb2, hbut⟩
    have c2 := cell_of_block hb2
    simp [Leaves, settle, results, Tryz.results51, go_sem, c2]
    exact ⟨w1, HO.out, hbut⟩
end Go.Proofs.Sat
