/- The walks of refine.states and of the iterator that it makes. -/
import Derived.RangeFuncNested
import Derived.RangeFuncBound
import Derived.RangeFuncCalls
import Derived.RangeFuncLeaves
import Derived.Shelf.Abstract
import Derived.Shelf.RegionOpen
import Derived.WalkKit
import Derived.OwnWalkIn
import Derived.TacticsInMore
import Derived.LoopNIn
import Derived.LoopIn
import Derived.Test.YtkomfeeimdlokaaDoorRgC
import Derived.Test.YtkomfeeimdlokaaDoorRgL
set_option linter.unusedVariables false
set_option linter.unusedSimpArgs false
namespace Go.Proofs.Sat
open Go Go.RowKit Go.Shelf
attribute [local go_sem] Oper.semAt_some
set_option maxRecDepth 100000 in
set_option maxHeartbeats 4000000 in
theorem states1_in (n B0 B1 B2 : Nat) (Sl : Nat → Prop) (L : List Int) (a : Option Addr) (ca : Nat) (c : Cd) (ia : Option Addr) (ic : Nat) (oa : Option Addr) (oc : Nat) (N : Nat) (hN : N ≤ 65536) (hIl : L.length ≤ 1000) (I : Nat → World → Prop) (w : World)
    (hc : ∀ i W, I i W → W.cell? ⟨B0, 0, none⟩ = some (.int .i64 (N : Int)) ∧ W.cell? ⟨B1, 0, none⟩ = some (.slice a L.length ca) ∧ W.heap[B2]? = some (.cells (cellsC c ia ic oa oc) 38 (0, 0)) ∧ Rd (Kd.int .i64) Sl W a ca L) :
    IdxIter Tryd.prog n 28 #[.pointer (some ⟨B0, 0, none⟩), .pointer (some ⟨B1, 0, none⟩), .pointer (some ⟨B2, 0, none⟩)] w N I
      (fun i x W => ∃ g, x = .slice (some ⟨g, 0, none⟩) (numE c.regs) (numE c.regs) ∧ w.heap.size + 1 < g ∧ St8 W g (numE c.regs) (stateE L c.width c.regs (i : Int))) := by
  intro l J Jx hJ hJI hY W h0
  refine callsIn_of_wp Tryd.func28 rfl trivial ?_ rfl
  simp only [Tryd.ntmps28, List.size_toArray, List.length_cons, List.length_nil, Nat.reduceAdd, Nat.reduceSub, Array.replicate_succ, Array.replicate_zero, List.push_toArray, List.append_toArray, List.nil_append, List.cons_append]
  have HC : Hid (∀ i W, J i W → _) := fun i W h => hc i W (hJI i W h).1
  have HJ := Lib.hid hJ
  have HS : Hid (∀ i W, J i W → w.heap.size + 1 < W.heap.size) := fun i W h => (hJI i W h).2
  have HY := Lib.hid hY
  obtain ⟨b0, -, -, -⟩ := hc 0 W (hJI 0 W h0).1
  clear hc hJ hY hJI
  gi_wp2
  gi_loopw [7] (fun p wr => ∃ i : Nat, i ≤ N ∧ p = .int .i64 (i : Int) ∧ J i wr) (fun p _ => N - (intOf p).toNat)
  case atStart => exact ⟨0, by omega, rfl, h0⟩
  case round =>
    obtain ⟨i, hi, rfl, hJi⟩ := hrel
    by_cases hlt : i < N
    · have hlt' : (i : Int) < (N : Int) := by omega
      obtain ⟨c0, c1, c2, hr⟩ := HC.out i wr hJi
      obtain ⟨z0, z1, z2, z3⟩ := cd_block4 c2
      have HR := Lib.hid hr
      clear hr c2
      gi_wp2
      refine ⟨trivial, (fun h => by cases h), ?_⟩
      refine (callsIn_wide.2 (refine_State Sl L a ca c.width c.regs (i : Int) wr HR.out hIl)).mono ?_
      rintro e W3 ⟨g, rfl, hg, s8, b3⟩
      have J3 := HJ.out i wr W3 hJi b3
      obtain ⟨fn, tmps, assign, body, hy, hR⟩ := HY.out i _ W3 hlt J3 ⟨g, rfl, by have := HS.out i wr hJi; omega, s8⟩
      gi_wp2
      refine ⟨(fun h => by cases h), ?_⟩
      refine hR.mono ?_
      rintro e W4 (⟨rfl, hJ4⟩ | ⟨rfl, hJx4⟩)
      · gi_wp2
        go_roundw
        case rel => exact ⟨i + 1, by omega, by go_num, hJ4⟩
        case measure => simp [intOf]; omega
      · gi_wp2
        refine bodyPost_ret (results_none rfl _ _ _) rfl ?_
        exact ⟨⟨_, rfl⟩, .inr ⟨i, hlt, hJx4⟩⟩
    · have hnl : ¬ (i : Int) < (N : Int) := by omega
      gi_wp2
      go_end0
      exact ⟨⟨_, rfl⟩, .inl (by rw [show N = i by omega]; exact hJi)⟩
set_option maxRecDepth 20000 in
set_option maxHeartbeats 1000000 in
theorem refine_states (c : Cd) (p : CdAt) (a : Option Addr) (k ca : Nat) (n : Int) (w : World) :
    Calls Tryd.prog 17 #[.slice a k ca, cdVal c p, .int .i64 n] w fun e w' => e = .returned (.func (.func 28) #[] #[.pointer (some ⟨w.heap.size + 1 + 1, 0, none⟩), .pointer (some ⟨w.heap.size, 0, none⟩), .pointer (some ⟨w.heap.size + 1, 0, none⟩)]) ∧
      w' = ((w.alloc (.cells #[.slice a k ca] 22)).alloc (.cells (cellsC c p.ia p.ic p.oa p.oc) 38)).alloc (.cells #[.int .i64 n] 3) := by
  unfold cdVal
  go_enter Tryd.func17, Tryd.ntmps17
  go_wp2_with fail
  go_ret
  exact ⟨rfl, rfl⟩
end Go.Proofs.Sat
