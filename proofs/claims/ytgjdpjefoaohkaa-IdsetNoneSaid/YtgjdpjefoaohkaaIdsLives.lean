/- The walk of the example that each law of idset checks: it holds. -/
import Derived.Test.YtgjdpjefoaohkaaIdsQ
set_option linter.unusedVariables false
set_option linter.unusedSimpArgs false
namespace Go.Proofs.Sat
open Go Go.RowKit

theorem Rd.lit {α : Type} {enc : α → Value} {h1 : ∀ x, (enc x).oneCell' = true} (w : World) (t : TypeId) (l : List α) (d : α) (hl : l.length ≤ 9223372036854775807) : Rd (Kd.val enc h1) (fun _ => True) (w.alloc (.cells (l.map enc).toArray t)) (some ⟨w.heap.size, 0, none⟩) l.length l :=
  Rd.of_vals d (by omega) hl (fun _ => ⟨trivial, by simp⟩) (fun j hj => by
    rw [Nat.zero_add, cell_new]
    simp [hj])
set_option maxHeartbeats 1600000 in
theorem law03_lives (w : World) : Calls Try.prog 9 #[] w fun e w' => e = .returned (.bool true) ∧ Below w.heap.size w w' := by
  go_enter Try.func9, Try.ntmps9
  go_wp2_with (first
    | (go_at_call 10; refine (queue_New w).mono ?_; rintro e w1 ⟨g, rfl, q1, b1⟩)
    | fail)
  refine (queue_Push w1 g _ _ [] 5 q1 b1.size (by simp)).mono ?_
  rintro e w2 ⟨rfl, _, q2, b2, _, _⟩
  rw [show ins [] 5 = [5] from by decide] at q2
  go_wp2_with fail
  refine (queue_Push w2 g _ _ [5] 2 q2 (Nat.le_trans b1.size b2.size) (by simp)).mono ?_
  rintro e w3 ⟨rfl, _, q3, b3, _, _⟩
  rw [show ins [5] 2 = [2, 5] from by decide] at q3
  go_wp2_with fail
  refine (queue_Push w3 g _ _ [2, 5] 5 q3 (Nat.le_trans (Nat.le_trans b1.size b2.size) b3.size) (by simp)).mono ?_
  rintro e w4 ⟨rfl, _, q4, b4, _, _⟩
  rw [show ins [2, 5] 5 = [2, 5] from by decide] at q4
  go_wp2_with fail
  refine (queue_Pop w4 g _ _ 2 [5] q4 (by simp)).mono ?_
  rintro e w5 ⟨rfl, q5, b5, _⟩
  go_wp2_with fail
  refine (queue_Pop w5 g _ _ 5 [] q5 (by simp)).mono ?_
  rintro e w6 ⟨rfl, q6, b6, _⟩
  go_wp2_with fail
  refine (queue_Pop_none w6 g _ _ q6).mono ?_
  rintro e w7 ⟨rfl, d7⟩
  have q7 := q6.drawn d7
  have B7 : Below w.heap.size w w7 := (((((b1.trans b2).trans b3).trans b4).trans b5).trans b6).trans (d7.below _)
  clear q1 q2 q3 q4 q5 q6 b1 b2 b3 b4 b5 b6 d7
  go_wp2_with fail
  refine (idset_Of _ _ _ [3, 1, 3] _ (Rd.lit w7 3 [3, 1, 3] 0 (by simp)) (by simp)).mono ?_
  rintro e w8 ⟨v8, rfl, o8, b8⟩
  rw [show ofL [3, 1, 3] = [1, 3] from by decide] at o8
  have q8 := (q7.below ((Below.refl w7.heap.size w7).alloc (Nat.le_refl _) _)).below b8
  obtain ⟨p8, c8, rfl, r8⟩ := o8.rd
  go_wp2_with fail
  refine (ref03_Same _ _ p8 _ c8 2 [1, 3] [1, 3] _ (r8.frame (Same.alloc _ w8 (.cells #[.int .i64 1, .int .i64 3] 3))) (Rd.lit w8 3 [1, 3] 0 (by simp))).mono ?_
  rintro e w9 ⟨rfl, d9⟩
  have q9 := (q8.below ((Below.refl w8.heap.size w8).alloc (Nat.le_refl _) _)).drawn d9
  go_wp2_with fail
  refine (idset_Valid _ _ 2 [1, 3] _ (Rd.lit w9 3 [1, 3] 0 (by simp))).mono ?_
  rintro e w10 ⟨rfl, d10⟩
  have q10 := (q9.below ((Below.refl w9.heap.size w9).alloc (Nat.le_refl _) _)).drawn d10
  go_wp2_with fail
  refine (idset_Valid _ _ 2 [3, 3] _ (Rd.lit w10 3 [3, 3] 0 (by simp))).mono ?_
  rintro e w11 ⟨rfl, d11⟩
  have q11 := (q10.below ((Below.refl w10.heap.size w10).alloc (Nat.le_refl _) _)).drawn d11
  go_wp2_with fail
  refine (queue_Len w11 g _ _ [] q11).mono ?_
  rintro e w12 ⟨rfl, d12⟩
  go_wp2_with fail
  go_ret
  refine ⟨rfl, ?_⟩
  have e8 : Below w.heap.size w w8 := below_both (below_alloc B7 (.cells #[.int .i64 3, .int .i64 1, .int .i64 3] 3)) b8
  have e9 := (below_alloc e8 (.cells #[.int .i64 1, .int .i64 3] 3)).trans (d9.below _)
  have e10 := (below_alloc e9 (.cells #[.int .i64 1, .int .i64 3] 3)).trans (d10.below _)
  have e11 := (below_alloc e10 (.cells #[.int .i64 3, .int .i64 3] 3)).trans (d11.below _)
  exact e11.trans (d12.below _)
end Go.Proofs.Sat
