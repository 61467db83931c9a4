/- Sorting and compacting a row of the call's own. -/
import Derived.Test.YtkomfeeimdlokaaDoorOps2
import Derived.Test.YtkomfeeimdlokaaDoorIdsL
import Derived.Test.YtkomfeeimdlokaaDoorShelf2
import Derived.Sort.OwnSortedInts
set_option linter.unusedVariables false
set_option linter.unusedSimpArgs false
namespace Go.Proofs.Sat
open Go Go.RowKit
theorem Own.holds {e : TypeId} {S : Nat → Prop} {w : World} {base g c : Nat} {xs : List Int} (h : Own (Kd.int .i64) e S w base (.slice (some ⟨g, 0, none⟩) xs.length c) xs) : Go.Sort.Holds (Value.int .i64) w g 0 xs.toArray ∧ g < w.heap.size ∧ base ≤ g ∧ xs.length ≤ c ∧ c ≤ maxLen ∧ ∃ cur, w.heap[g]? = some (.cells cur e (0, 0)) ∧ cur.size = c := by
  rcases h.block with ⟨h0, _⟩ | ⟨g', cap, cur, hv, hb, hlt, hg, q1, q2, q3, q4⟩
  · cases h0
  · cases hv
    exact ⟨holds_of_blockI hg q4, hlt, hb, q1, q2, cur, hg, q3⟩
/-- The same row, sorted or otherwise turned by the library. -/
theorem own_turned {e : TypeId} {S : Nat → Prop} {w : World} {base g c n : Nat} {xs ts : List Int} {os : Array Obj} (h : Own (Kd.int .i64) e S w base (.slice (some ⟨g, 0, none⟩) xs.length c) xs) (hl : ts.length = xs.length) :
    Own (Kd.int .i64) e S (Go.Sort.grow (Go.Sort.putRow (Value.int .i64) (Go.Sort.ahead w n) g 0 ts.toArray) os) base (.slice (some ⟨g, 0, none⟩) ts.length c) ts ∧ w.grownBy (Go.Sort.grow (Go.Sort.putRow (Value.int .i64) (Go.Sort.ahead w n) g 0 ts.toArray) os) (some g) := by
  obtain ⟨_, _, hb, q1, q2, cur, hg, q3⟩ := h.holds
  refine ⟨?_, grownBy_sortedI _⟩
  have := ownsRow_sortedI (n := n) (os := os) hl hb hg q1 q2 (by omega)
  rw [← hl] at this
  exact ⟨_, this, elems_vals ts⟩
/-- A shorter cut of the same row. -/
theorem Own.shorter {α : Type} {enc : α → Value} {h1 : ∀ x, (enc x).oneCell' = true} {e : TypeId} {S : Nat → Prop} {w : World} {base g c : Nat} {xs ys : List α} (h : Own (Kd.val enc h1) e S w base (.slice (some ⟨g, 0, none⟩) (xs ++ ys).length c) (xs ++ ys)) :
    Own (Kd.val enc h1) e S w base (.slice (some ⟨g, 0, none⟩) xs.length c) xs := by
  rcases h.block with ⟨h0, _⟩ | ⟨g', cap, cur, hv, hb, hlt, hg, q1, q2, q3, q4⟩
  · cases h0
  · cases hv
    refine Own.of_block S hb hg (by simp at q1; omega) q2 q3 ?_
    have := congrArg (List.take xs.length) q4
    rw [List.take_take] at this
    simpa [Nat.min_eq_left] using this
theorem length_compact_le (l : List Int) : (Go.Lib.compact l).length ≤ l.length := by
  unfold Go.Lib.compact Go.Lib.compactUpTo
  rw [List.length_map]
  exact Nat.le_trans (List.length_filter_le _ _) (by simp)

/-- slices.Sort over a row of one's own. -/
theorem sort_own {S : Nat → Prop} {w : World} {base g c : Nat} {xs : List Int} (h : Own (Kd.int .i64) 3 S w base (.slice (some ⟨g, 0, none⟩) xs.length c) xs) (hs : xs.length ≤ 17592186044416) :
    Calls Tryd.prog 64 #[.slice (some ⟨g, 0, none⟩) xs.length c] w fun e w' => e = .returned (.tuple #[]) ∧ Own (Kd.int .i64) 3 S w' base (.slice (some ⟨g, 0, none⟩) xs.length c) (xs.mergeSort fun x y => decide (x ≤ y)) ∧ w.grownBy w' (some g) := by
  obtain ⟨hh, hlt, hb, q1, q2, cur, hg, q3⟩ := h.holds
  refine (Tryd.slices_Sort_int g 0 c xs w hh hlt (by omega)).mono ?_
  rintro e w' ⟨rfl, n, os, rfl⟩
  obtain ⟨r1, r2⟩ := own_turned (n := n) (os := os) h (ts := xs.mergeSort fun x y => decide (x ≤ y)) (by simp)
  refine ⟨rfl, ?_, r2⟩
  have e : (xs.mergeSort fun x y => decide (x ≤ y)).length = xs.length := by simp
  rw [e] at r1
  exact r1
/-- slices.Compact over a row of one's own. -/
theorem compact_own {S : Nat → Prop} {w : World} {base g c n : Nat} {xs : List Int} (hn : xs.length = n) (h : Own (Kd.int .i64) 3 S w base (.slice (some ⟨g, 0, none⟩) n c) xs) :
    Calls Tryd.prog 65 #[.slice (some ⟨g, 0, none⟩) n c] w fun e w' => ∃ v, e = .returned v ∧ Own (Kd.int .i64) 3 S w' base v (Go.Lib.compact xs) ∧ w.grownBy w' (some g) := by
  subst hn
  obtain ⟨hh, hlt, hb, q1, q2, cur, hg, q3⟩ := h.holds
  have hm : c ≤ 9223372036854775807 := by simpa [maxLen] using q2
  refine (Tryd.slices_Compact_int g 0 c xs w hh (by omega) q1).mono ?_
  rintro e w' ⟨rfl, n, rfl⟩
  have hl := length_compact_le xs
  obtain ⟨r1, r2⟩ := own_turned (n := n) (os := #[]) h (ts := Go.Lib.compact xs ++ List.replicate (xs.length - (Go.Lib.compact xs).length) 0) (by simp; omega)
  rw [Go.Sort.grow_empty] at r1 r2
  exact ⟨_, rfl, r1.shorter, r2⟩
theorem below_grown0 {w w1 w2 : World} {g : Nat} (h : Below w.heap.size w w1) (hg : w1.grownBy w2 (some g)) (hb : w.heap.size ≤ g) : Below w.heap.size w w2 := h.grown hg h.size (fun k hk => by cases hk; exact hb)
theorem below_grownN {w w1 w2 : World} (h : Below w.heap.size w w1) (hg : w1.grownBy w2 none) : Below w.heap.size w w2 := h.grown hg h.size (fun k hk => by cases hk)
end Go.Proofs.Sat
