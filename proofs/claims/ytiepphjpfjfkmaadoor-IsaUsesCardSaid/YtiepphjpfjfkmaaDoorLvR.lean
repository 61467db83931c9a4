/- Walks of the reference's small parts: Sources, Defines, in, Has, SameInts. -/
import Derived.Test.YtiepphjpfjfkmaaDoorOps2
import Derived.Test.YtiepphjpfjfkmaaDoorInsW
set_option linter.unusedVariables false
set_option linter.unusedSimpArgs false
namespace Go.Proofs.Sat
open Go Go.RowKit
theorem eq_iff_places (l m : List Int) : l = m ↔ l.length = m.length ∧ ∀ i, i < l.length → l.getD i 0 = m.getD i 0 := by
  constructor
  · rintro rfl; exact ⟨rfl, fun _ _ => rfl⟩
  · rintro ⟨h1, h2⟩
    refine List.ext_getElem h1 fun i a b => ?_
    have := h2 i a
    simpa [a, b] using this
theorem take_succ_at0 (l : List Int) {k : Nat} (h : k < l.length) : l.take (k + 1) = l.take k ++ [l[k]] := by rw [List.take_succ_eq_append_getElem h]
end Go.Proofs.Sat
