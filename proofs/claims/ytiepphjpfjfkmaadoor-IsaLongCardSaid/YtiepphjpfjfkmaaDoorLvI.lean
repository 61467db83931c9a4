/- The walk of the reference's ins. -/
import Derived.Test.YtiepphjpfjfkmaaDoorLvU
import Derived.Test.YtiepphjpfjfkmaaDoorIsaI
set_option linter.unusedVariables false
set_option linter.unusedSimpArgs false
namespace Go.Proofs.Sat
open Go Go.RowKit
theorem usesI_get (x : In) {k sn : Nat} (hs : srcN x.op = sn) (hk : k < sn) (h3 : k < 3) (h : k < (usesI x).length) : (usesI x)[k] = [x.a, x.b, x.c].getD k 0 := by
  simp [usesI, h3]
theorem restI_zero {x : In} {sn : Nat} (hs : srcN x.op = sn) (h3 : sn ≤ 3) : (restI x).all (fun r => r == 0) = true ↔ (∀ j, sn ≤ j → j < 3 → [x.a, x.b, x.c].getD j 0 = 0) ∧ (x.op = 0 → x.dst = 0) := by
  unfold restI
  rw [hs, Int.toNat_natCast, List.all_append, Bool.and_eq_true]
  have e1 : (List.drop sn [x.a, x.b, x.c]).all (fun r => r == 0) = true ↔ ∀ j, sn ≤ j → j < 3 → [x.a, x.b, x.c].getD j 0 = 0 := by
    rw [List.all_eq_true]
    constructor
    · intro h j h1 h2
      have hl : j - sn < (List.drop sn [x.a, x.b, x.c]).length := by simp; omega
      have := h _ (List.getElem_mem hl)
      rw [List.getElem_drop] at this
      have e : sn + (j - sn) = j := by omega
      simp only [e] at this
      rw [List.getD_eq_getElem?_getD, List.getElem?_eq_getElem (by simpa using h2)]
      simpa using this
    · intro h r hr
      obtain ⟨i, hi, rfl⟩ := List.getElem_of_mem hr
      rw [List.getElem_drop]
      have hi' : sn + i < 3 := by simp at hi; omega
      have := h (sn + i) (by omega) hi'
      rw [List.getD_eq_getElem?_getD, List.getElem?_eq_getElem (by simpa using hi')] at this
      simpa using this
  rw [e1]
  by_cases h0 : x.op = 0 <;> simp [h0]
end Go.Proofs.Sat
