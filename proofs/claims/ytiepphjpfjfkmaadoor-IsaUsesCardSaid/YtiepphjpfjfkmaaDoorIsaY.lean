/- The walks of slices.Clone at instructions and at numbers, and of isa.Copy. -/
import Derived.Test.YtiepphjpfjfkmaaDoorOps3
import Derived.Test.YtiepphjpfjfkmaaDoorIsaK
set_option linter.unusedVariables false
set_option linter.unusedSimpArgs false
namespace Go.Proofs.Sat
open Go Go.RowKit
theorem infoIn : ElemInfo Tryd.prog 34 25 (.agg #[.int .i64 0, .int .i64 0, .int .i64 0, .int .i64 0, .int .i64 0, .int .u64 0]) 6 48 := ⟨Tryd.underlying34, by kernel_rfl, rfl, by decide⟩
theorem kIn_any {S S' : Nat → Prop} {w w' : World} : ∀ cs x, kIn.K S w cs x → kIn.K S' w' cs x := fun _ _ h => h
theorem four_set {w : World} {g : Nat} {t : TypeId} {v0 v1 v2 v3 : Value} (h : w.heap[g]? = some (.cells #[v0, v1, v2, v3] t (0, 0))) (u0 u1 u2 u3 : Value) :
    ((((w.setCell ⟨g, 0, none⟩ u0).setCell ⟨g, 1, none⟩ u1).setCell ⟨g, 2, none⟩ u2).setCell ⟨g, 3, none⟩ u3).heap[g]? = some (.cells #[u0, u1, u2, u3] t (0, 0)) := by
  simp [World.setCell, Array.getElem?_modify, h]
theorem four_below {B : Nat} {w0 w : World} {g : Nat} (h : Below B w0 w) (hg : B ≤ g) (u0 u1 u2 u3 : Value) : Below B w0 ((((w.setCell ⟨g, 0, none⟩ u0).setCell ⟨g, 1, none⟩ u1).setCell ⟨g, 2, none⟩ u2).setCell ⟨g, 3, none⟩ u3) :=
  (((h.setCell hg _).setCell hg _).setCell hg _).setCell hg _
theorem four_far (w : World) (g : Nat) (u0 u1 u2 u3 : Value) (b : Nat) (hb : b ≠ g) : ((((w.setCell ⟨g, 0, none⟩ u0).setCell ⟨g, 1, none⟩ u1).setCell ⟨g, 2, none⟩ u2).setCell ⟨g, 3, none⟩ u3).heap[b]? = w.heap[b]? := by
  rw [Below.heap_setCell _ _ _ b hb, Below.heap_setCell _ _ _ b hb, Below.heap_setCell _ _ _ b hb, Below.heap_setCell _ _ _ b hb]
theorem four_same {S : Nat → Prop} {w : World} {g : Nat} (hS : ∀ b, S b → b ≠ g) (u0 u1 u2 u3 : Value) : Same S w ((((w.setCell ⟨g, 0, none⟩ u0).setCell ⟨g, 1, none⟩ u1).setCell ⟨g, 2, none⟩ u2).setCell ⟨g, 3, none⟩ u3) :=
  ⟨by simp [World.setCell], fun b hb _ => four_far w g u0 u1 u2 u3 b (hS b hb)⟩
end Go.Proofs.Sat
