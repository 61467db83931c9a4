/- From the listed table of package isa to its cells; a world for the witnesses. -/
import Derived.Test.YtkomfeeimdlokaaDoorCards
import Derived.Test.YtkomfeeimdlokaaDoorTie
import Derived.Test.YtkomfeeimdlokaaDoorIsaT
import Derived.Test.YtkomfeeimdlokaaDoorOpenIm
import Derived.WalkKit
import Derived.ProofKit
import Derived.OpenShut
import Derived.Deep.DeepHandedRow
import Derived.Lib.LaidTab
set_option linter.unusedVariables false
namespace Go.Proofs.YtkomfeeimdlokaaDoor
open Go.ChangeShapes Go.WideShapes Go.ChangeAt Go.RowKit Go.Proofs.Sat
theorem own : ownKnob Tryd.prog.godebug = none := by kernel_rfl
theorem laidOut : laidOutB Tryd.prog = true := by kernel_rfl
theorem isa_of {W : World} (h : laidMetH Tryd.prog [("saturate/isa.operations", Rows.laid_saturate_isa_operations)] W) : IsaT W := by
  have hc := laid_cells 4 (g := 0) (t := 99) (by kernel_rfl) (by kernel_rfl) (by kernel_rfl) h
  refine ⟨fun k hk => ?_⟩
  rcases (show k = 0 ∨ k = 1 ∨ k = 2 ∨ k = 3 ∨ k = 4 ∨ k = 5 ∨ k = 6 ∨ k = 7 ∨ k = 8 ∨ k = 9 ∨ k = 10 ∨ k = 11 ∨ k = 12 ∨ k = 13 ∨ k = 14 ∨ k = 15 ∨ k = 16 ∨ k = 17 ∨ k = 18 ∨ k = 19 by omega) with rfl | rfl | rfl | rfl | rfl | rfl | rfl | rfl | rfl | rfl | rfl | rfl | rfl | rfl | rfl | rfl | rfl | rfl | rfl | rfl
  all_goals exact hc _ _ rfl
/-- A world for a witness: the settled one, the table holding what its initialiser lays. -/
noncomputable def laidWorld (os : Os) : World :=
  { World.holding Tryd.prog os ⟨#[], #[], []⟩ with heap := (World.holding Tryd.prog os ⟨#[], #[], []⟩).heap.modify 0 fun
      | .cells _ t frozen => .cells (flatOf 4 (Rows.laid_saturate_isa_operations (H := Unit))).toArray t frozen
      | o => o }
end Go.Proofs.YtkomfeeimdlokaaDoor
