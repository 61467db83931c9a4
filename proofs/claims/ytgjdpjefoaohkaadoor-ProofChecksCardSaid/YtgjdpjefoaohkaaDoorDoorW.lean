/- From the listed table of package proof to its cells; a world for the witnesses. -/
import Derived.Test.YtgjdpjefoaohkaaDoorCards
import Derived.Test.YtgjdpjefoaohkaaDoorTie
import Derived.Test.YtgjdpjefoaohkaaDoorPrT
import Derived.Test.YtgjdpjefoaohkaaDoorOpenW
import Derived.WalkKit
import Derived.ProofKit
import Derived.OpenShut
import Derived.Deep.DeepHandedRow
import Derived.Lib.LaidTab
set_option linter.unusedVariables false
namespace Go.Proofs.YtgjdpjefoaohkaaDoor
open Go.ChangeShapes Go.WideShapes Go.ChangeAt Go.RowKit Go.Proofs.Sat
theorem own : ownKnob Tryd.prog.godebug = none := by kernel_rfl
theorem laidOut : laidOutB Tryd.prog = true := by kernel_rfl
theorem kinds_of {W : World} (h : laidMetH Tryd.prog [("saturate/proof.kinds", Rows.laid_saturate_proof_kinds)] W) : Kinds W := by
  have hc := laid_cells 4 (g := 0) (t := 50) (by kernel_rfl) (by kernel_rfl) (by kernel_rfl) h
  refine ⟨all13 ?_ ?_ ?_ ?_ ?_ ?_ ?_ ?_ ?_ ?_ ?_ ?_ ?_, all13 ?_ ?_ ?_ ?_ ?_ ?_ ?_ ?_ ?_ ?_ ?_ ?_ ?_, all13 ?_ ?_ ?_ ?_ ?_ ?_ ?_ ?_ ?_ ?_ ?_ ?_ ?_⟩
  all_goals exact hc _ _ rfl
theorem u8_wf {n : Int} (h : (Lit.int .u8 n).wf = true) : 0 ≤ n ∧ n < 256 := by
  simp [Lit.wf, IntKind.min, IntKind.max, IntKind.signed, IntKind.bits] at h
  omega
/-- A world for a witness: the settled one, the table holding what its initialiser lays. -/
noncomputable def laidWorld (os : Os) : World :=
  { World.holding Tryd.prog os ⟨#[], #[], []⟩ with heap := (World.holding Tryd.prog os ⟨#[], #[], []⟩).heap.modify 0 fun
      | .cells _ t frozen => .cells (flatOf 4 (Rows.laid_saturate_proof_kinds (H := Unit))).toArray t frozen
      | o => o }
end Go.Proofs.YtgjdpjefoaohkaaDoor
