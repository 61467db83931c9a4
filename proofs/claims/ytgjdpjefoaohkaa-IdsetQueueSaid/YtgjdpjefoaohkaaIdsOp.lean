/- What reads as an operation of the law IdsetQueue. -/
import Derived.Test.YtgjdpjefoaohkaaIdsLawC
import Derived.Test.YtgjdpjefoaohkaaOpenW
set_option linter.unusedVariables false
set_option linter.unusedSimpArgs false
namespace Go.Proofs.Sat
open Go Go.RowKit
theorem opens_op : Opens Try.prog Kd.two 35 fun _ => True := by
  refine ⟨by kernel_rfl, fun H enc w fuel cs x h => ?_⟩
  obtain ⟨y0, y1, n, rfl, hl, h0, h1⟩ := Go.ChangeShapes.trod_struct2 Try.underlying35 h
  obtain ⟨p, e0, _, _⟩ := DataW.trod_int Try.underlying3 h0
  obtain ⟨q, e1, _, _⟩ := DataW.trod_int Try.underlying3 h1
  rw [show (Try.prog).cellsOf 35 = 2 from by kernel_rfl] at hl
  refine ⟨(p, q), ?_, trivial⟩
  match cs, hl with
  | [c0, c1], _ =>
    rw [show (Try.prog).cellsOf 3 = 1 from by kernel_rfl] at e0 e1
    simp at e0 e1
    subst e0 e1
    rfl
end Go.Proofs.Sat
