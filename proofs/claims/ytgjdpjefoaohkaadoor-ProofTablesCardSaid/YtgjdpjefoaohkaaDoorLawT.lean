/- The walk of the law ProofTables. -/
import Derived.Test.YtgjdpjefoaohkaaDoorPrJ
set_option linter.unusedVariables false
set_option linter.unusedSimpArgs false
namespace Go.Proofs.Sat
open Go Go.RowKit
set_option maxRecDepth 20000 in
set_option maxHeartbeats 4000000 in
theorem law_Tables (kd : Int) (w : World) (hK : Kinds w) :
    Calls Tryd.prog 3 #[.int .i64 kd] w fun e w' => e = .returned (.bool true) ∧ Below w.heap.size w w' := by
  go_enter Tryd.func3, Tryd.ntmps3
  have hkk : (kindName kd).toList == (kindName kd).toList := by simp
  go_wp2_with (first
    | (go_at_call 8; refine (proof_Refs kd _ hK).mono ?_; rintro e w1 ⟨rfl, d1⟩; have D1 := Lib.hid d1; clear d1)
    | (go_at_call 9; refine (ref34_Refs kd _).mono ?_; rintro e w2 ⟨rfl, d2⟩; have D2 := Lib.hid (D1.out.trans d2); clear d2)
    | fail)
  refine (proof_Kind kd _ (hK.drawn D2.out)).mono ?_
  rintro e w3 ⟨rfl, d3⟩
  have D3 := Lib.hid (D2.out.trans d3)
  clear d3
  go_wp2_with fail
  refine (ref34_Kind kd _).mono ?_
  rintro e w4 ⟨rfl, b4⟩
  have B4 := Lib.hid ((D3.out.below w.heap.size).trans (by have := D3.out.size; rw [this] at b4; exact b4))
  clear b4
  generalize kindName kd = kn at *
  go_wp2_with fail
  refine (lives_true w4 (hK.below B4.out)).mono ?_
  rintro e w5 ⟨rfl, b5⟩
  have B5 := below_both B4.out b5
  clear b5
  go_wp2
  go_ret
  exact ⟨rfl, B5⟩
end Go.Proofs.Sat
