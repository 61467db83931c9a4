/- An array's element at a literal place. -/
import Derived.Test.YtkomfeeimdlokaaDoorIdsO
import Derived.Test.YtkomfeeimdlokaaDoorInsW
namespace Go.Proofs.Sat
open Go Go.RowKit
theorem idx_set (W : World) (v0 v1 v2 v3 v4 v5 v6 v7 : Value) (i : Nat) (hi : i < 8) :
    (Instr.index 90 (.agg #[v0, v1, v2, v3, v4, v5, v6, v7]) (.int .i64 (i : Int))).run Tryd.prog W = .ok (#[v0, v1, v2, v3, v4, v5, v6, v7].getD i undef) W := by
  have hu := Tryd.underlying90
  have hn : (0 : Int) ≤ (i : Int) ∧ (i : Int) < ((8 : Nat) : Int) := by omega
  simp [Instr.index, run_underlying hu, asIntOf, hn, go_sem, hi]
end Go.Proofs.Sat
