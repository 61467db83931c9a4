/- '==' and '!=' at instructions. -/
import Derived.Test.YtiepphjpfjfkmaaDoorIsaK
import Derived.Laws.StructEq
import Derived.ChangeKeysEq
set_option linter.unusedVariables false
set_option linter.unusedSimpArgs false
namespace Go.Proofs.Sat
open Go Go.RowKit
theorem eqf_int {P : Program} {d : Nat} {xs ys : Array Value} {f : Field} {fs : List Field} {a b : Int} {k k' : IntKind} {W : World} {r : Bool} (hn : f.name ≠ "_") (hp : P.plainKey f.type = true)
    (ha : xs[f.offset]? = some (.int k a)) (hb : ys[f.offset]? = some (.int k b)) (hu : P.underlying f.type = some (.int k')) (hr : (Op.eqFields (d + 1) xs ys fs).run P W = .ok r W) : (Op.eqFields (d + 1) xs ys (f :: fs)).run P W = .ok (a == b && r) W := by
  rw [Op.eqFields, if_pos hn]
  simp only [Sem.run_bind, run_part_plain W hp ha, run_part_plain W hp hb, Result.andThen_ok, run_equalIn_int W d f.type k k' a b hu]
  cases (a == b) <;> simp [hr]
theorem eqf_done {P : Program} {d : Nat} {xs ys : Array Value} {W : World} : (Op.eqFields d xs ys []).run P W = .ok true W := by simp [Op.eqFields]
theorem in_eq (x y : In) : decide (x = y) = (x.op == y.op && (x.dst == y.dst && (x.a == y.a && (x.b == y.b && (x.c == y.c && (x.imm == y.imm && true)))))) := by
  cases x; cases y
  rw [Bool.eq_iff_iff]
  simp
set_option maxHeartbeats 400000 in
theorem eq_fields_in (W : World) (x y : In) : (Op.equalIn 10000 25 (inVal x) (inVal y)).run Tryd.prog W = .ok (decide (x = y)) W := by
  have u := Tryd.underlying25
  have hp : Tryd.prog.stoodInHeld 25 = false := by kernel_rfl
  have k3 : Tryd.prog.plainKey 3 = true := by kernel_rfl
  have k33 : Tryd.prog.plainKey 23 = true := by kernel_rfl
  have k52 : Tryd.prog.plainKey 22 = true := by kernel_rfl
  rw [in_eq, run_equalIn_agg (P := Tryd.prog) W 9999 25 _ _ (by rw [u]; kernel_rfl) hp]
  unfold Program.fieldsOf
  rw [u]
  exact eqf_int (by decide) k52 rfl rfl Tryd.underlying22 (eqf_int (by decide) k3 rfl rfl Tryd.underlying3 (eqf_int (by decide) k3 rfl rfl Tryd.underlying3 (eqf_int (by decide) k3 rfl rfl Tryd.underlying3 (eqf_int (by decide) k3 rfl rfl Tryd.underlying3 (eqf_int (by decide) k33 rfl rfl Tryd.underlying23 eqf_done)))))
theorem neq_in (W : World) (x y : In) : (binOp .neq 25 (inVal x) (inVal y)).run Tryd.prog W = .ok (.bool (!(decide (x = y)))) W := by
  rw [run_neq_struct, eq_fields_in]
  rfl
theorem eql_in (W : World) (x y : In) : (binOp .eql 25 (inVal x) (inVal y)).run Tryd.prog W = .ok (.bool (decide (x = y))) W := by
  rw [run_eql_struct, eq_fields_in]
  rfl
end Go.Proofs.Sat
