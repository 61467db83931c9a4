/- List of the reference and of package digits. -/
import Derived.Test.YtiepphjpfjfkmaaGreatDoorDgJ
set_option linter.unusedVariables false
set_option linter.unusedSimpArgs false
namespace Go.Proofs.Sat
open Go Go.RowKit
theorem infoStr : ElemInfo Tryz.prog 51 9 (.string { data := #[] }) 1 16 := ⟨Tryz.underlying51, by kernel_rfl, rfl, by decide⟩
/-- The numerals, separated by spaces. -/
def joinW (l : List Int) : List UInt8 := Lib.join (l.map Lib.itoa) [32]
theorem joinW_nil : joinW [] = [] := rfl
theorem joinW_one (x : Int) : joinW [x] = Lib.itoa x := Lib.join_one _ _
theorem joinW_snoc {l : List Int} (h : l ≠ []) (x : Int) : joinW (l ++ [x]) = (joinW l ++ [32]) ++ Lib.itoa x := by
  cases l with
  | nil => exact absurd rfl h
  | cons y r =>
    unfold joinW
    simp [Lib.join_cons, Lib.joinTail]
abbrev IntsOK (l : List Int) : Prop := ∀ x ∈ l, -9223372036854775808 ≤ x ∧ x ≤ 9223372036854775807
theorem itoa_len {x : Int} (h : -9223372036854775808 ≤ x ∧ x ≤ 9223372036854775807) : (Lib.itoa x).length ≤ 66 := by
  unfold Lib.itoa
  split
  · rw [List.length_cons, dec_eq]
    have := wr_len64 (b := 10) (x := x.natAbs) (by omega) (by omega)
    omega
  · rw [dec_eq]
    have := wr_len64 (b := 10) (x := x.toNat) (by omega) (by omega)
    omega
theorem joinW_len {l : List Int} (h : IntsOK l) : (joinW l).length ≤ 67 * l.length := by
  have key : ∀ (r : List Int), IntsOK r → (Lib.joinTail [32] (r.map Lib.itoa)).length ≤ 67 * r.length := by
    intro r
    induction r with
    | nil => intro _; simp [Lib.joinTail]
    | cons x r ih =>
      intro hr
      have h1 := ih (fun y hy => hr y (by simp [hy]))
      have h2 := itoa_len (hr x (by simp))
      simp [Lib.joinTail] at h1 ⊢
      omega
  cases l with
  | nil => simp [joinW_nil]
  | cons x r =>
    have h1 := key r (fun y hy => h y (by simp [hy]))
    have h2 := itoa_len (h x (by simp))
    unfold joinW
    rw [List.map_cons, Lib.join_cons, List.length_append, List.length_cons]
    omega
end Go.Proofs.Sat
