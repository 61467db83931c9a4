/- Plain words for Depth. -/
import Derived.Test.YtgjdpjefoaohkaaDoorPrN0
set_option linter.unusedVariables false
set_option linter.unusedSimpArgs false
namespace Go.Proofs.Sat
open Go Go.RowKit
/-- The greatest depth among Refs. -/
def maxD (acc : List Int) (refs : List Int) : Int := refs.foldl (fun n r => max n (acc.getD r.toNat 0)) 0
/-- The depths of the first n steps. -/
def deepN (l : List St) : Nat → List Int
  | 0 => []
  | n + 1 => deepN l n ++ [maxD (deepN l n) ((l[n]?.map (·.refs)).getD []) + 1]
def depthOf (l : List St) : Int := if (chk l).2 = 0 then (deepN l l.length).getD (l.length - 1) 0 else 0
theorem deepN_succ (l : List St) {n : Nat} (h : n < l.length) : deepN l (n + 1) = deepN l n ++ [maxD (deepN l n) l[n].refs + 1] := by
  show deepN l n ++ [maxD (deepN l n) ((l[n]?.map (·.refs)).getD []) + 1] = _
  rw [List.getElem?_eq_getElem h]
  rfl
theorem deepN_length (l : List St) (n : Nat) : (deepN l n).length = n := by
  induction n with
  | zero => rfl
  | succ n ih => simp [deepN, ih]
theorem maxD_bound (acc : List Int) (B : Int) (hB : 0 ≤ B) (h : ∀ x ∈ acc, x ≤ B) (refs : List Int) : 0 ≤ maxD acc refs ∧ maxD acc refs ≤ B := by
  unfold maxD
  suffices H : ∀ n0 : Int, 0 ≤ n0 → n0 ≤ B → 0 ≤ refs.foldl (fun n r => max n (acc.getD r.toNat 0)) n0 ∧ refs.foldl (fun n r => max n (acc.getD r.toNat 0)) n0 ≤ B from H 0 (by omega) hB
  induction refs with
  | nil => intro n0 h0 h1; exact ⟨h0, h1⟩
  | cons r refs ih =>
    intro n0 h0 h1
    refine ih (max n0 (acc.getD r.toNat 0)) (by omega) ?_
    have : acc.getD r.toNat 0 ≤ B := by
      rw [List.getD_eq_getElem?_getD]
      cases hq : acc[r.toNat]? with
      | none => simpa using hB
      | some v => exact h v (List.mem_of_getElem? hq)
    omega
theorem deepN_bound (l : List St) (n : Nat) : ∀ x ∈ deepN l n, 1 ≤ x ∧ x ≤ n := by
  induction n with
  | zero => intro x hx; cases hx
  | succ n ih =>
    intro x hx
    rcases List.mem_append.1 hx with hx | hx
    · have := ih x hx; omega
    · rw [List.mem_singleton] at hx
      subst hx
      have := maxD_bound (deepN l n) n (by omega) (fun x hx => (ih x hx).2) ((l[n]?.map (·.refs)).getD [])
      omega
theorem deepN_at_bound (l : List St) {j : Nat} (hj : j ≤ 65536) (m : Nat) : 0 ≤ (deepN l j).getD m 0 ∧ (deepN l j).getD m 0 ≤ 65536 := by
  rw [List.getD_eq_getElem?_getD]
  cases hq : (deepN l j)[m]? with
  | none => exact ⟨by simp, by simp⟩
  | some v =>
    have := deepN_bound l j v (List.mem_of_getElem? hq)
    exact ⟨by simp; omega, by simp; omega⟩
theorem maxD_snoc (acc refs : List Int) (r : Int) : maxD acc (refs ++ [r]) = max (maxD acc refs) (acc.getD r.toNat 0) := by
  unfold maxD
  rw [List.foldl_append]
  rfl
theorem maxD_take (acc refs : List Int) {k : Nat} (hk : k < refs.length) : maxD acc (refs.take (k + 1)) = max (maxD acc (refs.take k)) (acc.getD (refs[k]).toNat 0) := by
  rw [List.take_succ_eq_append_getElem hk, maxD_snoc]
/-- What the row of depths holds in the midst of the rounds. -/
def deepRow (l : List St) (i : Nat) : List Int := deepN l i ++ List.replicate (l.length - i) 0
theorem deepRow_length (l : List St) {i : Nat} (h : i ≤ l.length) : (deepRow l i).length = l.length := by
  unfold deepRow
  rw [List.length_append, deepN_length, List.length_replicate]; omega
theorem deepRow_at (l : List St) {i j : Nat} (v : Int) (h : i ≤ l.length) (hj : j < i) : ((deepRow l i).set i v)[j]? = some ((deepN l i).getD j 0) := by
  unfold deepRow
  rw [List.getElem?_set_ne (by omega), List.getElem?_append_left (by rw [deepN_length]; exact hj), List.getD_eq_getElem?_getD, List.getElem?_eq_getElem (by rw [deepN_length]; exact hj)]
  rfl
theorem deepRow_succ (l : List St) {i : Nat} (h : i < l.length) (v : Int) (hv : v = maxD (deepN l i) l[i].refs + 1) : (deepRow l i).set i v = deepRow l (i + 1) := by
  subst hv
  unfold deepRow
  rw [deepN_succ l h, List.append_assoc, List.set_append_right _ _ (by rw [deepN_length]; omega), deepN_length, Nat.sub_self, show l.length - i = (l.length - (i + 1)) + 1 from by omega, List.replicate_succ]
  rfl
end Go.Proofs.Sat
