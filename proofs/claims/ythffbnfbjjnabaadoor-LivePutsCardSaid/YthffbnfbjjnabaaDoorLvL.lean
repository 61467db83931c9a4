/- Plain laws of dead instructions. -/
import Derived.Test.YthffbnfbjjnabaaDoorLvM
set_option linter.unusedVariables false
set_option linter.unusedSimpArgs false
namespace Go.Proofs.Sat
open Go Go.RowKit
def cd0 : Cd := ⟨0, 0, [], []⟩
/-- The instructions that are not dead. -/
def keepR (out : List Int) : List In → List In
  | [] => []
  | x :: l => if deadB (stateR out (keepR out l)) x = true then keepR out l else x :: keepR out l
theorem keepR_sub (out : List Int) : ∀ l, List.Sublist (keepR out l) l
  | [] => List.Sublist.refl _
  | x :: l => by
    unfold keepR
    split
    · exact (keepR_sub out l).cons x
    · exact (keepR_sub out l).cons_cons x
theorem keepR_drop (out : List Int) (l : List In) {k : Nat} (h : k < l.length) : keepR out (l.drop k) = if deadB (stateR out (keepR out (l.drop (k + 1)))) l[k] = true then keepR out (l.drop (k + 1)) else l[k] :: keepR out (l.drop (k + 1)) := by
  rw [List.drop_eq_getElem_cons h]
  rfl
def remC (c : Cd) : Cd := if cdErr c = 0 then { c with ins := keepR c.out c.ins } else cd0
/-- The program of which the instructions from k on are cleared. -/
def remK (c : Cd) (k : Nat) : Cd := { c with ins := c.ins.take k ++ keepR c.out (c.ins.drop k) }
theorem err_of_ok {c : Cd} (h : CdOK c) : cdErr c = 0 := by
  unfold cdErr
  rw [if_neg (not_not_intro ⟨h.w1, h.w2⟩), if_neg (not_not_intro ⟨h.r1, h.r2⟩), if_neg (by have := h.len; omega), if_neg (not_not_intro (insErrs_zero.2 h.ins)), if_neg, if_neg (not_not_intro h.dup)]
  rw [Bool.not_eq_false, List.all_eq_true]
  exact fun r hr => (inR_iff _ _).2 (h.out r hr)
theorem ok_sub {c : Cd} (h : CdOK c) {l : List In} (hl : List.Sublist l c.ins) : CdOK { c with ins := l } :=
  ⟨h.w1, h.w2, h.r1, h.r2, Nat.le_trans hl.length_le h.len, fun x hx => h.ins x (hl.subset hx), h.out, h.dup⟩
theorem remK_sub (c : Cd) (k : Nat) : List.Sublist (c.ins.take k ++ keepR c.out (c.ins.drop k)) c.ins := by
  have h := List.Sublist.append (List.Sublist.refl (c.ins.take k)) (keepR_sub c.out (c.ins.drop k))
  rwa [List.take_append_drop] at h
theorem remK_ok {c : Cd} (h : CdOK c) (k : Nat) : CdOK (remK c k) := ok_sub h (remK_sub c k)
theorem remK_top (c : Cd) : remK c c.ins.length = c := by
  unfold remK
  rw [List.take_length, List.drop_length]
  cases c
  simp [keepR]
theorem remK_zero (c : Cd) : remK c 0 = { c with ins := keepR c.out c.ins } := by unfold remK; simp
theorem remK_dead {c : Cd} (h : CdOK c) {j : Nat} (hj : j < c.ins.length) : deadL (remK c (j + 1)) j = deadB (stateR c.out (keepR c.out (c.ins.drop (j + 1)))) c.ins[j] := by
  unfold deadL
  rw [decide_eq_true ⟨err_of_ok (remK_ok h _), Int.natCast_nonneg j⟩, Int.toNat_natCast]
  have hl : (c.ins.take (j + 1)).length = j + 1 := by rw [List.length_take]; omega
  have e1 : (remK c (j + 1)).ins[j]? = some c.ins[j] := by
    show (c.ins.take (j + 1) ++ _)[j]? = _
    rw [List.getElem?_append_left (by omega), List.getElem?_take_of_lt (by omega), List.getElem?_eq_getElem hj]
  have e2 : (remK c (j + 1)).ins.drop (j + 1) = keepR c.out (c.ins.drop (j + 1)) := by
    show (c.ins.take (j + 1) ++ _).drop (j + 1) = _
    rw [List.drop_append_of_le_length (by omega), List.drop_of_length_le (by omega), List.nil_append]
  rw [e1, e2]
  rfl
theorem remK_step {c : Cd} {j : Nat} (hj : j < c.ins.length) : remK c j = if deadB (stateR c.out (keepR c.out (c.ins.drop (j + 1)))) c.ins[j] = true then wout (remK c (j + 1)) j else remK c (j + 1) := by
  have hl : (c.ins.take j).length = j := by rw [List.length_take]; omega
  have ht := List.take_succ_eq_append_getElem hj
  by_cases hd : deadB (stateR c.out (keepR c.out (c.ins.drop (j + 1)))) c.ins[j] = true
  · rw [if_pos hd]
    unfold remK wout
    congr 1
    rw [keepR_drop _ _ hj, if_pos hd, ht]
    show _ = ((c.ins.take j ++ [c.ins[j]]) ++ keepR c.out (c.ins.drop (j + 1))).eraseIdx j
    rw [List.append_assoc, List.eraseIdx_append_of_length_le (by omega), show j - (c.ins.take j).length = 0 by omega]
    rfl
  · rw [if_neg hd]
    unfold remK
    congr 1
    rw [keepR_drop _ _ hj, if_neg hd]
    show _ = c.ins.take (j + 1) ++ keepR c.out (c.ins.drop (j + 1))
    rw [ht, List.append_assoc]
    rfl
theorem remK_len (c : Cd) (k : Nat) (hk : k ≤ c.ins.length) : k ≤ (remK c k).ins.length ∧ (remK c k).ins.length ≤ c.ins.length := by
  refine ⟨?_, (remK_sub c k).length_le⟩
  show k ≤ (c.ins.take k ++ _).length
  rw [List.length_append, List.length_take]
  omega
/-- The error of Window. -/
def winErr (c : Cd) (f n : Int) : Int := if cdErr c ≠ 0 then cdErr c else if f < 0 ∨ n < 0 ∨ (c.ins.length : Int) < n ∨ (c.ins.length : Int) - n < f then 2 else 0
end Go.Proofs.Sat
