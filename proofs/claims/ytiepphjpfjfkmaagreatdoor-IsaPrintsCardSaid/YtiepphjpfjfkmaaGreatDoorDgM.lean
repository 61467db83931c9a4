/- ParseList of the reference. -/
import Derived.Test.YtiepphjpfjfkmaaGreatDoorDgK
set_option linter.unusedVariables false
set_option linter.unusedSimpArgs false
namespace Go.Proofs.Sat
open Go Go.RowKit
def glue (p : List UInt8) : List (List UInt8) → List (List UInt8)
  | [] => [p]
  | h :: t => (p ++ h) :: t
/-- The parts between single spaces. -/
def spl (s : UInt8) : List UInt8 → List (List UInt8)
  | [] => [[]]
  | c :: r => if c = s then [] :: spl s r else glue [c] (spl s r)
theorem glue_glue (p q : List UInt8) (x : List (List UInt8)) : glue p (glue q x) = glue (p ++ q) x := by cases x <;> simp [glue]
theorem glue_ne (p : List UInt8) (x : List (List UInt8)) : glue p x ≠ [] := by cases x <;> simp [glue]
theorem spl_ne (s : UInt8) (l : List UInt8) : spl s l ≠ [] := by
  cases l with
  | nil => simp [spl]
  | cons c r => unfold spl; split <;> simp [glue_ne]
theorem glue_nil {x : List (List UInt8)} (h : x ≠ []) : glue [] x = x := by cases x <;> simp_all [glue]
theorem spl_len (s : UInt8) (l : List UInt8) : (spl s l).length ≤ l.length + 1 := by
  induction l with
  | nil => simp [spl]
  | cons c r ih =>
    unfold spl
    split
    · simp; omega
    · cases h : spl s r with
      | nil => simp [glue]
      | cons a b => rw [h] at ih; simp [glue] at ih ⊢; omega
/-- The first error of a list of parts. -/
def plE : List (List UInt8) → Int
  | [] => 0
  | p :: r => if pinE p = 0 then plE r else pinE p
theorem plE_done {a : List (List UInt8)} (h : ∀ p ∈ a, pinE p = 0) (b : List (List UInt8)) : plE (a ++ b) = plE b := by
  induction a with
  | nil => rfl
  | cons p r ih =>
    rw [List.cons_append, plE, if_pos (h p (by simp))]
    exact ih (fun q hq => h q (by simp [hq]))
def plErr (l : List UInt8) : Int := if l = [] then 0 else plE (spl 32 l)
def plV (l : List UInt8) : List Int := if l = [] then [] else if plE (spl 32 l) = 0 then (spl 32 l).map pinV else []
theorem plV_bad {l : List UInt8} {done rest : List (List UInt8)} {p : List UInt8} (hne : l ≠ []) (hd : ∀ q ∈ done, pinE q = 0) (hs : spl 32 l = done ++ p :: rest) (hp : pinE p ≠ 0) : plErr l = pinE p ∧ plV l = [] := by
  have h : plE (spl 32 l) = pinE p := by rw [hs, plE_done hd, plE, if_neg hp]
  unfold plErr plV
  rw [if_neg hne, if_neg hne, h, if_neg hp]
  exact ⟨rfl, rfl⟩
theorem plV_good {l : List UInt8} {done : List (List UInt8)} (hne : l ≠ []) (hd : ∀ q ∈ done, pinE q = 0) (hs : spl 32 l = done) : plErr l = 0 ∧ plV l = done.map pinV := by
  have h : plE (spl 32 l) = 0 := by rw [hs, ← List.append_nil done, plE_done hd]; rfl
  unfold plErr plV
  rw [if_neg hne, if_neg hne, h, if_pos rfl, hs]
  exact ⟨rfl, rfl⟩
/-- Where a scan stands. -/
def PlAt (s : UInt8) (l : List UInt8) (done : List (List UInt8)) (f i : Nat) : Prop :=
  (i ≤ l.length → f ≤ i ∧ spl s l = done ++ glue ((l.drop f).take (i - f)) (spl s (l.drop i))) ∧ (i = l.length + 1 → spl s l = done)
theorem plAt_start (s : UInt8) (l : List UInt8) : PlAt s l [] 0 0 := by
  refine ⟨fun _ => ⟨Nat.le_refl _, ?_⟩, fun h => by omega⟩
  simp [glue_nil (spl_ne s l)]
theorem plAt_on {s : UInt8} {l : List UInt8} {done : List (List UInt8)} {f i : Nat} (h : PlAt s l done f i) (hi : i < l.length) (hc : l[i] ≠ s) : PlAt s l done f (i + 1) := by
  obtain ⟨hf, hs⟩ := h.1 (by omega)
  refine ⟨fun _ => ⟨by omega, ?_⟩, fun h => by omega⟩
  have e : (l.drop f).take (i + 1 - f) = (l.drop f).take (i - f) ++ [l[i]] := by
    rw [show i + 1 - f = (i - f) + 1 by omega, List.take_succ_eq_append_getElem (by rw [List.length_drop]; omega)]
    congr 2
    rw [List.getElem_drop]
    congr 1
    omega
  rw [hs, e, ← glue_glue, List.drop_eq_getElem_cons hi]
  conv => lhs; unfold spl
  rw [if_neg hc]
theorem plAt_cut {s : UInt8} {l : List UInt8} {done : List (List UInt8)} {f i : Nat} (h : PlAt s l done f i) (hi : i ≤ l.length) (hc : ∀ h : i < l.length, l[i] = s) :
    ∃ rest, spl s l = done ++ (l.drop f).take (i - f) :: rest ∧ PlAt s l (done ++ [(l.drop f).take (i - f)]) (i + 1) (i + 1) := by
  obtain ⟨hf, hs⟩ := h.1 hi
  by_cases hlt : i < l.length
  · have hd : spl s (l.drop i) = [] :: spl s (l.drop (i + 1)) := by
      rw [List.drop_eq_getElem_cons hlt]
      conv => lhs; unfold spl
      rw [if_pos (hc hlt)]
    rw [hd] at hs
    refine ⟨spl s (l.drop (i + 1)), by rw [hs]; simp [glue], fun _ => ⟨Nat.le_refl _, ?_⟩, fun h => by omega⟩
    rw [Nat.sub_self, List.take_zero, glue_nil (spl_ne s _), hs]
    simp [glue]
  · have hd : spl s (l.drop i) = [[]] := by rw [List.drop_of_length_le (by omega)]; rfl
    rw [hd] at hs
    refine ⟨[], by rw [hs]; simp [glue], fun h => by omega, fun _ => ?_⟩
    rw [hs]
    simp [glue]
end Go.Proofs.Sat
