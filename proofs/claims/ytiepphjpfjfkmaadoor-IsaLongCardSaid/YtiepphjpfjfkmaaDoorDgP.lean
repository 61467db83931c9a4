/- Plain laws of numerals: parse inverts print, and an accepted text is the text of its number. -/
import Derived.Test.YtiepphjpfjfkmaaDoorDgM
set_option linter.unusedVariables false
set_option linter.unusedSimpArgs false
namespace Go.Proofs.Sat
open Go
abbrev B1016 (b : Nat) : Prop := b = 10 ∨ b = 16
theorem digI_digC {b d : Nat} (hb : B1016 b) (h : d < b) : digI b (digC d).toNat = (d : Int) := by
  have key : ∀ d : Fin 16, digI 16 (digC d.val).toNat = (d.val : Int) := by decide +kernel
  have key10 : ∀ d : Fin 10, digI 10 (digC d.val).toNat = (d.val : Int) := by decide +kernel
  rcases hb with rfl | rfl
  · exact key10 ⟨d, h⟩
  · exact key ⟨d, h⟩
theorem digC_digI {b : Nat} (hb : B1016 b) {c : UInt8} (h : 0 ≤ digI b c.toNat) : digC (digI b c.toNat).toNat = c ∧ (digI b c.toNat).toNat < b := by
  have key : ∀ n : Fin 256, 0 ≤ digI 16 n.val → digC (digI 16 n.val).toNat = UInt8.ofNat n.val ∧ (digI 16 n.val).toNat < 16 := by decide +kernel
  have key10 : ∀ n : Fin 256, 0 ≤ digI 10 n.val → digC (digI 10 n.val).toNat = UInt8.ofNat n.val ∧ (digI 10 n.val).toNat < 10 := by decide +kernel
  have hc : UInt8.ofNat c.toNat = c := UInt8.ofNat_toNat
  rcases hb with rfl | rfl
  · have := key10 ⟨c.toNat, UInt8.toNat_lt c⟩ h
    rwa [hc] at this
  · have := key ⟨c.toNat, UInt8.toNat_lt c⟩ h
    rwa [hc] at this
theorem digC_pos {d : Nat} (h0 : 1 ≤ d) (h : d < 16) : digC d ≠ 48 := by
  have key : ∀ d : Fin 16, 1 ≤ d.val → digC d.val ≠ 48 := by decide +kernel
  exact key ⟨d, h⟩ h0
theorem b_two {b : Nat} (hb : B1016 b) : 2 ≤ b ∧ b ≤ 16 := by rcases hb with rfl | rfl <;> omega
theorem wrL_ind {b : Nat} (hb : 2 ≤ b) (P : Nat → Prop) (h1 : ∀ x, x < b → P x) (h2 : ∀ x, b ≤ x → P (x / b) → P x) (x : Nat) : P x := by
  induction x using Nat.strongRecOn with
  | _ x ih =>
    by_cases h : x < b
    · exact h1 x h
    · exact h2 x (by omega) (ih (x / b) (Nat.div_lt_self (by omega) (by omega)))
theorem wrL_digits {b : Nat} (hb : B1016 b) (x : Nat) : ∀ c ∈ wrL b x, 0 ≤ digI b c.toNat := by
  refine wrL_ind (b_two hb).1 (fun x => ∀ c ∈ wrL b x, 0 ≤ digI b c.toNat) (fun x h c hc => ?_) (fun x h ih c hc => ?_) x
  · rw [wrL_small h, List.mem_singleton] at hc
    rw [hc, digI_digC hb h]; omega
  · rw [wrL_big (b_two hb).1 h] at hc
    rcases List.mem_append.1 hc with hc | hc
    · exact ih c hc
    · rw [List.mem_singleton.1 hc, digI_digC hb (Nat.mod_lt _ (by have := b_two hb; omega))]; omega
theorem wrL_val {b : Nat} (hb : B1016 b) (x : Nat) : valL b (wrL b x) = x := by
  refine wrL_ind (b_two hb).1 (fun x => valL b (wrL b x) = x) (fun x h => ?_) (fun x h ih => ?_) x
  · rw [wrL_small h]
    unfold valL
    simp [digI_digC hb h]
  · rw [wrL_big (b_two hb).1 h, valL_snoc, ih, digI_digC hb (Nat.mod_lt _ (by have := b_two hb; omega))]
    have := Nat.div_add_mod x b
    omega
theorem wrL_ne (b x : Nat) : wrL b x ≠ [] := by unfold wrL; split <;> simp
theorem head_app {α : Type} {l m : List α} (h : l ≠ []) : (l ++ m).head? = l.head? := by cases l with
  | nil => exact absurd rfl h
  | cons a r => rfl
theorem wrL_head {b : Nat} (hb : B1016 b) (x : Nat) (hx : 1 ≤ x) : (wrL b x).head? ≠ some 48 := by
  revert hx
  refine wrL_ind (b_two hb).1 (fun x => 1 ≤ x → (wrL b x).head? ≠ some 48) (fun x h hx => ?_) (fun x h ih hx => ?_) x
  · rw [wrL_small h]
    simp
    exact digC_pos hx (by have := b_two hb; omega)
  · rw [wrL_big (b_two hb).1 h, head_app (wrL_ne _ _)]
    exact ih (Nat.div_pos h (by have := b_two hb; omega))
theorem wrL_good {b : Nat} (hb : B1016 b) (x : Nat) : badL b (wrL b x) = false := by
  unfold badL
  rw [Bool.or_eq_false_iff, Bool.or_eq_false_iff]
  refine ⟨⟨?_, ?_⟩, ?_⟩
  · cases h : wrL b x with
    | nil => exact absurd h (wrL_ne _ _)
    | cons => rfl
  · rcases Nat.eq_zero_or_pos x with rfl | hx
    · rw [wrL_small (by have := b_two hb; omega)]; simp
    · rw [decide_eq_false (wrL_head hb x hx)]; rfl
  · rw [List.any_eq_false]
    intro c hc
    have := wrL_digits hb x c hc
    simp; omega
theorem good_wrL {b : Nat} (hb : B1016 b) : ∀ (n : Nat) (l : List UInt8), l.length ≤ n → badL b l = false → wrL b (valL b l) = l
  | 0, l, h, hg => by
    have : l = [] := List.eq_nil_of_length_eq_zero (by omega)
    subst this
    cases hg
  | n + 1, l, h, hg => by
    unfold badL at hg
    rw [Bool.or_eq_false_iff, Bool.or_eq_false_iff] at hg
    obtain ⟨⟨h1, h2⟩, h3⟩ := hg
    have hne : l ≠ [] := by intro e; subst e; cases h1
    obtain ⟨m, c, rfl⟩ : ∃ m c, l = m ++ [c] := ⟨l.dropLast, l.getLast hne, (List.dropLast_concat_getLast hne).symm⟩
    have hd : ∀ d ∈ m ++ [c], 0 ≤ digI b d.toNat := fun d hdm => by
      have := List.any_eq_false.1 h3 d hdm
      simp at this
      omega
    obtain ⟨e1, e2⟩ := digC_digI hb (hd c (by simp))
    rw [valL_snoc]
    cases hm : m with
    | nil =>
      have : valL b [] = 0 := rfl
      rw [this, Nat.mul_zero, Nat.zero_add, wrL_small e2, e1]
      rfl
    | cons a r =>
      rw [← hm]
      have hmn : m ≠ [] := by rw [hm]; simp
      rw [head_app hmn] at h2
      have hl2 : 1 < (m ++ [c]).length := by rw [hm]; simp
      rw [decide_eq_true hl2, Bool.and_true] at h2
      have hgm : badL b m = false := by
        unfold badL
        rw [h2, Bool.false_and, Bool.or_false, Bool.or_eq_false_iff]
        refine ⟨by rw [hm]; rfl, ?_⟩
        rw [List.any_eq_false]
        intro d hdm
        have := hd d (by simp [hdm])
        simp; omega
      have ih := good_wrL hb n m (by rw [List.length_append, List.length_singleton] at h; omega) hgm
      have hv : 1 ≤ valL b m := by
        rcases Nat.eq_zero_or_pos (valL b m) with h0 | h0
        · rw [h0, wrL_small (by have := b_two hb; omega)] at ih
          rw [← ih] at h2
          simp [digC] at h2
        · exact h0
      have hb2 := b_two hb
      have hbig : b ≤ b * valL b m + (digI b c.toNat).toNat := by
        have := Nat.mul_le_mul (Nat.le_refl b) hv
        omega
      rw [wrL_big hb2.1 hbig]
      have hdiv : (b * valL b m + (digI b c.toNat).toNat) / b = valL b m := by
        rw [Nat.mul_add_div (by omega), Nat.div_eq_of_lt e2, Nat.add_zero]
      have hmod : (b * valL b m + (digI b c.toNat).toNat) % b = (digI b c.toNat).toNat := by
        rw [Nat.mul_add_mod, Nat.mod_eq_of_lt e2]
      rw [hdiv, hmod, ih, e1]
end Go.Proofs.Sat
