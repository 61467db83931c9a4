/- Plain laws of Parse, ParseInt and lists. -/
import Derived.Test.YtiepphjpfjfkmaaGreatDoorDgP
import Derived.Test.YtiepphjpfjfkmaaGreatDoorDgJ
import Derived.Test.YtiepphjpfjfkmaaGreatDoorDgN
set_option linter.unusedVariables false
set_option linter.unusedSimpArgs false
namespace Go.Proofs.Sat
open Go
theorem dec_range {c : UInt8} (h : 0 ≤ digI 10 c.toNat) : 48 ≤ c.toNat ∧ c.toNat ≤ 57 := by
  have := digI10 h
  omega
theorem dec_no {x : Nat} {c : UInt8} (hc : ¬ (48 ≤ c.toNat ∧ c.toNat ≤ 57)) : c ∉ wrL 10 x := fun h => hc (dec_range (wrL_digits (.inl rfl) x c h))
theorem parP_dec (x : Nat) : parP (wrL 10 x) = false := by
  unfold parP Lib.hasPrefix
  match h : wrL 10 x with
  | [] => rfl
  | [a] => simp [List.isPrefixOf]
  | a :: b :: r =>
    have hb : b ≠ 120 := fun e => dec_no (x := x) (c := 120) (by decide) (by rw [h, e]; simp)
    have hb2 : ((120 : UInt8) == b) = false := by rw [beq_eq_false_iff_ne]; exact fun e => hb e.symm
    simp [List.isPrefixOf, hb2]
theorem parse_dec {x : Nat} (hx : x < 18446744073709551616) : parE (wrL 10 x) = 0 ∧ parV (wrL 10 x) = x := by
  have hv := wrL_val (b := 10) (.inl rfl) x
  have hg := wrL_good (b := 10) (.inl rfl) x
  have h := numE_ok hg (by rw [hv]; exact hx)
  unfold parE parV
  rw [parP_dec]
  exact ⟨h.1, by rw [if_neg (by simp), h.2, hv]⟩
theorem parse_hex {x : Nat} (hx : x < 18446744073709551616) : parE (hexL x) = 0 ∧ parV (hexL x) = x := by
  have hv := wrL_val (b := 16) (.inr rfl) x
  have hg := wrL_good (b := 16) (.inr rfl) x
  have h := numE_ok hg (by rw [hv]; exact hx)
  have hp : parP (hexL x) = true := by unfold parP Lib.hasPrefix hexL; simp [List.isPrefixOf]
  unfold parE parV
  rw [hp, if_pos rfl, if_pos rfl]
  show numE 16 (wrL 16 x) = 0 ∧ numV 16 (wrL 16 x) = x
  exact ⟨h.1, by rw [h.2, hv]⟩
theorem numE_zero {b : Nat} {l : List UInt8} (h : numE b l = 0) : badL b l = false ∧ valL b l < 18446744073709551616 ∧ numV b l = valL b l := by
  have h2 := numV_val h
  unfold numE at h
  split at h
  · cases h
  · rename_i hb
    split at h
    · cases h
    · exact ⟨by simpa using hb, by omega, h2⟩
/-- An accepted text is a numeral of its number. -/
theorem parse_back {l : List UInt8} (h : parE l = 0) : wrL 10 (parV l) = l ∨ hexL (parV l) = l := by
  unfold parE at h
  unfold parV
  cases hp : parP l
  · rw [hp] at h
    obtain ⟨h1, h2, h3⟩ := numE_zero (b := 10) (l := l) (by simpa using h)
    left
    rw [if_neg (by simp), h3]
    exact good_wrL (.inl rfl) l.length l (Nat.le_refl _) h1
  · rw [hp, if_pos rfl] at h
    obtain ⟨h1, h2, h3⟩ := numE_zero h
    right
    rw [if_pos rfl, h3]
    unfold hexL
    rw [good_wrL (.inr rfl) _ (l.drop 2) (Nat.le_refl _) h1]
    unfold parP Lib.hasPrefix at hp
    match l, hp with
    | a :: b :: r, hp =>
      simp [List.isPrefixOf] at hp
      obtain ⟨rfl, rfl⟩ := hp
      rfl
theorem itoa_pos {n : Int} (h : 0 ≤ n) : Lib.itoa n = wrL 10 n.toNat := by unfold Lib.itoa; rw [if_neg (by omega), dec_eq]
theorem itoa_neg {n : Int} (h : n < 0) : Lib.itoa n = 45 :: wrL 10 n.natAbs := by unfold Lib.itoa; rw [if_pos h, dec_eq]
theorem head_dec (x : Nat) : (wrL 10 x).head? ≠ some 45 := fun h => by
  cases hw : wrL 10 x with
  | nil => rw [hw] at h; cases h
  | cons a r =>
    rw [hw] at h
    simp at h
    exact dec_no (x := x) (c := 45) (by decide) (by rw [hw, h]; simp)
theorem int_back {n : Int} (h0 : -9223372036854775808 ≤ n) (h1 : n ≤ 9223372036854775807) : pinE (Lib.itoa n) = 0 ∧ pinV (Lib.itoa n) = n := by
  rcases Int.lt_or_le n 0 with h | h
  · have hv := wrL_val (b := 10) (.inl rfl) n.natAbs
    have hg := wrL_good (b := 10) (.inl rfl) n.natAbs
    have hE := numE_ok hg (by rw [hv]; omega)
    rw [itoa_neg h]
    have he : pinE (45 :: wrL 10 n.natAbs) = 0 := by
      unfold pinE
      rw [if_pos (by simp), List.tail_cons, if_pos hE.1, hv, if_neg (by omega), if_neg (by omega)]
    refine ⟨he, ?_⟩
    unfold pinV
    rw [if_pos he, if_pos (by simp), List.tail_cons, hv]
    omega
  · have hv := wrL_val (b := 10) (.inl rfl) n.toNat
    have hg := wrL_good (b := 10) (.inl rfl) n.toNat
    have hE := numE_ok hg (by rw [hv]; omega)
    rw [itoa_pos h]
    have he : pinE (wrL 10 n.toNat) = 0 := by
      unfold pinE
      rw [if_neg (head_dec _), if_pos hE.1, hv, if_neg (by omega)]
    refine ⟨he, ?_⟩
    unfold pinV
    rw [if_pos he, if_neg (head_dec _), hv]
    omega
theorem int_text {l : List UInt8} (h : pinE l = 0) : Lib.itoa (pinV l) = l ∧ -9223372036854775808 ≤ pinV l ∧ pinV l ≤ 9223372036854775807 := by
  have hV : pinV l = if l.head? = some 45 then -(valL 10 l.tail : Int) else (valL 10 l : Int) := by unfold pinV; rw [if_pos h]
  unfold pinE at h
  by_cases hm : l.head? = some 45
  · rw [if_pos hm] at h hV
    have hl := minus_form hm
    by_cases hE : numE 10 l.tail = 0
    · rw [if_pos hE] at h
      obtain ⟨h1, h2, h3⟩ := numE_zero hE
      split at h
      · cases h
      · rename_i h4
        split at h
        · cases h
        · rename_i h5
          rw [hV]
          refine ⟨?_, by omega, by omega⟩
          rw [itoa_neg (by omega)]
          conv => rhs; rw [hl]
          congr 1
          rw [Int.natAbs_neg, Int.natAbs_natCast]
          exact good_wrL (.inl rfl) _ _ (Nat.le_refl _) h1
    · rw [if_neg hE] at h
      exact absurd h hE
  · rw [if_neg hm] at h hV
    by_cases hE : numE 10 l = 0
    · rw [if_pos hE] at h
      obtain ⟨h1, h2, h3⟩ := numE_zero hE
      split at h
      · cases h
      · rename_i h5
        rw [hV]
        refine ⟨?_, by omega, by omega⟩
        rw [itoa_pos (by omega), Int.toNat_natCast]
        exact good_wrL (.inl rfl) _ _ (Nat.le_refl _) h1
    · rw [if_neg hE] at h
      exact absurd h hE
theorem itoa_ne (n : Int) : Lib.itoa n ≠ [] := by
  rcases Int.lt_or_le n 0 with h | h
  · rw [itoa_neg h]; simp
  · rw [itoa_pos h]; exact wrL_ne _ _
theorem itoa_no32 (n : Int) : (32 : UInt8) ∉ Lib.itoa n := by
  rcases Int.lt_or_le n 0 with h | h
  · rw [itoa_neg h, List.mem_cons]
    rintro (h | h)
    · cases h
    · exact dec_no (by decide) h
  · rw [itoa_pos h]; exact dec_no (by decide)
theorem spl_cut {s : UInt8} {p : List UInt8} (h : s ∉ p) (q : List UInt8) : spl s (p ++ s :: q) = p :: spl s q := by
  induction p with
  | nil => conv => lhs; unfold spl
           simp
  | cons c r ih =>
    rw [List.mem_cons] at h
    rw [List.cons_append]
    conv => lhs; unfold spl
    rw [if_neg (fun e => h (.inl e.symm)), ih (fun e => h (.inr e))]
    simp [glue]
theorem spl_whole {s : UInt8} {p : List UInt8} (h : s ∉ p) : spl s p = [p] := spl_none (fun k hk => h (List.mem_of_getElem? hk))
theorem spl_join (l : List (List UInt8)) (hl : l ≠ []) (h : ∀ p ∈ l, (32 : UInt8) ∉ p) : spl 32 (Lib.join l [32]) = l := by
  cases l with
  | nil => exact absurd rfl hl
  | cons p r =>
    rw [Lib.join_cons]
    clear hl
    induction r generalizing p with
    | nil => simp [Lib.joinTail]; exact spl_whole (h p (by simp))
    | cons q r ih =>
      have e : p ++ Lib.joinTail [32] (q :: r) = p ++ 32 :: (q ++ Lib.joinTail [32] r) := by simp [Lib.joinTail]
      rw [e, spl_cut (h p (by simp)), ih q (fun p' hp' => h p' (List.mem_cons_of_mem _ hp'))]
theorem join_spl (l : List UInt8) : Lib.join (spl 32 l) [32] = l := by
  induction l with
  | nil => rfl
  | cons c r ih =>
    conv => lhs; unfold spl
    cases hs : spl 32 r with
    | nil => exact absurd hs (spl_ne _ _)
    | cons a b =>
      rw [hs, Lib.join_cons] at ih
      by_cases hc : c = 32
      · rw [if_pos hc, Lib.join_cons, hc]
        simp [Lib.joinTail] at ih ⊢
        exact ih
      · rw [if_neg hc]
        simp only [glue]
        rw [Lib.join_cons, ← ih]
        simp
theorem joinW_ne {l : List Int} (h : l ≠ []) : joinW l ≠ [] := by
  cases l with
  | nil => exact absurd rfl h
  | cons x r =>
    unfold joinW
    rw [List.map_cons, Lib.join_cons]
    exact fun e => itoa_ne x (List.append_eq_nil_iff.1 e).1
theorem plE_all {l : List (List UInt8)} (h : ∀ p ∈ l, pinE p = 0) : plE l = 0 := by
  have := plE_done h []
  rwa [List.append_nil] at this
theorem list_back {l : List Int} (h : IntsOK l) : plErr (joinW l) = 0 ∧ plV (joinW l) = l := by
  by_cases hl : l = []
  · subst hl; exact ⟨rfl, rfl⟩
  · have hs : spl 32 (joinW l) = l.map Lib.itoa := spl_join _ (by simpa using hl) (fun p hp => by
      obtain ⟨x, _, rfl⟩ := List.mem_map.1 hp
      exact itoa_no32 x)
    have hE : ∀ p ∈ l.map Lib.itoa, pinE p = 0 := fun p hp => by
      obtain ⟨x, hx, rfl⟩ := List.mem_map.1 hp
      exact (int_back (h x hx).1 (h x hx).2).1
    unfold plErr plV
    rw [if_neg (joinW_ne hl), if_neg (joinW_ne hl), hs, plE_all hE, if_pos rfl]
    refine ⟨rfl, ?_⟩
    rw [List.map_map]
    conv => rhs; rw [← List.map_id l]
    exact List.map_congr_left fun x hx => (int_back (h x hx).1 (h x hx).2).2
theorem plE_zero {l : List (List UInt8)} (h : plE l = 0) : ∀ p ∈ l, pinE p = 0 := by
  induction l with
  | nil => simp
  | cons p r ih =>
    unfold plE at h
    by_cases hp : pinE p = 0
    · rw [if_pos hp] at h
      intro q hq
      rcases List.mem_cons.1 hq with rfl | hq
      · exact hp
      · exact ih h q hq
    · rw [if_neg hp] at h
      exact absurd h hp
theorem list_text {s : List UInt8} (h : plErr s = 0) : joinW (plV s) = s ∧ IntsOK (plV s) ∧ (plV s).length ≤ s.length + 1 := by
  by_cases hs : s = []
  · subst hs; exact ⟨rfl, fun x hx => (by cases hx), by decide⟩
  · unfold plErr at h
    rw [if_neg hs] at h
    have hE := plE_zero h
    have hV : plV s = (spl 32 s).map pinV := by unfold plV; rw [if_neg hs, if_pos h]
    rw [hV]
    refine ⟨?_, ?_, ?_⟩
    · unfold joinW
      rw [List.map_map]
      have : (spl 32 s).map (Lib.itoa ∘ pinV) = spl 32 s := by
        conv => rhs; rw [← List.map_id (spl 32 s)]
        exact List.map_congr_left fun p hp => (int_text (hE p hp)).1
      rw [this, join_spl]
    · intro x hx
      obtain ⟨p, hp, rfl⟩ := List.mem_map.1 hx
      exact (int_text (hE p hp)).2
    · rw [List.length_map]
      exact spl_len 32 s
end Go.Proofs.Sat
