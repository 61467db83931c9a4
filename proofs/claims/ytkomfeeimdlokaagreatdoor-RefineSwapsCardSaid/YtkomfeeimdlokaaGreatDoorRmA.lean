/- Plain laws of refinement: every state is as good as one of those that are tried. -/
import Derived.Test.YtkomfeeimdlokaaGreatDoorLiP
import Derived.Test.YtkomfeeimdlokaaGreatDoorRgE
import Derived.Test.YtkomfeeimdlokaaGreatDoorRlE
set_option linter.unusedVariables false
set_option linter.unusedSimpArgs false
namespace Go.Proofs.Sat
open Go Go.RowKit
theorem fold_out (n x : Nat) : ∀ (L : List Int) (j : Nat) (s : Nat → Nat) (q : Nat), (∀ r ∈ L, r.toNat ≠ q) → stFold n x j L s q = s q
  | [], _, _, _, _ => rfl
  | r :: L, j, s, q, h => by
    show stFold n x (j + 1) L (updN s r.toNat (x / 2 ^ (j * n) % 2 ^ n)) q = s q
    rw [fold_out n x L (j + 1) _ q (fun r' h' => h r' (List.mem_cons_of_mem _ h'))]
    unfold updN
    rw [if_neg (fun e => h r (List.mem_cons_self ..) e.symm)]
theorem fold_at (n x : Nat) : ∀ (L : List Int) (j : Nat) (s : Nat → Nat) (_ : L.Pairwise (· < ·)) (_ : ∀ r ∈ L, 0 ≤ r) (k : Nat) (hk : k < L.length), stFold n x j L s L[k].toNat = x / 2 ^ ((j + k) * n) % 2 ^ n
  | [], _, _, _, _, k, hk => by simp at hk
  | r :: L, j, s, hp, h0, 0, hk => by
    show stFold n x (j + 1) L (updN s r.toNat (x / 2 ^ (j * n) % 2 ^ n)) r.toNat = x / 2 ^ ((j + 0) * n) % 2 ^ n
    rw [fold_out n x L (j + 1) _ r.toNat (fun r' h' => by
      have h1 := (List.pairwise_cons.1 hp).1 r' h'
      have h2 := h0 r (List.mem_cons_self ..)
      omega)]
    unfold updN
    rw [if_pos rfl, Nat.add_zero]
  | r :: L, j, s, hp, h0, k + 1, hk => by
    have hk' : k < L.length := by simpa using hk
    show stFold n x (j + 1) L (updN s r.toNat (x / 2 ^ (j * n) % 2 ^ n)) (L[k]'hk').toNat = x / 2 ^ ((j + (k + 1)) * n) % 2 ^ n
    rw [fold_at n x L (j + 1) _ (List.pairwise_cons.1 hp).2 (fun r' h' => h0 r' (List.mem_cons_of_mem _ h')) k (by simpa using hk)]
    rw [show j + 1 + k = j + (k + 1) by omega]
/-- Any values have a number. -/
theorem enc (n : Nat) (v : Nat → Nat) : ∀ (L : List Int) (_ : ∀ r ∈ L, v r.toNat < 2 ^ n), ∃ x, x < 2 ^ (n * L.length) ∧ ∀ k (hk : k < L.length), x / 2 ^ (k * n) % 2 ^ n = v L[k].toNat
  | [], _ => ⟨0, by simp, fun k hk => by simp at hk⟩
  | r :: L, h => by
    obtain ⟨x, hx, hv⟩ := enc n v L (fun r' h' => h r' (List.mem_cons_of_mem _ h'))
    have hr := h r (List.mem_cons_self ..)
    have hp : 0 < 2 ^ n := Nat.two_pow_pos n
    refine ⟨v r.toNat + 2 ^ n * x, ?_, fun k hk => ?_⟩
    · rw [show n * (r :: L).length = n + n * L.length by simp [Nat.mul_add, Nat.add_comm], Nat.pow_add]
      have h1 : 2 ^ n * (x + 1) ≤ 2 ^ n * 2 ^ (n * L.length) := Nat.mul_le_mul (Nat.le_refl _) hx
      rw [Nat.mul_add, Nat.mul_one] at h1
      omega
    · cases k with
      | zero =>
        show (v r.toNat + 2 ^ n * x) / 2 ^ (0 * n) % 2 ^ n = v r.toNat
        rw [Nat.zero_mul, Nat.pow_zero, Nat.div_one, Nat.add_mul_mod_self_left, Nat.mod_eq_of_lt hr]
      | succ k =>
        have hk' : k < L.length := by simpa using hk
        show (v r.toNat + 2 ^ n * x) / 2 ^ ((k + 1) * n) % 2 ^ n = v (L[k]'hk').toNat
        rw [Nat.add_mul, Nat.one_mul, Nat.add_comm (k * n) n, Nat.pow_add, ← Nat.div_div_eq_div_mul, Nat.add_mul_div_left _ _ hp, Nat.div_eq_of_lt hr, Nat.zero_add]
        exact hv k (by simpa using hk)
/-! ### Runs that agree -/
theorem runs_agree {c : Cd} (h : CdOK c) {l l' : List Int} (ha : ∀ r ∈ inpL c, cutL c.width.toNat l r.toNat = cutL c.width.toNat l' r.toNat) (hr : (finR c l).2 = true) : (finR c l').2 = true ∧ ∀ r ∈ c.out, (finR c l).1 r.toNat = (finR c l').1 r.toNat := by
  have hk := run_agr (n := c.width.toNat) c.out c.ins h.ins (cutL c.width.toNat l) (cutL c.width.toNat l') (fun k hlive => by
    have hlt := stateR_lt h c.ins h.ins k hlive
    have h8 := h.r2
    have hm : (k : Int) ∈ inpL c := by
      rw [inpL_ok h]
      exact (mem_regsK _ _ _).2 ⟨by omega, by omega, by rw [Int.toNat_natCast]; exact hlive⟩
    have := ha _ hm
    rwa [Int.toNat_natCast] at this) hr
  refine ⟨hk.1, fun r hr => ?_⟩
  have h0 := (h.out r hr).1
  exact hk.2 _ (decide_eq_true (by rw [Int.toNat_of_nonneg h0]; exact hr))
theorem errR_of {c : Cd} (h : cdErr c = 0) (l : List Int) : errR c l = if (finR c l).2 = true then 0 else 17 := by unfold errR; rw [if_neg (not_not_intro h)]
theorem errR_iff {c : Cd} (h : cdErr c = 0) (l : List Int) : errR c l = 0 ↔ (finR c l).2 = true := by
  rw [errR_of h]
  by_cases hf : (finR c l).2 = true
  · rw [if_pos hf]; simp [hf]
  · rw [if_neg hf]; simp [hf]
theorem outs_eq {c : Cd} {l : List Int} (h : errR c l = 0) : outsL c l = c.out.map (fun r => ((finR c l).1 r.toNat : Int)) := by unfold outsL; rw [if_pos h]
theorem same_runs {c : Cd} (h : CdOK c) {l l' : List Int} (ha : ∀ r ∈ inpL c, cutL c.width.toNat l r.toNat = cutL c.width.toNat l' r.toNat) : errR c l = errR c l' ∧ outsL c l = outsL c l' := by
  have he := err_of_ok h
  by_cases hr : (finR c l).2 = true
  · obtain ⟨h1, h2⟩ := runs_agree h ha hr
    have e1 := (errR_iff he l).2 hr
    have e2 := (errR_iff he l').2 h1
    refine ⟨e1.trans e2.symm, ?_⟩
    rw [outs_eq e1, outs_eq e2]
    exact List.map_congr_left fun r hr => by rw [h2 r hr]
  · have hr' : ¬ (finR c l').2 = true := fun hh => hr (runs_agree h (fun r hr => (ha r hr).symm) hh).1
    have e1 : errR c l ≠ 0 := fun hh => hr ((errR_iff he l).1 hh)
    have e2 : errR c l' ≠ 0 := fun hh => hr' ((errR_iff he l').1 hh)
    refine ⟨?_, ?_⟩
    · rw [errR_of he, errR_of he, if_neg hr, if_neg hr']
    · unfold outsL; rw [if_neg e1, if_neg e2]
/-! ### The states that are tried are enough -/
structure Pair (c d : Cd) : Prop where
  kc : CdOK c
  kd : CdOK d
  w : c.width = d.width
  r : c.regs = d.regs
  o : c.out = d.out
theorem pair_of {c d : Cd} (h : cmpErr c d = 0) : Pair c d := by
  unfold cmpErr at h
  by_cases h1 : cdErr c = 0
  · rw [if_neg (not_not_intro h1)] at h
    by_cases h2 : cdErr d = 0
    · rw [if_neg (not_not_intro h2)] at h
      by_cases h3 : c.width ≠ d.width ∨ c.regs ≠ d.regs ∨ c.out ≠ d.out
      · rw [if_pos h3] at h; cases h
      · exact ⟨cd_ok h1, cd_ok h2, Decidable.byContradiction fun hh => h3 (.inl hh), Decidable.byContradiction fun hh => h3 (.inr (.inl hh)), Decidable.byContradiction fun hh => h3 (.inr (.inr hh))⟩
    · rw [if_pos h2] at h; exact absurd h h2
  · rw [if_pos h1] at h; exact absurd h h1
theorem cmp_of {c d : Cd} (h : Pair c d) : cmpErr c d = 0 := by
  unfold cmpErr
  rw [if_neg (not_not_intro (err_of_ok h.kc)), if_neg (not_not_intro (err_of_ok h.kd)), if_neg]
  rintro (hh | hh | hh)
  · exact hh h.w
  · exact hh h.r
  · exact hh h.o
theorem sts_cmp {c d : Cd} (h : stsErr c d = 0) : cmpErr c d = 0 := by
  unfold stsErr at h
  by_cases h1 : cmpErr c d = 0
  · exact h1
  · rw [if_pos h1] at h; exact absurd h h1
theorem inp2_mem {c d : Cd} (h : Pair c d) {r : Int} (hr : r ∈ inp2 c d) : 0 ≤ r ∧ r < c.regs := by
  unfold inp2 at hr
  rw [mem_ofL, List.mem_append] at hr
  rcases hr with hr | hr
  · exact inpL_mem h.kc hr
  · have := inpL_mem h.kd hr
    rw [h.r]; exact this
/-- A tried state that agrees with a given one at the inputs. -/
theorem tried {c d : Cd} (hs : stsErr c d = 0) (l : List Int) : ∃ i, i < stsN c d ∧ ∀ r ∈ inp2 c d, cutL c.width.toNat l r.toNat = cutL c.width.toNat (chkSt c d i) r.toNat := by
  have hp := pair_of (sts_cmp hs)
  have hL : stsL c d = inp2 c d := by unfold stsL; rw [if_pos hs]
  have hN : stsN c d = 2 ^ (c.width.toNat * (inp2 c d).length) := by unfold stsN; rw [if_pos hs]
  obtain ⟨n, hn⟩ := Int.eq_ofNat_of_zero_le (show 0 ≤ c.width by have := hp.kc.w1; omega)
  obtain ⟨R, hR⟩ := Int.eq_ofNat_of_zero_le (show 0 ≤ c.regs by have := hp.kc.r1; omega)
  have hn1 : 1 ≤ n := by have := hp.kc.w1; omega
  have hn2 : n ≤ 64 := by have := hp.kc.w2; omega
  have hR8 : R ≤ 8 := by have := hp.kc.r2; omega
  have hmem : ∀ r ∈ inp2 c d, 0 ≤ r ∧ r < (R : Int) := fun r hr => by have := inp2_mem hp hr; omega
  have hss : (inp2 c d).Pairwise (· < ·) := ss_ofL _
  have h16 : n * (inp2 c d).length ≤ 16 := by
    unfold stsErr at hs
    rw [if_neg (not_not_intro (sts_cmp (by unfold stsErr; exact hs)))] at hs
    by_cases hh : 16 < c.width * ((inp2 c d).length : Int)
    · rw [if_pos hh] at hs; cases hs
    · rw [hn] at hh
      have : ((n * (inp2 c d).length : Nat) : Int) ≤ 16 := by rw [Int.natCast_mul]; omega
      omega
  rw [hn, Int.toNat_natCast] at hN ⊢
  obtain ⟨i, hi, hv⟩ := enc n (cutL n l) (inp2 c d) (fun r hr => cutL_lt n l _)
  refine ⟨i, by rw [hN]; exact hi, fun r hr => ?_⟩
  obtain ⟨k, hk, rfl⟩ := List.getElem_of_mem hr
  have hown : ownE R (inp2 c d) = inp2 c d := by
    unfold ownE
    rw [List.filter_eq_self]
    intro r hr
    have := hmem r hr
    simp; omega
  have hwid : widE (n : Int) = n := by unfold widE; omega
  have hnum : numE (R : Int) = R := by unfold numE; omega
  have hlen8 : (inp2 c d).length ≤ 16 := inp2_length c d
  have hlen : (inp2 c d).length < 16 ∨ n * (inp2 c d).length = 16 := by
    rcases Nat.lt_or_ge (inp2 c d).length 16 with h | h
    · exact .inl h
    · right
      have : n * 16 ≤ n * (inp2 c d).length := Nat.mul_le_mul (Nat.le_refl _) h
      omega
  have hbits : bitsE n (inp2 c d).length = n * (inp2 c d).length := by
    unfold bitsE
    split <;> omega
  have hpow : 2 ^ (n * (inp2 c d).length) ≤ 65536 := by
    have := Nat.pow_le_pow_right (show 0 < 2 by omega) h16
    simpa using this
  have hidx : idxE (n * (inp2 c d).length) (i : Int) = i := by
    unfold idxE
    rw [show ((i : Int) % 18446744073709551616).toNat = i by omega, Nat.mod_eq_of_lt hi]
  have hst : stateE (inp2 c d) (n : Int) (R : Int) (i : Int) (inp2 c d)[k].toNat = cutL n l (inp2 c d)[k].toNat := by
    unfold stateE
    rw [hwid, hnum, hown, hbits, hidx, fold_at n i _ 0 _ hss (fun r hr => (hmem r hr).1) k hk, Nat.zero_add]
    exact hv k hk
  have hkr := hmem _ (List.getElem_mem hk)
  unfold chkSt
  rw [hL, hn, hR, hnum]
  show _ = (((stL R (stateE (inp2 c d) (n : Int) (R : Int) (i : Int))).getD (inp2 c d)[k].toNat 0).toNat % 2 ^ n)
  rw [List.getD_eq_getElem?_getD, List.getElem?_eq_getElem (by rw [stL_length]; omega), Option.getD_some, stL_get _ _ (by omega), Int.toNat_natCast, hst]
  exact (Nat.mod_eq_of_lt (cutL_lt n l _)).symm
theorem shows_same {c d : Cd} (hp : Pair c d) {l l' : List Int} (h : ∀ r ∈ inp2 c d, cutL c.width.toNat l r.toNat = cutL c.width.toNat l' r.toNat) : showsB c d l = showsB c d l' := by
  have hc := same_runs hp.kc (l := l) (l' := l') (fun r hr => h r (by unfold inp2; rw [mem_ofL]; exact List.mem_append_left _ hr))
  have hd := same_runs hp.kd (l := l) (l' := l') (fun r hr => by rw [← hp.w]; exact h r (by unfold inp2; rw [mem_ofL]; exact List.mem_append_right _ hr))
  unfold showsB
  rw [hc.1, hc.2, hd.1, hd.2]
theorem chkB_iff {c d : Cd} (hs : stsErr c d = 0) : chkB c d = true ↔ ∀ l, showsB c d l = false := by
  constructor
  · intro h l
    obtain ⟨i, hi, hv⟩ := tried hs l
    rw [shows_same (pair_of (sts_cmp hs)) hv]
    unfold chkB at h
    have h2 := (Bool.and_eq_true_iff.1 h).2
    rw [Option.isNone_iff_eq_none] at h2
    unfold chkK at h2
    have h3 := List.find?_eq_none.1 h2 i (List.mem_range.2 hi)
    show chkBad c d i = false
    simpa using h3
  · intro h
    unfold chkB
    rw [decide_eq_true hs, chkK_none (fun j hj => h _)]
    rfl
theorem shows_iff {c d : Cd} {l : List Int} : showsB c d l = false ↔ (errR c l = 0 → errR d l = 0 ∧ outsL c l = outsL d l) := by
  unfold showsB
  by_cases h1 : errR c l = 0 <;> by_cases h2 : errR d l = 0 <;> by_cases h3 : outsL c l = outsL d l <;> simp [h1, h2, h3]
/-- Reflexive. -/
theorem chk_self {c : Cd} (hs : stsErr c c = 0) : chkB c c = true := (chkB_iff hs).2 fun l => shows_iff.2 fun h => ⟨h, rfl⟩
/-- Transitive. -/
theorem chk_trans {a b c : Cd} (h1 : stsErr a b = 0) (h2 : stsErr b c = 0) (h3 : stsErr a c = 0) (hab : chkB a b = true) (hbc : chkB b c = true) : chkB a c = true :=
  (chkB_iff h3).2 fun l => shows_iff.2 fun h => by
    obtain ⟨e1, o1⟩ := shows_iff.1 ((chkB_iff h1).1 hab l) h
    obtain ⟨e2, o2⟩ := shows_iff.1 ((chkB_iff h2).1 hbc l) e1
    exact ⟨e2, o1.trans o2⟩
end Go.Proofs.Sat
