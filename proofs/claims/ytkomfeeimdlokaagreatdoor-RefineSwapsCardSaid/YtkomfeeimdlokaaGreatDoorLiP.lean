/- Plain laws of runs: what is live decides the final values, and dead instructions leave no mark. -/
import Derived.Test.YtkomfeeimdlokaaGreatDoorRaN
import Derived.Test.YtkomfeeimdlokaaGreatDoorLvE
import Derived.Test.YtkomfeeimdlokaaGreatDoorLvP
import Derived.Test.YtkomfeeimdlokaaGreatDoorLvQ4
set_option linter.unusedVariables false
set_option linter.unusedSimpArgs false
namespace Go.Proofs.Sat
open Go Go.RowKit
/-- Two states agree at the registers of a set. -/
def Agr (L : Nat → Bool) (s t : Nat → Nat) : Prop := ∀ k, L k = true → s k = t k
theorem agr_upd {L : Nat → Bool} {s t : Nat → Nat} {x : In} (hd : defsI x = true) (h0 : 0 ≤ x.dst) (h : Agr (unS L x) s t) (v : Nat) : Agr L (updN s x.dst.toNat v) (updN t x.dst.toNat v) := by
  intro k hk
  unfold updN
  by_cases e : k = x.dst.toNat
  · simp only [if_pos e]
  · simp only [if_neg e]
    refine h k ?_
    unfold unS
    rw [hk, hd, decide_eq_false (by omega)]
    rfl
theorem step_agr {n : Nat} {L : Nat → Bool} {s t s1 : Nat → Nat} {x : In} {width regs : Int} (hx : insErr width regs x = 0) (h : Agr (backS L x) s t) (hs : stepN n s x = some s1) : ∃ t1, stepN n t x = some t1 ∧ Agr L s1 t1 := by
  obtain ⟨hk, hd, hu⟩ := ins_ok hx
  have hK : 0 ≤ x.op ∧ x.op ≤ 19 := of_decide_eq_true hk
  have hU : ∀ r ∈ usesI x, s r.toNat = t r.toNat := fun r hr => h _ (by unfold backS; rw [Int.toNat_of_nonneg (hu r hr).1, decide_eq_true hr]; rfl)
  have hN : Agr (unS L x) s t := fun k hk => h k (by show (_ || unS L x k) = true; rw [hk, Bool.or_true])
  unfold stepN at hs ⊢
  by_cases e0 : x.op = 0
  · rw [if_pos e0] at hs ⊢
    obtain rfl := Option.some.inj hs
    refine ⟨t, rfl, fun k hk => hN k ?_⟩
    have hf : defsI x = false := decide_eq_false (by omega)
    unfold unS
    rw [hk, hf]
    rfl
  rw [if_neg e0] at hs ⊢
  have hD : defsI x = true := decide_eq_true (by omega)
  have h0 := (hd hD).1
  by_cases e1 : x.op = 1
  · rw [if_pos e1] at hs ⊢
    obtain rfl := Option.some.inj hs
    exact ⟨_, rfl, agr_upd hD h0 hN _⟩
  rw [if_neg e1] at hs ⊢
  have hS : (srcN x.op).toNat = if x.op ≤ 4 then 1 else if x.op = 19 then 3 else 2 := by
    unfold srcN
    rw [if_neg (by omega), if_neg (by omega)]
    split
    · rfl
    · split <;> rfl
  have hA : s x.a.toNat = t x.a.toNat := hU _ (by unfold usesI; rw [hS]; split; (· simp); (· split <;> simp))
  have hB : ¬ x.op ≤ 4 → s x.b.toNat = t x.b.toNat := fun h4 => hU _ (by unfold usesI; rw [hS, if_neg h4]; split <;> simp)
  have hC : x.op = 19 → s x.c.toNat = t x.c.toNat := fun h4 => hU _ (by unfold usesI; rw [hS, if_neg (by omega), if_pos h4]; simp)
  by_cases e2 : (x.op = 11 ∨ x.op = 12) ∧ s x.b.toNat = 0
  · rw [if_pos e2] at hs; cases hs
  have e2' : ¬ ((x.op = 11 ∨ x.op = 12) ∧ t x.b.toNat = 0) := fun ⟨p, q⟩ => e2 ⟨p, by rw [hB (by omega)]; exact q⟩
  rw [if_neg e2] at hs
  rw [if_neg e2']
  by_cases e3 : x.op = 19
  · rw [if_pos e3] at hs ⊢
    obtain rfl := Option.some.inj hs
    refine ⟨_, rfl, ?_⟩
    rw [hA, hB (by omega), hC e3]
    exact agr_upd hD h0 hN _
  rw [if_neg e3] at hs ⊢
  obtain rfl := Option.some.inj hs
  refine ⟨_, rfl, ?_⟩
  have hv : valN x.op n (s x.a.toNat) (s x.b.toNat) = valN x.op n (t x.a.toNat) (t x.b.toNat) := by
    by_cases h4 : x.op ≤ 4
    · rw [hA]
      rcases (by omega : x.op = 2 ∨ x.op = 3 ∨ x.op = 4) with e | e | e <;> rw [e] <;> rfl
    · rw [hA, hB h4]
  rw [hv]
  exact agr_upd hD h0 hN _
theorem run_agr {n : Nat} {width regs : Int} (out : List Int) : ∀ (l : List In), (∀ x ∈ l, insErr width regs x = 0) → ∀ s t : Nat → Nat, Agr (stateR out l) s t → (runN n l s).2 = true → (runN n l t).2 = true ∧ Agr (stateR out []) (runN n l s).1 (runN n l t).1
  | [], _, s, t, h, _ => ⟨rfl, h⟩
  | x :: l, hl, s, t, h, hr => by
    unfold runN at hr ⊢
    cases hs : stepN n s x with
    | none => rw [hs] at hr; cases hr
    | some s1 =>
      rw [hs] at hr
      obtain ⟨t1, ht, ha⟩ := step_agr (hl x (List.mem_cons_self ..)) h hs
      rw [ht]
      exact run_agr out l (fun y hy => hl y (List.mem_cons_of_mem _ hy)) s1 t1 ha hr
theorem step_undef {n : Nat} {s s1 : Nat → Nat} {x : In} {width regs : Int} (hx : insErr width regs x = 0) {k : Nat} (hk : (defsI x && decide (x.dst = (k : Int))) = false) (hs : stepN n s x = some s1) : s1 k = s k := by
  obtain ⟨hkn, hd, hu⟩ := ins_ok hx
  have hK : 0 ≤ x.op ∧ x.op ≤ 19 := of_decide_eq_true hkn
  unfold stepN at hs
  by_cases e0 : x.op = 0
  · rw [if_pos e0] at hs
    obtain rfl := Option.some.inj hs
    rfl
  rw [if_neg e0] at hs
  have hD : defsI x = true := decide_eq_true (by omega)
  have h0 := (hd hD).1
  rw [hD, Bool.true_and] at hk
  have hne := of_decide_eq_false hk
  have hu : ∀ v, updN s x.dst.toNat v k = s k := fun v => by
    unfold updN
    exact if_neg (by omega)
  by_cases e1 : x.op = 1
  · rw [if_pos e1] at hs
    obtain rfl := Option.some.inj hs
    exact hu _
  rw [if_neg e1] at hs
  by_cases e2 : (x.op = 11 ∨ x.op = 12) ∧ s x.b.toNat = 0
  · rw [if_pos e2] at hs; cases hs
  rw [if_neg e2] at hs
  by_cases e3 : x.op = 19
  · rw [if_pos e3] at hs
    obtain rfl := Option.some.inj hs
    exact hu _
  rw [if_neg e3] at hs
  obtain rfl := Option.some.inj hs
  exact hu _
theorem keep_agr {n : Nat} {width regs : Int} (out : List Int) : ∀ (l : List In), (∀ x ∈ l, insErr width regs x = 0) → ∀ s t : Nat → Nat, Agr (stateR out (keepR out l)) s t → (runN n l s).2 = true → (runN n (keepR out l) t).2 = true ∧ Agr (stateR out []) (runN n l s).1 (runN n (keepR out l) t).1
  | [], _, s, t, h, _ => ⟨rfl, h⟩
  | x :: l, hl, s, t, h, hr => by
    have hx := hl x (List.mem_cons_self ..)
    have hl' := fun y hy => hl y (List.mem_cons_of_mem _ hy)
    have hr' : (match stepN n s x with | none => (s, false) | some s' => runN n l s').2 = true := hr
    have hg : runN n (x :: l) s = match stepN n s x with | none => (s, false) | some s' => runN n l s' := rfl
    rw [hg]
    cases hs : stepN n s x with
    | none => rw [hs] at hr'; cases hr'
    | some s1 =>
      rw [hs] at hr'
      show (runN n (keepR out (x :: l)) t).2 = true ∧ Agr (stateR out []) (runN n l s1).1 (runN n (keepR out (x :: l)) t).1
      by_cases hd : deadB (stateR out (keepR out l)) x = true
      · have hk : keepR out (x :: l) = keepR out l := by show (if _ then _ else _) = _; rw [if_pos hd]
        rw [hk] at h ⊢
        refine keep_agr out l hl' s1 t (fun k hlive => ?_) hr'
        rw [step_undef hx ?_ hs]
        · exact h k hlive
        · cases hdf : defsI x
          · rfl
          · have h0 := ((ins_ok hx).2.1 hdf).1
            rw [Bool.true_and, decide_eq_false]
            intro e
            unfold deadB at hd
            rw [hdf, show x.dst.toNat = k by omega, hlive] at hd
            cases hd
      · have hk : keepR out (x :: l) = x :: keepR out l := by show (if _ then _ else _) = _; rw [if_neg hd]
        rw [hk] at h ⊢
        obtain ⟨t1, ht, ha⟩ := step_agr hx h hs
        have hg2 : runN n (x :: keepR out l) t = runN n (keepR out l) t1 := by
          show (match stepN n t x with | none => (t, false) | some s' => runN n (keepR out l) s') = _
          rw [ht]
        rw [hg2]
        exact keep_agr out l hl' s1 t1 ha hr'
theorem keep_dead (out : List Int) : ∀ (l : List In) (i : Nat) (x : In), (keepR out l)[i]? = some x → deadB (stateR out ((keepR out l).drop (i + 1))) x = false
  | [], i, x, h => by cases h
  | y :: l, i, x, h => by
    by_cases hd : deadB (stateR out (keepR out l)) y = true
    · have hk : keepR out (y :: l) = keepR out l := by show (if _ then _ else _) = _; rw [if_pos hd]
      rw [hk] at h ⊢
      exact keep_dead out l i x h
    · have hk : keepR out (y :: l) = y :: keepR out l := by show (if _ then _ else _) = _; rw [if_neg hd]
      rw [hk] at h ⊢
      cases i with
      | zero =>
        obtain rfl : y = x := Option.some.inj h
        simpa using hd
      | succ i => exact keep_dead out l i x h
/-! ### For LiveRemoves -/
theorem remC_ok {c : Cd} (h : CdOK c) : remC c = { c with ins := keepR c.out c.ins } := by unfold remC; rw [if_pos (err_of_ok h)]
theorem remC_cd {c : Cd} (h : CdOK c) : CdOK (remC c) := by rw [remC_ok h]; exact ok_sub h (keepR_sub _ _)
theorem remC_dead {c : Cd} (h : CdOK c) (i : Nat) : deadL (remC c) i = false ∨ (remC c).ins.length ≤ i := by
  by_cases hi : (remC c).ins.length ≤ i
  · exact .inr hi
  · refine .inl ?_
    have e1 : (remC c).ins = keepR c.out c.ins := by rw [remC_ok h]
    have e2 : (remC c).out = c.out := by rw [remC_ok h]
    obtain ⟨x, hx⟩ : ∃ x, (remC c).ins[i]? = some x := ⟨_, List.getElem?_eq_getElem (by omega)⟩
    have hk := keep_dead c.out c.ins i x (by rw [← e1]; exact hx)
    unfold deadL
    rw [Int.toNat_natCast, hx]
    show (_ && deadB (stateR (remC c).out ((remC c).ins.drop (i + 1))) x) = false
    rw [e1, e2, hk, Bool.and_false]
/-- The final values, and no trap. -/
theorem remC_run {c : Cd} (h : CdOK c) (n : Nat) (s : Nat → Nat) (hr : (runN n c.ins s).2 = true) : (runN n (remC c).ins s).2 = true ∧ ∀ r ∈ c.out, (runN n c.ins s).1 r.toNat = (runN n (remC c).ins s).1 r.toNat := by
  have hk := keep_agr (n := n) c.out c.ins h.ins s s (fun _ _ => rfl) hr
  rw [show (remC c).ins = keepR c.out c.ins by rw [remC_ok h]]
  refine ⟨hk.1, fun r hr => hk.2 _ ?_⟩
  have h0 := (h.out r hr).1
  exact decide_eq_true (by rw [Int.toNat_of_nonneg h0]; exact hr)
/-! ### For LiveInputs -/
theorem inpL_ok {c : Cd} (h : CdOK c) : inpL c = regsK (stateR c.out c.ins) 8 := by unfold inpL; rw [if_pos (err_of_ok h)]
theorem inpL_mem {c : Cd} (h : CdOK c) {r : Int} (hr : r ∈ inpL c) : 0 ≤ r ∧ r < c.regs := by
  rw [inpL_ok h] at hr
  obtain ⟨hk0, hk8, hs⟩ := (mem_regsK _ _ _).1 hr
  have h3 := stateR_lt h c.ins h.ins r.toNat hs
  exact ⟨hk0, by omega⟩
/-- b with a's values at the registers of a list. -/
def mixS (l : List Int) (a b : Nat → Nat) : Nat → Nat := fun j => if (j : Int) ∈ l then a j else b j
theorem mixS_succ {l : List Int} {k : Nat} (hk : k < l.length) (h0 : 0 ≤ l[k]) (a b : Nat → Nat) : mixS (l.take (k + 1)) a b = updN (mixS (l.take k) a b) l[k].toNat (a l[k].toNat) := by
  funext j
  unfold mixS updN
  show (if _ then _ else _) = (if _ then _ else if _ then _ else _)
  rw [List.take_succ_eq_append_getElem hk]
  by_cases e : j = l[k].toNat
  · have : (j : Int) = l[k] := by omega
    rw [if_pos (by rw [this]; exact List.mem_append_right _ (List.mem_singleton.2 rfl)), if_pos e, e]
  · have hne : (j : Int) ≠ l[k] := by omega
    rw [if_neg e]
    by_cases e2 : (j : Int) ∈ l.take k
    · rw [if_pos e2, if_pos (List.mem_append_left _ e2)]
    · rw [if_neg e2, if_neg]
      intro hm
      rcases List.mem_append.1 hm with hm | hm
      · exact e2 hm
      · exact hne (by simpa using hm)
theorem inputs_run {c : Cd} (h : CdOK c) (n : Nat) (a b : Nat → Nat) (hr : (runN n c.ins (cutS n a 8)).2 = true) : ∀ r ∈ c.out, (runN n c.ins (cutS n a 8)).1 r.toNat = (runN n c.ins (cutS n (mixS (inpL c) a b) 8)).1 r.toNat := by
  have hk := run_agr (n := n) c.out c.ins h.ins (cutS n a 8) (cutS n (mixS (inpL c) a b) 8) (fun k hlive => ?_) hr
  · intro r hr
    have h0 := (h.out r hr).1
    exact hk.2 _ (decide_eq_true (by rw [Int.toNat_of_nonneg h0]; exact hr))
  · have hlt := stateR_lt h c.ins h.ins k hlive
    have h8 := h.r2
    have hm : (k : Int) ∈ inpL c := by
      rw [inpL_ok h]
      exact (mem_regsK _ _ _).2 ⟨by omega, by omega, by rw [Int.toNat_natCast]; exact hlive⟩
    unfold cutS
    show (if _ then _ else _) = (if _ then _ else _)
    rw [show mixS (inpL c) a b k = a k from if_pos hm]
theorem run_append (n : Nat) : ∀ (l m : List In) (s : Nat → Nat), (runN n l s).2 = true → runN n (l ++ m) s = runN n m (runN n l s).1
  | [], m, s, _ => rfl
  | x :: l, m, s, h => by
    have h' : (match stepN n s x with | none => (s, false) | some s' => runN n l s').2 = true := h
    show (match stepN n s x with | none => (s, false) | some s' => runN n (l ++ m) s') = runN n m (match stepN n s x with | none => (s, false) | some s' => runN n l s').1
    cases hs : stepN n s x with
    | none => rw [hs] at h'; cases h'
    | some s1 => rw [hs] at h'; exact run_append n l m s1 h'
theorem run_prefix (n : Nat) : ∀ (l m : List In) (s : Nat → Nat), (runN n (l ++ m) s).2 = true → (runN n l s).2 = true
  | [], m, s, _ => rfl
  | x :: l, m, s, h => by
    have h' : (match stepN n s x with | none => (s, false) | some s' => runN n (l ++ m) s').2 = true := h
    show (match stepN n s x with | none => (s, false) | some s' => runN n l s').2 = true
    cases hs : stepN n s x with
    | none => rw [hs] at h'; cases h'
    | some s1 => rw [hs] at h'; exact run_prefix n l m s1 h'
end Go.Proofs.Sat
