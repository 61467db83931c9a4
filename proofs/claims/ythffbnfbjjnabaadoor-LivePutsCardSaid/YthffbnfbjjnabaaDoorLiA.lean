/- Plain laws of runs: what is live decides the final values, and dead instructions leave no mark. -/
import Derived.Test.YthffbnfbjjnabaaDoorRaN
import Derived.Test.YthffbnfbjjnabaaDoorLvG
set_option linter.unusedVariables false
set_option linter.unusedSimpArgs false
namespace Go.Proofs.Sat
open Go Go.RowKit
/-- Two states agree at the registers of a set. -/
def Agr (L : Nat → Bool) (s t : Nat → Nat) : Prop := ∀ k, L k = true → s k = t k
theorem agr_upd {L : Nat → Bool} {s t : Nat → Nat} {x : In} (hd : defsI x = true) (h0 : 0 ≤ x.dst) (h : Agr (unS L x) s t) (v : Nat) : Agr L (updN s x.dst.toNat v) (updN t x.dst.toNat v) := by
  intro k hk
  unfold updN
  by_cases e : k = x.dst.toNat
  · simp only [if_pos e]
  · simp only [if_neg e]
    refine h k ?_
    unfold unS
    rw [hk, hd, decide_eq_false (by omega)]
    rfl
theorem step_agr {n : Nat} {L : Nat → Bool} {s t s1 : Nat → Nat} {x : In} {width regs : Int} (hx : insErr width regs x = 0) (h : Agr (backS L x) s t) (hs : stepN n s x = some s1) : ∃ t1, stepN n t x = some t1 ∧ Agr L s1 t1 := by
  obtain ⟨hk, hd, hu⟩ := ins_ok hx
  have hK : 0 ≤ x.op ∧ x.op ≤ 19 := of_decide_eq_true hk
  have hU : ∀ r ∈ usesI x, s r.toNat = t r.toNat := fun r hr => h _ (by unfold backS; rw [Int.toNat_of_nonneg (hu r hr).1, decide_eq_true hr]; rfl)
  have hN : Agr (unS L x) s t := fun k hk => h k (by show (_ || unS L x k) = true; rw [hk, Bool.or_true])
  unfold stepN at hs ⊢
  by_cases e0 : x.op = 0
  · rw [if_pos e0] at hs ⊢
    obtain rfl := Option.some.inj hs
    refine ⟨t, rfl, fun k hk => hN k ?_⟩
    have hf : defsI x = false := decide_eq_false (by omega)
    unfold unS
    rw [hk, hf]
    rfl
  rw [if_neg e0] at hs ⊢
  have hD : defsI x = true := decide_eq_true (by omega)
  have h0 := (hd hD).1
  by_cases e1 : x.op = 1
  · rw [if_pos e1] at hs ⊢
    obtain rfl := Option.some.inj hs
    exact ⟨_, rfl, agr_upd hD h0 hN _⟩
  rw [if_neg e1] at hs ⊢
  have hS : (srcN x.op).toNat = if x.op ≤ 4 then 1 else if x.op = 19 then 3 else 2 := by
    unfold srcN
    rw [if_neg (by omega), if_neg (by omega)]
    split
    · rfl
    · split <;> rfl
  have hA : s x.a.toNat = t x.a.toNat := hU _ (by unfold usesI; rw [hS]; split; (· simp); (· split <;> simp))
  have hB : ¬ x.op ≤ 4 → s x.b.toNat = t x.b.toNat := fun h4 => hU _ (by unfold usesI; rw [hS, if_neg h4]; split <;> simp)
  have hC : x.op = 19 → s x.c.toNat = t x.c.toNat := fun h4 => hU _ (by unfold usesI; rw [hS, if_neg (by omega), if_pos h4]; simp)
  by_cases e2 : (x.op = 11 ∨ x.op = 12) ∧ s x.b.toNat = 0
  · rw [if_pos e2] at hs; cases hs
  have e2' : ¬ ((x.op = 11 ∨ x.op = 12) ∧ t x.b.toNat = 0) := fun ⟨p, q⟩ => e2 ⟨p, by rw [hB (by omega)]; exact q⟩
  rw [if_neg e2] at hs
  rw [if_neg e2']
  by_cases e3 : x.op = 19
  · rw [if_pos e3] at hs ⊢
    obtain rfl := Option.some.inj hs
    refine ⟨_, rfl, ?_⟩
    rw [hA, hB (by omega), hC e3]
    exact agr_upd hD h0 hN _
  rw [if_neg e3] at hs ⊢
  obtain rfl := Option.some.inj hs
  refine ⟨_, rfl, ?_⟩
  have hv : valN x.op n (s x.a.toNat) (s x.b.toNat) = valN x.op n (t x.a.toNat) (t x.b.toNat) := by
    by_cases h4 : x.op ≤ 4
    · rw [hA]
      rcases (by omega : x.op = 2 ∨ x.op = 3 ∨ x.op = 4) with e | e | e <;> rw [e] <;> rfl
    · rw [hA, hB h4]
  rw [hv]
  exact agr_upd hD h0 hN _
theorem run_agr {n : Nat} {width regs : Int} (out : List Int) : ∀ (l : List In), (∀ x ∈ l, insErr width regs x = 0) → ∀ s t : Nat → Nat, Agr (stateR out l) s t → (runN n l s).2 = true → (runN n l t).2 = true ∧ Agr (stateR out []) (runN n l s).1 (runN n l t).1
  | [], _, s, t, h, _ => ⟨rfl, h⟩
  | x :: l, hl, s, t, h, hr => by
    unfold runN at hr ⊢
    cases hs : stepN n s x with
    | none => rw [hs] at hr; cases hr
    | some s1 =>
      rw [hs] at hr
      obtain ⟨t1, ht, ha⟩ := step_agr (hl x (List.mem_cons_self ..)) h hs
      rw [ht]
      exact run_agr out l (fun y hy => hl y (List.mem_cons_of_mem _ hy)) s1 t1 ha hr
theorem step_undef {n : Nat} {s s1 : Nat → Nat} {x : In} {width regs : Int} (hx : insErr width regs x = 0) {k : Nat} (hk : (defsI x && decide (x.dst = (k : Int))) = false) (hs : stepN n s x = some s1) : s1 k = s k := by
  obtain ⟨hkn, hd, hu⟩ := ins_ok hx
  have hK : 0 ≤ x.op ∧ x.op ≤ 19 := of_decide_eq_true hkn
  unfold stepN at hs
  by_cases e0 : x.op = 0
  · rw [if_pos e0] at hs
    obtain rfl := Option.some.inj hs
    rfl
  rw [if_neg e0] at hs
  have hD : defsI x = true := decide_eq_true (by omega)
  have h0 := (hd hD).1
  rw [hD, Bool.true_and] at hk
  have hne := of_decide_eq_false hk
  have hu : ∀ v, updN s x.dst.toNat v k = s k := fun v => by
    unfold updN
    exact if_neg (by omega)
  by_cases e1 : x.op = 1
  · rw [if_pos e1] at hs
    obtain rfl := Option.some.inj hs
    exact hu _
  rw [if_neg e1] at hs
  by_cases e2 : (x.op = 11 ∨ x.op = 12) ∧ s x.b.toNat = 0
  · rw [if_pos e2] at hs; cases hs
  rw [if_neg e2] at hs
  by_cases e3 : x.op = 19
  · rw [if_pos e3] at hs
    obtain rfl := Option.some.inj hs
    exact hu _
  rw [if_neg e3] at hs
  obtain rfl := Option.some.inj hs
  exact hu _
theorem run_undef {n : Nat} {width regs : Int} {k : Nat} : ∀ (l : List In), (∀ x ∈ l, insErr width regs x = 0) → defsAny l k = false → ∀ s : Nat → Nat, (runN n l s).1 k = s k
  | [], _, _, s => rfl
  | x :: l, hl, hk, s => by
    have hk' : ((defsI x && decide (x.dst = (k : Int))) || defsAny l k) = false := hk
    rw [Bool.or_eq_false_iff] at hk'
    unfold runN
    cases hs : stepN n s x with
    | none => rfl
    | some s1 =>
      show (runN n l s1).1 k = _
      rw [run_undef l (fun y hy => hl y (List.mem_cons_of_mem _ hy)) hk'.2 s1, step_undef (hl x (List.mem_cons_self ..)) hk'.1 hs]
theorem keep_agr {n : Nat} {width regs : Int} (out : List Int) : ∀ (l : List In), (∀ x ∈ l, insErr width regs x = 0) → ∀ s t : Nat → Nat, Agr (stateR out (keepR out l)) s t → (runN n l s).2 = true → (runN n (keepR out l) t).2 = true ∧ Agr (stateR out []) (runN n l s).1 (runN n (keepR out l) t).1
  | [], _, s, t, h, _ => ⟨rfl, h⟩
  | x :: l, hl, s, t, h, hr => by
    have hx := hl x (List.mem_cons_self ..)
    have hl' := fun y hy => hl y (List.mem_cons_of_mem _ hy)
    have hr' : (match stepN n s x with | none => (s, false) | some s' => runN n l s').2 = true := hr
    have hg : runN n (x :: l) s = match stepN n s x with | none => (s, false) | some s' => runN n l s' := rfl
    rw [hg]
    cases hs : stepN n s x with
    | none => rw [hs] at hr'; cases hr'
    | some s1 =>
      rw [hs] at hr'
      show (runN n (keepR out (x :: l)) t).2 = true ∧ Agr (stateR out []) (runN n l s1).1 (runN n (keepR out (x :: l)) t).1
      by_cases hd : deadB (stateR out (keepR out l)) x = true
      · have hk : keepR out (x :: l) = keepR out l := by show (if _ then _ else _) = _; rw [if_pos hd]
        rw [hk] at h ⊢
        refine keep_agr out l hl' s1 t (fun k hlive => ?_) hr'
        rw [step_undef hx ?_ hs]
        · exact h k hlive
        · cases hdf : defsI x
          · rfl
          · have h0 := ((ins_ok hx).2.1 hdf).1
            rw [Bool.true_and, decide_eq_false]
            intro e
            unfold deadB at hd
            rw [hdf, show x.dst.toNat = k by omega, hlive] at hd
            cases hd
      · have hk : keepR out (x :: l) = x :: keepR out l := by show (if _ then _ else _) = _; rw [if_neg hd]
        rw [hk] at h ⊢
        obtain ⟨t1, ht, ha⟩ := step_agr hx h hs
        have hg2 : runN n (x :: keepR out l) t = runN n (keepR out l) t1 := by
          show (match stepN n t x with | none => (t, false) | some s' => runN n (keepR out l) s') = _
          rw [ht]
        rw [hg2]
        exact keep_agr out l hl' s1 t1 ha hr'
theorem keep_dead (out : List Int) : ∀ (l : List In) (i : Nat) (x : In), (keepR out l)[i]? = some x → deadB (stateR out ((keepR out l).drop (i + 1))) x = false
  | [], i, x, h => by cases h
  | y :: l, i, x, h => by
    by_cases hd : deadB (stateR out (keepR out l)) y = true
    · have hk : keepR out (y :: l) = keepR out l := by show (if _ then _ else _) = _; rw [if_pos hd]
      rw [hk] at h ⊢
      exact keep_dead out l i x h
    · have hk : keepR out (y :: l) = y :: keepR out l := by show (if _ then _ else _) = _; rw [if_neg hd]
      rw [hk] at h ⊢
      cases i with
      | zero =>
        obtain rfl : y = x := Option.some.inj h
        simpa using hd
      | succ i => exact keep_dead out l i x h
/-! ### For LiveRemoves -/
theorem remC_ok {c : Cd} (h : CdOK c) : remC c = { c with ins := keepR c.out c.ins } := by unfold remC; rw [if_pos (err_of_ok h)]
theorem remC_cd {c : Cd} (h : CdOK c) : CdOK (remC c) := by rw [remC_ok h]; exact ok_sub h (keepR_sub _ _)
theorem remC_dead {c : Cd} (h : CdOK c) (i : Nat) : deadL (remC c) i = false ∨ (remC c).ins.length ≤ i := by
  by_cases hi : (remC c).ins.length ≤ i
  · exact .inr hi
  · refine .inl ?_
    have e1 : (remC c).ins = keepR c.out c.ins := by rw [remC_ok h]
    have e2 : (remC c).out = c.out := by rw [remC_ok h]
    obtain ⟨x, hx⟩ : ∃ x, (remC c).ins[i]? = some x := ⟨_, List.getElem?_eq_getElem (by omega)⟩
    have hk := keep_dead c.out c.ins i x (by rw [← e1]; exact hx)
    unfold deadL
    rw [Int.toNat_natCast, hx]
    show (_ && deadB (stateR (remC c).out ((remC c).ins.drop (i + 1))) x) = false
    rw [e1, e2, hk, Bool.and_false]
/-- The final values, and no trap. -/
theorem remC_run {c : Cd} (h : CdOK c) (n : Nat) (s : Nat → Nat) (hr : (runN n c.ins s).2 = true) : (runN n (remC c).ins s).2 = true ∧ ∀ r ∈ c.out, (runN n c.ins s).1 r.toNat = (runN n (remC c).ins s).1 r.toNat := by
  have hk := keep_agr (n := n) c.out c.ins h.ins s s (fun _ _ => rfl) hr
  rw [show (remC c).ins = keepR c.out c.ins by rw [remC_ok h]]
  refine ⟨hk.1, fun r hr => hk.2 _ ?_⟩
  have h0 := (h.out r hr).1
  exact decide_eq_true (by rw [Int.toNat_of_nonneg h0]; exact hr)
/-! ### For LiveInputs -/
theorem inpL_ok {c : Cd} (h : CdOK c) : inpL c = regsK (stateR c.out c.ins) 8 := by unfold inpL; rw [if_pos (err_of_ok h)]
theorem inpL_mem {c : Cd} (h : CdOK c) {r : Int} (hr : r ∈ inpL c) : 0 ≤ r ∧ r < c.regs := by
  rw [inpL_ok h] at hr
  obtain ⟨hk0, hk8, hs⟩ := (mem_regsK _ _ _).1 hr
  have h3 := stateR_lt h c.ins h.ins r.toNat hs
  exact ⟨hk0, by omega⟩
/-- b with a's values at the registers of a list. -/
def mixS (l : List Int) (a b : Nat → Nat) : Nat → Nat := fun j => if (j : Int) ∈ l then a j else b j
theorem mixS_succ {l : List Int} {k : Nat} (hk : k < l.length) (h0 : 0 ≤ l[k]) (a b : Nat → Nat) : mixS (l.take (k + 1)) a b = updN (mixS (l.take k) a b) l[k].toNat (a l[k].toNat) := by
  funext j
  unfold mixS updN
  show (if _ then _ else _) = (if _ then _ else if _ then _ else _)
  rw [List.take_succ_eq_append_getElem hk]
  by_cases e : j = l[k].toNat
  · have : (j : Int) = l[k] := by omega
    rw [if_pos (by rw [this]; exact List.mem_append_right _ (List.mem_singleton.2 rfl)), if_pos e, e]
  · have hne : (j : Int) ≠ l[k] := by omega
    rw [if_neg e]
    by_cases e2 : (j : Int) ∈ l.take k
    · rw [if_pos e2, if_pos (List.mem_append_left _ e2)]
    · rw [if_neg e2, if_neg]
      intro hm
      rcases List.mem_append.1 hm with hm | hm
      · exact e2 hm
      · exact hne (by simpa using hm)
theorem inputs_run {c : Cd} (h : CdOK c) (n : Nat) (a b : Nat → Nat) (hr : (runN n c.ins (cutS n a 8)).2 = true) : ∀ r ∈ c.out, (runN n c.ins (cutS n a 8)).1 r.toNat = (runN n c.ins (cutS n (mixS (inpL c) a b) 8)).1 r.toNat := by
  have hk := run_agr (n := n) c.out c.ins h.ins (cutS n a 8) (cutS n (mixS (inpL c) a b) 8) (fun k hlive => ?_) hr
  · intro r hr
    have h0 := (h.out r hr).1
    exact hk.2 _ (decide_eq_true (by rw [Int.toNat_of_nonneg h0]; exact hr))
  · have hlt := stateR_lt h c.ins h.ins k hlive
    have h8 := h.r2
    have hm : (k : Int) ∈ inpL c := by
      rw [inpL_ok h]
      exact (mem_regsK _ _ _).2 ⟨by omega, by omega, by rw [Int.toNat_natCast]; exact hlive⟩
    unfold cutS
    show (if _ then _ else _) = (if _ then _ else _)
    rw [show mixS (inpL c) a b k = a k from if_pos hm]
/-! ### For LivePuts -/
theorem winCd_ok {c : Cd} (h : CdOK c) (f n : Nat) : CdOK (winCd c f n) := by
  have hs : List.Sublist (winIns c f n) c.ins := (List.take_sublist _ _).trans (List.drop_sublist _ _)
  refine ⟨h.w1, h.w2, h.r1, h.r2, Nat.le_trans hs.length_le h.len, fun x hx => h.ins x (hs.subset hx), fun r hr => ?_, ?_⟩
  · obtain ⟨hk0, hk, hw⟩ := (mem_regsK _ _ _).1 hr
    unfold winOut at hw
    rw [Bool.and_eq_true] at hw
    have h3 := stateR_lt h _ (fun x hx => h.ins x (List.mem_of_mem_drop hx)) r.toNat hw.1
    have h4 : (winCd c f n).regs = c.regs := rfl
    exact ⟨hk0, by rw [h4]; omega⟩
  · have hp : (regsK (winOut c f n) 8).Pairwise (· < ·) := regsK_ss _ _
    exact hp.imp fun hab => Int.ne_of_lt hab
theorem winIns_length {c : Cd} {f n : Nat} (h : f + n ≤ c.ins.length) : (winIns c f n).length = n := by unfold winIns; rw [List.length_take, List.length_drop]; omega
theorem cut_three {α : Type} (l : List α) (f n : Nat) : l = l.take f ++ (l.drop f).take n ++ l.drop (f + n) := by
  rw [List.append_assoc, ← List.drop_drop, List.take_append_drop, List.take_append_drop]
theorem repErr_ok {c d : Cd} {f n : Int} (h : CdOK c) (hw : winErr c f n = 0) (hd : CdOK d) (h1 : d.width = c.width) (h2 : d.regs = c.regs) (hl : (d.ins.length : Int) ≤ n) : repErr c d f n = 0 := by
  unfold repErr
  have := h.len
  rw [if_neg (not_not_intro hw), if_neg (not_not_intro (err_of_ok hd)), if_neg (by rw [h1, h2]; simp), if_neg (by omega)]
theorem put_self {c : Cd} {f n : Int} (h : CdOK c) (hw : winErr c f n = 0) : repErr c (winC c f n) f n = 0 ∧ repC c (winC c f n) f n = c := by
  obtain ⟨-, hf, hn, hfn⟩ := winErr_zero hw
  have e : winC c f n = winCd c f.toNat n.toNat := by unfold winC; rw [if_pos hw]
  have hlen : (winIns c f.toNat n.toNat).length = n.toNat := winIns_length (by omega)
  have hr : repErr c (winC c f n) f n = 0 := by
    rw [e]
    exact repErr_ok h hw (winCd_ok h _ _) rfl rfl (by show ((winIns c f.toNat n.toNat).length : Int) ≤ n; omega)
  refine ⟨hr, ?_⟩
  unfold repC
  rw [if_pos hr, e]
  show { c with ins := c.ins.take f.toNat ++ winIns c f.toNat n.toNat ++ c.ins.drop (f.toNat + n.toNat) } = c
  unfold winIns
  rw [← cut_three]
theorem put_short {c : Cd} {f n : Int} (h : CdOK c) (hw : winErr c f n = 0) : repErr c (remC (winC c f n)) f n = 0 ∧ repC c (remC (winC c f n)) f n = { c with ins := c.ins.take f.toNat ++ keepR (regsK (winOut c f.toNat n.toNat) 8) (winIns c f.toNat n.toNat) ++ c.ins.drop (f.toNat + n.toNat) } := by
  obtain ⟨-, hf, hn, hfn⟩ := winErr_zero hw
  have e : winC c f n = winCd c f.toNat n.toNat := by unfold winC; rw [if_pos hw]
  have hlen : (winIns c f.toNat n.toNat).length = n.toNat := winIns_length (by omega)
  have hk : (keepR (regsK (winOut c f.toNat n.toNat) 8) (winIns c f.toNat n.toNat)).length ≤ n.toNat := Nat.le_trans (keepR_sub _ _).length_le (Nat.le_of_eq hlen)
  have hW := winCd_ok h f.toNat n.toNat
  have hr : repErr c (remC (winC c f n)) f n = 0 := by
    rw [e]
    refine repErr_ok h hw (remC_cd hW) (by rw [remC_ok hW]; rfl) (by rw [remC_ok hW]; rfl) ?_
    rw [remC_ok hW]
    show ((keepR (regsK (winOut c f.toNat n.toNat) 8) (winIns c f.toNat n.toNat)).length : Int) ≤ n
    omega
  refine ⟨hr, ?_⟩
  unfold repC
  rw [if_pos hr, e, remC_ok hW]
  rfl
theorem put_sub {c : Cd} (f n : Nat) (out : List Int) : List.Sublist (c.ins.take f ++ keepR out (winIns c f n) ++ c.ins.drop (f + n)) c.ins := by
  have hs := List.Sublist.append (List.Sublist.append (List.Sublist.refl (c.ins.take f)) (keepR_sub out (winIns c f n))) (List.Sublist.refl (c.ins.drop (f + n)))
  unfold winIns at hs ⊢
  rwa [← cut_three] at hs
theorem put_cd {c : Cd} {f n : Int} (h : CdOK c) (hw : winErr c f n = 0) : CdOK (repC c (remC (winC c f n)) f n) := by
  rw [(put_short h hw).2]
  exact ok_sub h (put_sub _ _ _)
theorem run_append (n : Nat) : ∀ (l m : List In) (s : Nat → Nat), (runN n l s).2 = true → runN n (l ++ m) s = runN n m (runN n l s).1
  | [], m, s, _ => rfl
  | x :: l, m, s, h => by
    have h' : (match stepN n s x with | none => (s, false) | some s' => runN n l s').2 = true := h
    show (match stepN n s x with | none => (s, false) | some s' => runN n (l ++ m) s') = runN n m (match stepN n s x with | none => (s, false) | some s' => runN n l s').1
    cases hs : stepN n s x with
    | none => rw [hs] at h'; cases h'
    | some s1 => rw [hs] at h'; exact run_append n l m s1 h'
theorem run_prefix (n : Nat) : ∀ (l m : List In) (s : Nat → Nat), (runN n (l ++ m) s).2 = true → (runN n l s).2 = true
  | [], m, s, _ => rfl
  | x :: l, m, s, h => by
    have h' : (match stepN n s x with | none => (s, false) | some s' => runN n (l ++ m) s').2 = true := h
    show (match stepN n s x with | none => (s, false) | some s' => runN n l s').2 = true
    cases hs : stepN n s x with
    | none => rw [hs] at h'; cases h'
    | some s1 => rw [hs] at h'; exact run_prefix n l m s1 h'
theorem defsAny_sub {l m : List In} (h : List.Sublist l m) {k : Nat} (hk : defsAny m k = false) : defsAny l k = false := by
  unfold defsAny at hk ⊢
  rw [List.any_eq_false] at hk ⊢
  exact fun x hx => hk x (h.subset hx)
theorem put_run {c : Cd} {f n : Int} (h : CdOK c) (hw : winErr c f n = 0) (N : Nat) (s : Nat → Nat) (hr : (runN N c.ins s).2 = true) : (runN N (repC c (remC (winC c f n)) f n).ins s).2 = true ∧ ∀ r ∈ c.out, (runN N c.ins s).1 r.toNat = (runN N (repC c (remC (winC c f n)) f n).ins s).1 r.toNat := by
  obtain ⟨-, hf, hn, hfn⟩ := winErr_zero hw
  rw [(put_short h hw).2]
  show (runN N (c.ins.take f.toNat ++ keepR (regsK (winOut c f.toNat n.toNat) 8) (winIns c f.toNat n.toNat) ++ c.ins.drop (f.toNat + n.toNat)) s).2 = true ∧ ∀ r ∈ c.out, (runN N c.ins s).1 r.toNat = (runN N (c.ins.take f.toNat ++ keepR (regsK (winOut c f.toNat n.toNat) 8) (winIns c f.toNat n.toNat) ++ c.ins.drop (f.toNat + n.toNat)) s).1 r.toNat
  have hcut : c.ins = c.ins.take f.toNat ++ winIns c f.toNat n.toNat ++ c.ins.drop (f.toNat + n.toNat) := cut_three _ _ _
  have hWok := winCd_ok h f.toNat n.toNat
  have hBok : ∀ x ∈ c.ins.drop (f.toNat + n.toNat), insErr c.width c.regs x = 0 := fun x hx => h.ins x (List.mem_of_mem_drop hx)
  have hst : winOut c f.toNat n.toNat = fun k => stateR c.out (c.ins.drop (f.toNat + n.toNat)) k && defsAny (winIns c f.toNat n.toNat) k := rfl
  rw [hcut] at hr
  have hrw : runN N c.ins s = runN N (c.ins.take f.toNat ++ winIns c f.toNat n.toNat ++ c.ins.drop (f.toNat + n.toNat)) s := by rw [← hcut]
  rw [hrw]
  have hlt := stateR_lt h (c.ins.drop (f.toNat + n.toNat)) hBok
  have h8 := h.r2
  have hWi : ∀ x ∈ winIns c f.toNat n.toNat, insErr c.width c.regs x = 0 := hWok.ins
  generalize c.ins.take f.toNat = A at *
  generalize winOut c f.toNat n.toNat = O at *
  generalize winIns c f.toNat n.toNat = W at *
  generalize c.ins.drop (f.toNat + n.toNat) = B at *
  have r1 := run_prefix N (A ++ W) B s hr
  have r0 := run_prefix N A W s r1
  rw [run_append N (A ++ W) B s r1, run_append N A W s r0] at hr ⊢
  rw [run_append N A W s r0] at r1
  have hk := keep_agr (n := N) (regsK O 8) W hWi (runN N A s).1 (runN N A s).1 (fun _ _ => rfl) r1
  have hko := hk.2
  have r2 : (runN N (A ++ keepR (regsK O 8) W) s).2 = true := by rw [run_append N A _ s r0]; exact hk.1
  rw [run_append N (A ++ keepR (regsK O 8) W) B s r2, run_append N A _ s r0]
  have hA : Agr (stateR c.out B) (runN N W (runN N A s).1).1 (runN N (keepR (regsK O 8) W) (runN N A s).1).1 := by
    intro k hlive
    cases hd : defsAny W k
    · rw [run_undef W hWi hd, run_undef (keepR (regsK O 8) W) (fun x hx => hWi x ((keepR_sub _ _).subset hx)) (defsAny_sub (keepR_sub _ _) hd)]
    · have := hlt k hlive
      refine hko k (decide_eq_true ((mem_regsK _ _ _).2 ⟨by omega, by omega, ?_⟩))
      rw [hst, Int.toNat_natCast]
      show (_ && _) = true
      rw [hlive, hd]
      rfl
  have hz := run_agr (n := N) c.out B hBok _ _ hA hr
  refine ⟨hz.1, fun r hr => hz.2 _ ?_⟩
  have h0 := (h.out r hr).1
  exact decide_eq_true (by rw [Int.toNat_of_nonneg h0]; exact hr)
end Go.Proofs.Sat
