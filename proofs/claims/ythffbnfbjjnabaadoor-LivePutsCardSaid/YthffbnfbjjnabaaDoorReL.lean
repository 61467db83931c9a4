/- A region that draws its order and whose last operation waits for all others: the others first, in whatever order, then the last. -/
import Derived.OrdersHeld
import Derived.Deep.RegionHeld3
set_option linter.unusedVariables false
set_option linter.unusedSimpArgs false
namespace Go.Proofs.Sat
open Go
/-- The last operation behind the others. -/
def lastQ (P : Program) (ops : Array Oper) (m : Nat) (Q : Exit → Act → World → Prop) : Exit → Act → World → Prop
  | .normal, a, w => wpOp P ops Q m (fun a' w' => Q .normal a' w') a w
  | e, a, w => Q e a w
theorem lets_last {P : Program} {ops : Array Oper} {m : Nat} {Q : Exit → Act → World → Prop} (h : LetsOut (lastQ P ops m Q)) : LetsOut Q := h
theorem upon_last {P : Program} {ops : Array Oper} {m : Nat} {Q : Exit → Act → World → Prop} {o : Oper} {a : Act} {K K' : Act → World → Prop} (hK : ∀ a w, K a w → K' a w) {r : Result Next} (h : o.upon P a K (lastQ P ops m Q) r) : o.upon P a K' Q r := by
  cases r with
  | ok n w' =>
    cases n <;> simp only [Oper.upon] at h ⊢ <;>
      first
        | exact hK _ _ h
        | exact Calls.mono h (fun e w'' he => by cases e <;> first | exact hK _ _ he | exact he)
        | exact Rows.mono h (fun _ _ he => hK _ _ he)
  | halt x w' => cases x <;> simp only [Oper.upon] at h ⊢ <;> exact h
theorem wpOp_last {P : Program} {opl ops : Array Oper} {m i : Nat} {Q : Exit → Act → World → Prop} {o : Oper} (h0 : opl[i]? = some o) (h1 : ops[i]? = some o) (hg : o.guard = none) {K K' : Act → World → Prop} (hK : ∀ a w, K a w → K' a w) {a : Act} {w : World} (h : wpOp P opl (lastQ P ops m Q) i K a w) : wpOp P ops Q i K' a w := by
  unfold wpOp at h ⊢
  simp only [h0] at h
  simp only [h1]
  have hw : ∀ y, Region.wanted o y = true := fun y => by simp [Region.wanted, hg]
  rw [if_pos (hw _)] at h ⊢
  rcases h with h | ⟨h, hl⟩
  · exact .inl (upon_last hK h)
  · exact .inr ⟨h, lets_last hl⟩
/-- What is asked of the region: the last waits for all, each waits for earlier ones alone, no guards. -/
def lastB (md : Region.Mode) (l : List Oper) (o : Oper) : Bool :=
  (List.range l.length).all (fun i => o.after.any fun e => Region.binds md e && e.on == i) &&
  (List.range l.length).all (fun j => match l[j]? with | some x => x.guard.isNone && x.after.all (fun e => !Region.binds md e || decide (e.on < j)) | none => true)
section
variable {P : Program} {md : Region.Mode} {l : List Oper} {o : Oper} {Q : Exit → Act → World → Prop}
theorem lastB_all (h : lastB md l o = true) {i : Nat} (hi : i < l.length) : ∃ e ∈ o.after, Region.binds md e = true ∧ e.on = i := by
  unfold lastB at h
  rw [Bool.and_eq_true] at h
  have h1 := List.all_eq_true.1 h.1 i (List.mem_range.2 hi)
  obtain ⟨e, he, hb⟩ := Array.any_eq_true'.1 h1
  simp only [Bool.and_eq_true, beq_iff_eq] at hb
  exact ⟨e, he, hb.1, hb.2⟩
theorem lastB_at (h : lastB md l o = true) {j : Nat} {x : Oper} (hx : l[j]? = some x) : x.guard = none ∧ ∀ e ∈ x.after, Region.binds md e = true → e.on < j := by
  unfold lastB at h
  rw [Bool.and_eq_true] at h
  have hj : j < l.length := (List.getElem?_eq_some_iff.1 hx).1
  have h1 := List.all_eq_true.1 h.2 j (List.mem_range.2 hj)
  simp only [hx, Bool.and_eq_true, Option.isNone_iff_eq_none] at h1
  refine ⟨h1.1, fun e he hb => ?_⟩
  have h2 := (Array.all_eq_true_iff_forall_mem.1 h1.2) e he
  rw [hb] at h2
  simpa using h2
theorem ready_low (h : lastB md l o = true) {L : Array Bool} (hL : L.size = l.length) {j : Nat} (hj : j < l.length) : j ∈ Region.ready md (l ++ [o]).toArray (L.push false) ↔ j ∈ Region.ready md l.toArray L := by
  have hx : l[j]? = some l[j] := List.getElem?_eq_getElem hj
  have hb := (lastB_at h hx).2
  have hd : ∀ k b, k < l.length → (L.push false).getD k b = L.getD k b := fun k b hk => by
    simp [Array.getElem?_push, show ¬ k = L.size by omega]
  rw [mem_ready, mem_ready]
  have e1 : (l ++ [o]).toArray[j]? = some l[j] := by simp [List.getElem?_append_left hj, hx]
  have e2 : l.toArray[j]? = some l[j] := by simp [hx]
  rw [e1, e2, hd j true hj]
  constructor
  · rintro ⟨h0, x, hxx, hr⟩
    obtain rfl := Option.some.inj hxx
    exact ⟨h0, _, rfl, fun e he hbb => by have := hr e he hbb; rwa [hd _ _ (by have := hb e he hbb; omega)] at this⟩
  · rintro ⟨h0, x, hxx, hr⟩
    obtain rfl := Option.some.inj hxx
    exact ⟨h0, _, rfl, fun e he hbb => by rw [hd _ _ (by have := hb e he hbb; omega)]; exact hr e he hbb⟩
theorem ready_stuck (h : lastB md l o = true) {L : Array Bool} (hL : L.size = l.length) (hr : Region.ready md l.toArray L = []) : ∀ j, j < l.length → L.getD j false = true := by
  intro j
  induction j using Nat.strongRecOn with
  | _ j ih =>
    intro hj
    cases hl : L.getD j false with
    | true => rfl
    | false =>
      exfalso
      have hx : l[j]? = some l[j] := List.getElem?_eq_getElem hj
      have hm : j ∈ Region.ready md l.toArray L := by
        rw [mem_ready]
        have hjs : j < L.size := by omega
        refine ⟨by simpa [hjs] using hl, l[j], by simp [hx], fun e he hb => ?_⟩
        have hlt := (lastB_at h hx).2 e he hb
        exact ih _ hlt (by omega)
      rw [hr] at hm
      cases hm
theorem ready_last (h : lastB md l o = true) {L : Array Bool} (hL : L.size = l.length) (hon : ∀ e ∈ o.after, Region.binds md e = true → e.on < l.length) : l.length ∈ Region.ready md (l ++ [o]).toArray (L.push false) ↔ Region.ready md l.toArray L = [] := by
  have e1 : (l ++ [o]).toArray[l.length]? = some o := by simp
  rw [mem_ready, e1]
  constructor
  · rintro ⟨-, x, hx, hr⟩
    obtain rfl := Option.some.inj hx
    cases hrd : Region.ready md l.toArray L with
    | nil => rfl
    | cons k ks =>
      exfalso
      have hk : k ∈ Region.ready md l.toArray L := by rw [hrd]; exact List.mem_cons_self ..
      obtain ⟨hk0, y, hy, -⟩ := mem_ready.1 hk
      have hkl : k < l.length := by have := (Array.getElem?_eq_some_iff.1 hy).1; simpa using this
      obtain ⟨e, he, hb, rfl⟩ := lastB_all h hkl
      have := hr e he hb
      have hks : e.on < L.size := by omega
      simp [Array.getElem?_push, show ¬ e.on = L.size by omega, hks] at this hk0
      rw [this] at hk0
      cases hk0
  · intro hr
    refine ⟨by simp [hL.symm], o, rfl, fun e he hb => ?_⟩
    have hk := hon e he hb
    have := ready_stuck h hL hr _ hk
    simpa [Array.getElem?_push, show ¬ e.on = L.size by omega] using this
theorem ready_full {L : Array Bool} (hL : L.size = l.length) (hall : ∀ j, j < l.length → L.getD j false = true) : Region.ready md (l ++ [o]).toArray ((L.push false).setIfInBounds l.length true) = [] := by
  refine List.eq_nil_iff_forall_not_mem.2 fun j hj => ?_
  obtain ⟨h0, x, hx, -⟩ := mem_ready.1 hj
  have hjl : j < l.length + 1 := by have := (Array.getElem?_eq_some_iff.1 hx).1; simpa using this
  by_cases e : j = l.length
  · subst e
    simp [hL.symm] at h0
  · have h1 := hall j (by omega)
    have hjs : j < L.size := by omega
    rw [getD_set_ne true (Ne.symm e)] at h0
    simp [Array.getElem?_push, show ¬ j = L.size by omega, hjs] at h0 h1
    rw [h1] at h0
    cases h0
theorem wpAny_last (h : lastB md l o = true) (hon : ∀ e ∈ o.after, Region.binds md e = true → e.on < l.length) : ∀ (f : Nat) (L : Array Bool) (a : Act) (w : World), L.size = l.length →
    wpAny P md l.toArray (lastQ P (l ++ [o]).toArray l.length Q) f L a w → wpAny P md (l ++ [o]).toArray Q (f + 1) (L.push false) a w := by
  have key : ∀ (f : Nat) (L : Array Bool) (a : Act) (w : World), L.size = l.length → Region.ready md l.toArray L = [] → lastQ P (l ++ [o]).toArray l.length Q .normal a w → wpAny P md (l ++ [o]).toArray Q (f + 1) (L.push false) a w := by
    intro f L a w hL hr hq
    have hfull := ready_full (md := md) (o := o) hL (ready_stuck h hL hr)
    refine ⟨fun h0 => ?_, fun i hi => ?_⟩
    · have := (ready_last h hL hon).2 hr
      rw [h0] at this
      cases this
    · by_cases e : i = l.length
      · subst e
        refine wpOp_mono (fun a' w' hw => ?_) hq
        cases f with
        | zero => exact ⟨hfull, hw⟩
        | succ f => exact ⟨fun _ => hw, fun i hi => by rw [hfull] at hi; cases hi⟩
      · exfalso
        obtain ⟨-, x, hx, -⟩ := mem_ready.1 hi
        have hil : i < l.length + 1 := by have := (Array.getElem?_eq_some_iff.1 hx).1; simpa using this
        have := (ready_low h hL (show i < l.length by omega)).1 hi
        rw [hr] at this
        cases this
  intro f
  induction f with
  | zero => intro L a w hL hw; exact key 0 L a w hL hw.1 hw.2
  | succ f ih =>
    intro L a w hL hw
    by_cases hr : Region.ready md l.toArray L = []
    · exact key (f + 1) L a w hL hr (hw.1 hr)
    · refine ⟨fun h0 => ?_, fun i hi => ?_⟩
      · exfalso
        obtain ⟨k, hk⟩ := List.exists_mem_of_ne_nil _ hr
        obtain ⟨-, y, hy, -⟩ := mem_ready.1 hk
        have hkl : k < l.length := by have := (Array.getElem?_eq_some_iff.1 hy).1; simpa using this
        have := (ready_low h hL hkl).2 hk
        rw [h0] at this
        cases this
      · obtain ⟨-, x, hx, -⟩ := mem_ready.1 hi
        have hil : i < l.length + 1 := by have := (Array.getElem?_eq_some_iff.1 hx).1; simpa using this
        by_cases e : i = l.length
        · subst e
          exact absurd ((ready_last h hL hon).1 hi) hr
        · have hlt : i < l.length := by omega
          have hg := List.getElem?_eq_getElem hlt
          have h2 := hw.2 i ((ready_low h hL hlt).1 hi)
          have es : (L.push false).setIfInBounds i true = (L.setIfInBounds i true).push false := by
            apply Array.ext_getElem?
            intro k
            simp only [Array.getElem?_setIfInBounds, Array.getElem?_push, Array.size_push, Array.size_setIfInBounds]
            by_cases e1 : k = i
            · subst e1
              simp [show k < L.size + 1 by omega, show k < L.size by omega, show ¬ k = L.size by omega]
            · simp [Ne.symm e1, e1]
          rw [es]
          exact wpOp_last (by simp [hg]) (by simp [List.getElem?_append_left hlt, hg]) (lastB_at h hg).1 (fun a' w' hh => ih _ a' w' (by simpa using hL) hh) h2
/-- The region without its last operation, then the last. -/
theorem wp_region_last {id : Nat} {a : Act} {w : World} {L : List Oper} (m : Nat) (l : List Oper) (o : Oper) (hl : L = l ++ [o]) (hm : l.length = m) (hf : P.follows .mixedOrders = true) (hB : lastB .any l o = true) (hon : o.after.all (fun e => !Region.binds .any e || decide (e.on < l.length)) = true)
    (h : wpAny P .any l.toArray (lastQ P L.toArray m Q) m (Array.replicate m false) a w.drew) : (Code.region id L.toArray true).wp P Q a w := by
  subst hl hm
  refine wp_region_any hf ?_
  have h2 := wpAny_last (P := P) (Q := Q) hB (fun e he hb => by have := (Array.all_eq_true_iff_forall_mem.1 hon) e he; rw [hb] at this; simpa using this) l.length (Array.replicate l.length false) a w.drew (by simp) h
  have e1 : (l ++ [o]).toArray.size = l.length + 1 := by simp
  rw [e1]
  have e2 : (Array.replicate l.length false).push false = Array.replicate (l.length + 1) false := by rw [Array.replicate_succ]
  rwa [e2] at h2
theorem lastQ_step {P : Program} {ops : Array Oper} {m : Nat} {Q : Exit → Act → World → Prop} {a : Act} {w : World} {o : Oper} (ho : ops[m]? = some o) (h : ∀ K' : Act → World → Prop, (∀ a w, Q .normal a w → K' a w) → if Region.wanted o (yielded ops a.tmps) = true then Oper.wp P o a w K' Q else K' (a.put o.dst undef) w) : lastQ P ops m Q .normal a w :=
  wpOp_step ho (fun K' hK => h K' hK)
theorem wp_region_pop {id : Nat} {a : Act} {w : World} {L : List Oper} (m : Nat) {o : Oper} (hd : L.drop m = [o]) (hf : P.follows .mixedOrders = true) (hB : lastB .any (L.take m) o = true) (hon : o.after.all (fun e => !Region.binds .any e || decide (e.on < m)) = true)
    (h : wpAny P .any (L.take m).toArray (lastQ P L.toArray m Q) m (Array.replicate m false) a w.drew) : (Code.region id L.toArray true).wp P Q a w := by
  have hm : (L.take m).length = m := by
    have := congrArg List.length hd
    rw [List.length_drop] at this
    have h1 : L.length - m = 1 := this
    rw [List.length_take]
    omega
  exact wp_region_last m (L.take m) o (by rw [← hd, List.take_append_drop]) hm hf hB (by rw [hm]; exact hon) h
end
end Go.Proofs.Sat
