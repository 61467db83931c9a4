/- Sets as strictly increasing lists: plain lemmas, no program in sight. -/
import Derived.Lib.SlicesCompact
set_option linter.unusedVariables false
set_option linter.unusedSimpArgs false
namespace Go.Proofs.Sat
/-- Strictly increasing. -/
abbrev SS (l : List Int) : Prop := l.Pairwise (· < ·)

theorem ss_ext {a b : List Int} (ha : SS a) (hb : SS b) (h : ∀ x, x ∈ a ↔ x ∈ b) : a = b := by
  induction a generalizing b with
  | nil =>
    cases b with
    | nil => rfl
    | cons y b => exact absurd ((h y).2 (by simp)) (by simp)
  | cons x a ih =>
    cases b with
    | nil => exact absurd ((h x).1 (by simp)) (by simp)
    | cons y b =>
      have hxa := List.pairwise_cons.1 ha
      have hyb := List.pairwise_cons.1 hb
      have hxy : x = y := by
        rcases List.mem_cons.1 ((h x).1 (by simp)) with e | e
        · exact e
        · rcases List.mem_cons.1 ((h y).2 (by simp)) with e' | e'
          · exact e'.symm
          · have := hxa.1 y e'; have := hyb.1 x e; omega
      subst hxy
      congr 1
      refine ih hxa.2 hyb.2 fun z => ?_
      constructor
      · intro hz
        rcases List.mem_cons.1 ((h z).1 (by simp [hz])) with e | e
        · subst e; have := hxa.1 z hz; omega
        · exact e
      · intro hz
        rcases List.mem_cons.1 ((h z).2 (by simp [hz])) with e | e
        · subst e; have := hyb.1 z hz; omega
        · exact e

/-- x put into a set. -/
def ins (s : List Int) (x : Int) : List Int := if x ∈ s then s else s.filter (fun y => decide (y < x)) ++ x :: s.filter (fun y => decide (¬ y < x))
theorem mem_ins (s : List Int) (x y : Int) : y ∈ ins s x ↔ y ∈ s ∨ y = x := by
  unfold ins
  split
  · rename_i h
    constructor
    · exact .inl
    · rintro (h' | rfl)
      · exact h'
      · exact h
  · simp only [List.mem_append, List.mem_filter, List.mem_cons, decide_eq_true_eq]
    constructor
    · rintro (⟨h, _⟩ | rfl | ⟨h, _⟩)
      · exact .inl h
      · exact .inr rfl
      · exact .inl h
    · rintro (h | rfl)
      · by_cases hlt : y < x
        · exact .inl ⟨h, hlt⟩
        · exact .inr (.inr ⟨h, hlt⟩)
      · exact .inr (.inl rfl)
theorem ss_ins {s : List Int} (hs : SS s) (x : Int) : SS (ins s x) := by
  unfold ins
  split
  · exact hs
  · rename_i hx
    refine List.pairwise_append.2 ⟨hs.filter _, List.pairwise_cons.2 ⟨?_, hs.filter _⟩, ?_⟩
    · intro y hy
      simp at hy
      have : y ≠ x := fun e => hx (e ▸ hy.1)
      omega
    · intro y hy z hz
      simp at hy hz
      rcases hz with rfl | hz
      · exact hy.2
      · have := hy.2; have := hz.2; omega
/-- The set of a list's elements. -/
def ofL (l : List Int) : List Int := l.foldl ins []
theorem foldl_ins (l : List Int) : ∀ s, SS s → SS (l.foldl ins s) ∧ ∀ x, x ∈ l.foldl ins s ↔ x ∈ s ∨ x ∈ l := by
  induction l with
  | nil => intro s hs; exact ⟨hs, by simp⟩
  | cons y l ih =>
    intro s hs
    obtain ⟨h1, h2⟩ := ih (ins s y) (ss_ins hs y)
    refine ⟨h1, fun x => ?_⟩
    simp only [List.foldl_cons, h2, mem_ins, List.mem_cons]
    exact or_assoc
theorem ss_ofL (l : List Int) : SS (ofL l) := (foldl_ins l [] .nil).1
theorem mem_ofL (l : List Int) (x : Int) : x ∈ ofL l ↔ x ∈ l := by have := (foldl_ins l [] .nil).2 x; simpa [ofL] using this
theorem ofL_eq {r l : List Int} (hr : SS r) (h : ∀ x, x ∈ r ↔ x ∈ l) : ofL l = r := ss_ext (ss_ofL l) hr fun x => (mem_ofL l x).trans (h x).symm
theorem ofL_self {l : List Int} (h : SS l) : ofL l = l := ofL_eq h fun _ => Iff.rfl
theorem ofL_idem (l : List Int) : ofL (ofL l) = ofL l := ofL_self (ss_ofL l)
theorem ofL_snoc (l : List Int) (x : Int) : ofL (l ++ [x]) = ins (ofL l) x := by simp [ofL, List.foldl_append]
theorem ofL_nil : ofL [] = [] := rfl
theorem ofL_congr {a b : List Int} (h : ∀ x, x ∈ a ↔ x ∈ b) : ofL a = ofL b := ofL_eq (ss_ofL b) fun x => (mem_ofL b x).trans (h x).symm

theorem length_parts (s : List Int) (x : Int) : (s.filter fun y => decide (y < x)).length + (s.filter fun y => decide (¬ y < x)).length = s.length := by
  induction s with
  | nil => rfl
  | cons y s ih =>
    by_cases h : y < x
    · simp only [List.filter_cons, h, decide_true, decide_false, not_true, if_true, Bool.false_eq_true, if_false, List.length_cons] at ih ⊢
      omega
    · simp only [List.filter_cons, h, decide_true, decide_false, not_false_eq_true, if_true, Bool.false_eq_true, if_false, List.length_cons] at ih ⊢
      omega
theorem length_ins (s : List Int) (x : Int) : (ins s x).length ≤ s.length + 1 := by
  unfold ins
  split
  · omega
  · have : (s.filter fun y => decide (y < x)).length + (s.filter fun y => decide (¬ y < x)).length = s.length := length_parts s x
    simp only [List.length_append, List.length_cons]
    omega
theorem length_foldl_ins (l : List Int) : ∀ s, (l.foldl ins s).length ≤ s.length + l.length := by
  induction l with
  | nil => simp
  | cons x l ih => intro s; have := ih (ins s x); have := length_ins s x; simp only [List.foldl_cons, List.length_cons]; omega
theorem length_ofL (l : List Int) : (ofL l).length ≤ l.length := by simpa [ofL] using length_foldl_ins l []

/-! by places -/
theorem ss_iff_adj (l : List Int) : SS l ↔ ∀ i, 1 ≤ i → i < l.length → l.getD (i - 1) 0 < l.getD i 0 := by
  constructor
  · intro h i h1 h2
    have := List.pairwise_iff_getElem.1 h (i - 1) i (by omega) h2 (by omega)
    simpa [show i - 1 < l.length from by omega, h2] using this
  · intro h
    refine List.pairwise_iff_getElem.2 ?_
    have key : ∀ (j i : Nat) (hj : i + j + 1 < l.length), l.getD i 0 < l.getD (i + j + 1) 0 := by
      intro j
      induction j with
      | zero => intro i hj; have := h (i + 1) (by omega) (by omega); simpa using this
      | succ j ih =>
        intro i hj
        have h1 := ih i (by omega)
        have h2 := h (i + (j + 1) + 1) (by omega) hj
        simp only [Nat.add_sub_cancel] at h2
        rw [show i + (j + 1) = i + j + 1 from by omega] at h2
        rw [show i + (j + 1) + 1 = i + j + 1 + 1 from by omega]
        omega
    intro i j hi hj hij
    have := key (j - i - 1) i (by omega)
    rw [show i + (j - i - 1) + 1 = j from by omega] at this
    simpa [hi, hj] using this
/-- How many elements of a set are less. -/
theorem ss_lt_take {s : List Int} (hs : SS s) (x : Int) : s.take (s.countP fun y => decide (y < x)) = s.filter (fun y => decide (y < x)) ∧ s.drop (s.countP fun y => decide (y < x)) = s.filter (fun y => decide (¬ y < x)) := by
  induction s with
  | nil => simp
  | cons y s ih =>
    have hy := List.pairwise_cons.1 hs
    obtain ⟨i1, i2⟩ := ih hy.2
    by_cases h : y < x
    · simp only [List.countP_cons_of_pos (p := fun y => decide (y < x)) (l := s) (a := y) (by simpa using h), List.take_succ_cons, List.drop_succ_cons, i1, i2, h, decide_true, not_true, decide_false]
      simp [h]
    · have h0 : ∀ z ∈ s, ¬ z < x := fun z hz => by have := hy.1 z hz; omega
      have hc : (y :: s).countP (fun y => decide (y < x)) = 0 := by
        rw [List.countP_eq_zero]
        intro z hz
        rcases List.mem_cons.1 hz with rfl | hz
        · simpa using h
        · simpa using h0 z hz
      rw [hc]
      constructor
      · rw [List.take_zero, eq_comm, List.filter_eq_nil_iff]
        intro z hz
        rcases List.mem_cons.1 hz with rfl | hz
        · simpa using h
        · simpa using h0 z hz
      · rw [List.drop_zero, eq_comm, List.filter_eq_self]
        intro z hz
        rcases List.mem_cons.1 hz with rfl | hz
        · simpa using h
        · simpa using h0 z hz
theorem ss_at {s : List Int} (hs : SS s) (x : Int) : x ∈ s ↔ s[s.countP fun y => decide (y < x)]? = some x := by
  obtain ⟨h1, h2⟩ := ss_lt_take hs x
  have hsplit := List.take_append_drop (s.countP fun y => decide (y < x)) s
  constructor
  · intro hx
    have hd : x ∈ s.drop (s.countP fun y => decide (y < x)) := by rw [h2]; simp [hx]
    have hss : SS (s.drop (s.countP fun y => decide (y < x))) := hs.sublist (List.drop_sublist _ _)
    cases hdr : s.drop (s.countP fun y => decide (y < x)) with
    | nil => rw [hdr] at hd; simp at hd
    | cons z r =>
      have hz : ¬ z < x := by
        have : z ∈ s.filter (fun y => decide (¬ y < x)) := by rw [← h2, hdr]; simp
        simpa using (List.mem_filter.1 this).2
      rw [hdr] at hd hss
      have hzx : z = x := by
        rcases List.mem_cons.1 hd with e | e
        · exact e.symm
        · have := (List.pairwise_cons.1 hss).1 x e; omega
      have := congrArg (·[0]?) hdr
      simp only [List.getElem?_drop, Nat.add_zero, List.getElem?_cons_zero] at this
      rw [this, hzx]
  · intro h
    exact List.mem_of_getElem? h
theorem ins_take {s : List Int} (hs : SS s) (x : Int) : ins s x = if s[s.countP fun y => decide (y < x)]? = some x then s else s.take (s.countP fun y => decide (y < x)) ++ x :: s.drop (s.countP fun y => decide (y < x)) := by
  unfold ins
  obtain ⟨h1, h2⟩ := ss_lt_take hs x
  by_cases hx : x ∈ s
  · rw [if_pos hx, if_pos ((ss_at hs x).1 hx)]
  · rw [if_neg hx, if_neg (fun h => hx ((ss_at hs x).2 h)), h1, h2]
theorem ss_le {s : List Int} (hs : SS s) : s.Pairwise (· ≤ ·) := hs.imp fun h => Int.le_of_lt h

/-! what the library's sort and Compact come to -/
open Go.Lib in
theorem mem_compactUpTo (d : Array Int) (m : Nat) (hm : m ≤ d.size) (x : Int) : x ∈ compactUpTo d m ↔ x ∈ d.toList.take m := by
  induction m with
  | zero => simp [compactUpTo]
  | succ m ih =>
    rw [compactUpTo_succ, List.mem_append, ih (by omega)]
    have hlt : m < d.toList.length := by rw [Array.length_toList]; omega
    rw [List.take_succ_eq_append_getElem hlt, List.mem_append]
    have hg : d[m]! = d.toList[m] := by rw [getElem!_pos d m (by simpa using hlt)]; simp
    by_cases hk : keeps d m = true
    · simp [hk, hg]
    · have hk' : m ≠ 0 ∧ d[m]! = d[m - 1]! := by
        simp only [keeps, decide_eq_true_eq] at hk
        exact ⟨fun h => hk (.inl h), Classical.byContradiction fun h => hk (.inr h)⟩
      simp only [Bool.not_eq_true] at hk
      simp only [hk, Bool.false_eq_true, if_false, List.not_mem_nil, or_false, List.mem_singleton]
      constructor
      · exact .inl
      · rintro (h | h)
        · exact h
        · rw [h, ← hg, hk'.2, getElem!_pos d (m - 1) (by simp at hlt; omega)]
          exact List.mem_iff_getElem.2 ⟨m - 1, by simp; simp at hlt; omega, by simp⟩
open Go.Lib in
theorem ss_compactUpTo (d : Array Int) (hd : d.toList.Pairwise (· ≤ ·)) (m : Nat) (hm : m ≤ d.size) : SS (compactUpTo d m) ∧ ∀ x ∈ compactUpTo d m, ∀ j, m ≤ j → j < d.size → (x < d[j]! ∨ (0 < m ∧ x = d[m-1]!)) := by
  have hmono : ∀ i j, i ≤ j → j < d.size → d[i]! ≤ d[j]! := by
    intro i j hij hj
    rcases Nat.eq_or_lt_of_le hij with rfl | hlt
    · exact Int.le_refl _
    · have := List.pairwise_iff_getElem.1 hd i j (by simp; omega) (by simpa using hj) hlt
      rw [getElem!_pos d i (by omega), getElem!_pos d j hj]
      simpa using this
  have hx : ∀ m, m ≤ d.size → SS (compactUpTo d m) ∧ ∀ x ∈ compactUpTo d m, 0 < m ∧ x ≤ d[m-1]! := by
    intro m
    induction m with
    | zero => intro _; simp [compactUpTo]
    | succ m ih =>
      intro hm
      obtain ⟨h1, h2⟩ := ih (by omega)
      rw [compactUpTo_succ]
      have hle := hmono (m - 1) m (by omega) (by omega)
      by_cases hk : keeps d m = true
      · rw [if_pos hk]
        refine ⟨List.pairwise_append.2 ⟨h1, by simp, ?_⟩, ?_⟩
        · intro x hxm y hy
          simp at hy
          subst hy
          obtain ⟨hm0, hxle⟩ := h2 x hxm
          simp only [keeps, decide_eq_true_eq] at hk
          rcases hk with hk | hk
          · omega
          · omega
        · intro x hxm
          refine ⟨by omega, ?_⟩
          simp only [Nat.add_sub_cancel]
          rcases List.mem_append.1 hxm with h | h
          · obtain ⟨_, hxle⟩ := h2 x h
            omega
          · simp at h; omega
      · simp only [Bool.not_eq_true] at hk
        rw [hk]
        simp only [Bool.false_eq_true, if_false, List.append_nil, Nat.add_sub_cancel]
        refine ⟨h1, fun x hxm => ⟨by omega, ?_⟩⟩
        obtain ⟨_, hxle⟩ := h2 x hxm
        omega
  obtain ⟨h1, h2⟩ := hx m hm
  refine ⟨h1, fun x hxm j hj hjd => ?_⟩
  obtain ⟨hm0, hxle⟩ := h2 x hxm
  have := hmono (m - 1) j (by omega) hjd
  rcases Int.lt_or_eq_of_le hxle with h | h
  · left; omega
  · right; exact ⟨hm0, h⟩
theorem compact_sort (l : List Int) : Go.Lib.compact (l.mergeSort fun x y => decide (x ≤ y)) = ofL l := by
  symm
  have hs : (l.mergeSort fun x y => decide (x ≤ y)).Pairwise (· ≤ ·) := by
    have := List.pairwise_mergeSort (le := fun x y : Int => decide (x ≤ y)) (by intro a b c; simp; omega) (by intro a b; simp; omega) l
    simpa using this
  refine ofL_eq ?_ fun x => ?_
  · have := (ss_compactUpTo (l.mergeSort fun x y => decide (x ≤ y)).toArray (by simpa using hs) (l.mergeSort fun x y => decide (x ≤ y)).length (by simp)).1
    exact this
  · have := mem_compactUpTo (l.mergeSort fun x y => decide (x ≤ y)).toArray (l.mergeSort fun x y => decide (x ≤ y)).length (by simp) x
    unfold Go.Lib.compact
    rw [this]
    rw [List.take_of_length_le (by simp)]
    simp
end Go.Proofs.Sat
