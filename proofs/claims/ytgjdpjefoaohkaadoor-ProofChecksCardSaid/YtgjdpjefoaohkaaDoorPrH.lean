/- Plain words for Needed and Trim: which steps are needed, and the steps that Trim returns. -/
import Derived.Test.YtgjdpjefoaohkaaDoorPrN0
set_option linter.unusedVariables false
set_option linter.unusedSimpArgs false
namespace Go.Proofs.Sat
open Go Go.RowKit
theorem markRefs_mono (refs : List Int) (x : Nat) : ∀ nd : List Bool, nd.getD x false = true → (markRefs nd refs).getD x false = true := by
  induction refs with
  | nil => intro nd h; exact h
  | cons r refs ih =>
    intro nd h
    refine ih _ ?_
    by_cases hx : r.toNat = x
    · subst hx
      have : r.toNat < nd.length := by
        rcases Nat.lt_or_ge r.toNat nd.length with h' | h'
        · exact h'
        · simp [List.getD_eq_getElem?_getD, List.getElem?_eq_none h'] at h
      simp [List.getD_eq_getElem?_getD, this]
    · rw [List.getD_eq_getElem?_getD, List.getElem?_set_ne hx, ← List.getD_eq_getElem?_getD]
      exact h
theorem markRefs_mem (refs : List Int) (r : Int) (hr : r ∈ refs) : ∀ nd : List Bool, r.toNat < nd.length → (markRefs nd refs).getD r.toNat false = true := by
  induction refs with
  | nil => cases hr
  | cons s refs ih =>
    intro nd h
    show (markRefs (nd.set s.toNat true) refs).getD r.toNat false = true
    rcases List.mem_cons.1 hr with rfl | hr
    · exact markRefs_mono _ _ _ (by simp [List.getD_eq_getElem?_getD, h])
    · exact ih hr _ (by simpa using h)
theorem stepNeed_mono (l : List St) (nd : List Bool) (i x : Nat) (h : nd.getD x false = true) : (stepNeed l nd i).getD x false = true := by
  unfold stepNeed
  split
  · exact markRefs_mono _ _ _ h
  · exact h
theorem needK_mono (l : List St) {j k : Nat} (hjk : j ≤ k) (x : Nat) (h : (needK l j).getD x false = true) : (needK l k).getD x false = true := by
  induction hjk with
  | refl => exact h
  | step _ ih => exact stepNeed_mono l _ _ x ih
/-- The Refs lead to earlier steps. -/
def Back (l : List St) : Prop := ∀ i (h : i < l.length), ∀ r ∈ l[i].refs, 0 ≤ r ∧ r < (i : Int)
theorem chk_back {l : List St} (h : (chk l).2 = 0) : Back l := fun i hi => wellB_refs ((chk_ok h).2.2 i hi)
theorem needK_stable {l : List St} (hb : Back l) {j : Nat} (hj : j < l.length) (x : Nat) (hx : l.length - 1 - j ≤ x) : (needK l (j + 1)).getD x false = (needK l j).getD x false := by
  show (stepNeed l (needK l j) (l.length - 1 - j)).getD x false = _
  unfold stepNeed
  split
  · have hi : l.length - 1 - j < l.length := by omega
    rw [List.getElem?_eq_getElem hi]
    rw [List.getD_eq_getElem?_getD, markRefs_other _ x _ (fun r hr => by
      have := hb _ hi r hr
      omega), ← List.getD_eq_getElem?_getD]
  · rfl
theorem needK_final {l : List St} (hb : Back l) {j k : Nat} (hjk : j ≤ k) (hk : k ≤ l.length) (x : Nat) (hx : l.length - 1 - j ≤ x) : (needK l k).getD x false = (needK l j).getD x false := by
  induction hjk with
  | refl => rfl
  | @step k hle ih =>
    have hle' : j ≤ k := hle
    rw [needK_stable hb (by omega) x (by omega), ih (by omega)]
/-- What a needed step refers to is needed. -/
theorem need_closed {l : List St} (hb : Back l) {i : Nat} (hi : i < l.length) (hn : (needAll l).getD i false = true) : ∀ r ∈ l[i].refs, (needAll l).getD r.toNat false = true := by
  intro r hr
  have hrb := hb i hi r hr
  have h1 : (needK l (l.length - 1 - i)).getD i false = true := by
    rw [← needK_final hb (show l.length - 1 - i ≤ l.length by omega) (Nat.le_refl _) i (by omega)]
    exact hn
  refine needK_mono l (show l.length - 1 - i + 1 ≤ l.length by omega) _ ?_
  show (stepNeed l (needK l (l.length - 1 - i)) (l.length - 1 - (l.length - 1 - i))).getD r.toNat false = true
  rw [show l.length - 1 - (l.length - 1 - i) = i from by omega]
  unfold stepNeed
  rw [if_pos h1, List.getElem?_eq_getElem hi]
  exact markRefs_mem _ r hr _ (by rw [needK_length]; omega)
theorem need_last {l : List St} (hp : 0 < l.length) : (needAll l).getD (l.length - 1) false = true := by
  refine needK_mono l (Nat.zero_le _) _ ?_
  show ((List.replicate l.length false).set (l.length - 1) true).getD (l.length - 1) false = true
  rw [List.getD_eq_getElem?_getD, List.getElem?_set_self (by rw [List.length_replicate]; omega)]
  rfl
theorem mem_trueK (nd : List Bool) (k : Nat) (i : Int) : i ∈ trueK nd k ↔ 0 ≤ i ∧ i < k ∧ nd.getD i.toNat false = true := by
  unfold trueK
  simp only [List.mem_map, List.mem_filter, List.mem_range]
  constructor
  · rintro ⟨j, ⟨h1, h2⟩, rfl⟩
    exact ⟨Int.natCast_nonneg _, Int.ofNat_lt.2 h1, by simpa using h2⟩
  · rintro ⟨h0, h1, h2⟩
    obtain ⟨m, rfl⟩ := Int.eq_ofNat_of_zero_le h0
    exact ⟨m, ⟨by omega, by simpa using h2⟩, rfl⟩
theorem trueK_inc (nd : List Bool) (k : Nat) : (trueK nd k).Pairwise (· < ·) := by
  unfold trueK
  rw [List.pairwise_map]
  refine List.Pairwise.imp (fun h => Int.ofNat_lt.2 h) (List.Pairwise.filter _ ?_)
  exact List.pairwise_lt_range
theorem mem_needed {l : List St} (h : (chk l).2 = 0) (i : Int) : i ∈ needed l ↔ 0 ≤ i ∧ i < l.length ∧ (needAll l).getD i.toNat false = true := by
  unfold needed
  rw [if_pos h]
  exact mem_trueK _ _ _
theorem needed_inc (l : List St) : (needed l).Pairwise (· < ·) := by
  unfold needed
  split
  · exact trueK_inc _ _
  · exact .nil
theorem needed_length (l : List St) : (needed l).length ≤ l.length := by
  unfold needed
  split
  · exact trueK_length _ _
  · simp
theorem needed_ne {l : List St} (h : (chk l).2 = 0) : needed l ≠ [] := by
  have hp := (chk_ok h).1
  have : ((l.length - 1 : Nat) : Int) ∈ needed l := (mem_needed h _).2 ⟨by omega, by omega, by simpa using need_last hp⟩
  intro e
  rw [e] at this
  cases this
/-- In a strictly increasing list: how many are below its n-th. -/
theorem count_below {N : List Int} (h : N.Pairwise (· < ·)) {n : Nat} (hn : n < N.length) : (N.countP fun y => decide (y < N[n])) = n := by
  induction N generalizing n with
  | nil => simp at hn
  | cons x N ih =>
    have hp := List.pairwise_cons.1 h
    cases n with
    | zero =>
      rw [List.countP_eq_zero.2]
      intro y hy
      rcases List.mem_cons.1 hy with rfl | hy
      · simp
      · have := hp.1 y hy
        simp
        omega
    | succ n =>
      have hn' : n < N.length := by simpa using hn
      have hx := hp.1 _ (List.getElem_mem hn')
      rw [List.countP_cons]
      simp only [List.getElem_cons_succ]
      rw [ih hp.2 hn', if_pos (by simpa using hx)]
/-- A step with its Refs' positions in a list. -/
def movedS (N : List Int) (x : St) : St := { x with refs := x.refs.map fun r => ((N.countP fun y => decide (y < r) : Nat) : Int) }
def trimN (l : List St) (n : Nat) : List St := ((needed l).take n).filterMap fun i => (l[i.toNat]?).map (movedS (needed l))
def trimL (l : List St) : List St := if (chk l).2 = 0 then trimN l (needed l).length else l
theorem needed_at {l : List St} (h : (chk l).2 = 0) {n : Nat} (hn : n < (needed l).length) : 0 ≤ (needed l)[n] ∧ (needed l)[n] < l.length ∧ (needAll l).getD ((needed l)[n]).toNat false = true := (mem_needed h _).1 (List.getElem_mem hn)
theorem trimN_succ {l : List St} (h : (chk l).2 = 0) {n : Nat} (hn : n < (needed l).length) (hi : ((needed l)[n]).toNat < l.length) : trimN l (n + 1) = trimN l n ++ [movedS (needed l) l[((needed l)[n]).toNat]] := by
  unfold trimN
  rw [List.take_succ_eq_append_getElem hn, List.filterMap_append]
  simp [hi]
theorem trimN_length {l : List St} (h : (chk l).2 = 0) : ∀ n, n ≤ (needed l).length → (trimN l n).length = n
  | 0, _ => by simp [trimN]
  | n + 1, hn => by
    have ha := needed_at h (show n < (needed l).length by omega)
    rw [trimN_succ h (by omega) (by omega), List.length_append, trimN_length h n (by omega)]
    rfl
/-- A step that the n-th needed step refers to is among the first n needed ones. -/
theorem needed_ref {l : List St} (h : (chk l).2 = 0) {n : Nat} (hn : n < (needed l).length) (hi : ((needed l)[n]).toNat < l.length) : ∀ r ∈ l[((needed l)[n]).toNat].refs, ∃ m, ∃ hm : m < n, (needed l)[m]'(by omega) = r := by
  intro r hr
  have ha := needed_at h hn
  have hrb := chk_back h _ hi r hr
  have hrn : r ∈ needed l := (mem_needed h r).2 ⟨hrb.1, by omega, need_closed (chk_back h) hi ha.2.2 r hr⟩
  obtain ⟨m, hm, rfl⟩ := List.getElem_of_mem hrn
  refine ⟨m, ?_, rfl⟩
  rcases Nat.lt_or_ge m n with h' | h'
  · exact h'
  · exfalso
    rcases Nat.lt_or_eq_of_le h' with h'' | rfl
    · have := List.pairwise_iff_getElem.1 (needed_inc l) n m hn hm h''
      omega
    · omega
/-- The row of positions in the midst of the rounds. -/
def mvRow (N refs : List Int) (k : Nat) : List Int := (refs.take k).map (fun r => ((N.countP fun y => decide (y < r) : Nat) : Int)) ++ List.replicate (refs.length - k) 0
theorem mvRow_length (N refs : List Int) {k : Nat} (hk : k ≤ refs.length) : (mvRow N refs k).length = refs.length := by
  unfold mvRow
  rw [List.length_append, List.length_map, List.length_take, List.length_replicate]; omega
theorem mvRow_succ (N refs : List Int) {k : Nat} (hk : k < refs.length) : (mvRow N refs k).set k ((N.countP fun y => decide (y < refs[k]) : Nat) : Int) = mvRow N refs (k + 1) := by
  unfold mvRow
  have hl : ((refs.take k).map (fun r => ((N.countP fun y => decide (y < r) : Nat) : Int))).length = k := by rw [List.length_map, List.length_take]; omega
  rw [List.set_append_right _ _ (by omega), hl, Nat.sub_self, show refs.length - k = (refs.length - (k + 1)) + 1 from by omega, List.replicate_succ, List.set_cons_zero, List.take_succ_eq_append_getElem hk, List.map_append, List.append_assoc]
  rfl
end Go.Proofs.Sat
