/- Plain laws of Trim and Join: what ProofKeeps asks. No program stands in it. -/
import Derived.Test.YtgjdpjefoaohkaaDoorPrH
import Derived.Test.YtgjdpjefoaohkaaDoorPrE0
import Derived.Test.YtgjdpjefoaohkaaDoorPrK
set_option linter.unusedVariables false
set_option linter.unusedSimpArgs false
namespace Go.Proofs.Sat
open Go Go.RowKit
/-- Strictly increasing lists with the same members are equal. -/
theorem inc_ext : ∀ {a b : List Int}, a.Pairwise (· < ·) → b.Pairwise (· < ·) → (∀ x, x ∈ a ↔ x ∈ b) → a = b
  | [], [], _, _, _ => rfl
  | [], y :: b, _, _, h => absurd ((h y).2 (by simp)) (by simp)
  | x :: a, [], _, _, h => absurd ((h x).1 (by simp)) (by simp)
  | x :: a, y :: b, ha, hb, h => by
    have ha' := List.pairwise_cons.1 ha
    have hb' := List.pairwise_cons.1 hb
    have hxy : x = y := by
      rcases List.mem_cons.1 ((h x).1 (by simp)) with e | hx
      · exact e
      · rcases List.mem_cons.1 ((h y).2 (by simp)) with e | hy
        · exact e.symm
        · have := ha'.1 y hy
          have := hb'.1 x hx
          omega
    subst hxy
    congr 1
    refine inc_ext ha'.2 hb'.2 fun z => ?_
    have hz := h z
    constructor
    · intro hm
      rcases List.mem_cons.1 (hz.1 (by simp [hm])) with rfl | hm'
      · have := ha'.1 z hm; omega
      · exact hm'
    · intro hm
      rcases List.mem_cons.1 (hz.2 (by simp [hm])) with rfl | hm'
      · have := hb'.1 z hm; omega
      · exact hm'
/-! ### Reached steps -/
inductive Reach (l : List St) : Nat → Prop where
  | last : 0 < l.length → Reach l (l.length - 1)
  | step {i : Nat} (h : i < l.length) {r : Int} : Reach l i → r ∈ l[i].refs → Reach l r.toNat
theorem Reach.lt {l : List St} (hb : Back l) {i : Nat} (h : Reach l i) : i < l.length := by
  induction h with
  | last hp => omega
  | step hi _ hr ih => have := hb _ hi _ hr; omega
theorem need_of_reach {l : List St} (hb : Back l) {i : Nat} (h : Reach l i) : (needAll l).getD i false = true := by
  induction h with
  | last hp => exact need_last hp
  | step hi _ hr ih => exact need_closed hb hi ih _ hr
theorem markRefs_only (refs : List Int) (x : Nat) : ∀ nd : List Bool, (markRefs nd refs).getD x false = true → nd.getD x false = true ∨ ∃ r ∈ refs, r.toNat = x := by
  induction refs with
  | nil => intro nd h; exact .inl h
  | cons r refs ih =>
    intro nd h
    rcases ih (nd.set r.toNat true) h with h | ⟨s, hs, e⟩
    · by_cases hx : r.toNat = x
      · exact .inr ⟨r, by simp, hx⟩
      · rw [List.getD_eq_getElem?_getD, List.getElem?_set_ne hx, ← List.getD_eq_getElem?_getD] at h
        exact .inl h
    · exact .inr ⟨s, by simp [hs], e⟩
theorem reach_of_needK {l : List St} (hp : 0 < l.length) : ∀ j x, j ≤ l.length → (needK l j).getD x false = true → Reach l x
  | 0, x, _, h => by
    by_cases hx : x = l.length - 1
    · subst hx; exact .last hp
    · exfalso
      have h' : ((List.replicate l.length false).set (l.length - 1) true).getD x false = true := h
      rw [List.getD_eq_getElem?_getD, List.getElem?_set_ne (fun e => hx e.symm)] at h'
      rcases Nat.lt_or_ge x l.length with hl | hl
      · rw [List.getElem?_replicate, if_pos hl] at h'; cases h'
      · rw [List.getElem?_replicate, if_neg (by omega)] at h'; cases h'
  | j + 1, x, hj, h => by
    have h' : (stepNeed l (needK l j) (l.length - 1 - j)).getD x false = true := h
    unfold stepNeed at h'
    split at h'
    · rename_i hm
      have hi : l.length - 1 - j < l.length := by omega
      rw [List.getElem?_eq_getElem hi] at h'
      rcases markRefs_only _ x _ h' with h'' | ⟨r, hr, rfl⟩
      · exact reach_of_needK hp j x (by omega) h''
      · exact .step hi (reach_of_needK hp j _ (by omega) hm) hr
    · exact reach_of_needK hp j x (by omega) h'
theorem need_iff {l : List St} (hb : Back l) (hp : 0 < l.length) (i : Nat) : (needAll l).getD i false = true ↔ Reach l i :=
  ⟨reach_of_needK hp _ i (Nat.le_refl _), need_of_reach hb⟩
theorem mem_needed_reach {l : List St} (h : (chk l).2 = 0) (i : Int) : i ∈ needed l ↔ 0 ≤ i ∧ Reach l i.toNat := by
  rw [mem_needed h, need_iff (chk_back h) (chk_ok h).1]
  constructor
  · rintro ⟨h0, h1, h2⟩; exact ⟨h0, h2⟩
  · rintro ⟨h0, h2⟩
    have := h2.lt (chk_back h)
    exact ⟨h0, by omega, h2⟩
/-! ### Checks -/
theorem chk_intro {l : List St} (hp : 0 < l.length) (hn : l.length ≤ 65536) (h : ∀ j (hj : j < l.length), wellB l[j] (j : Nat) = true) : chk l = (0, 0) := by
  unfold chk
  rw [if_neg (by omega), if_neg (by omega), firstBad_none l 0 (fun j hj => by simpa using h j hj)]
theorem chk_zero {l : List St} (h : (chk l).2 = 0) : chk l = (0, 0) := by
  obtain ⟨h1, h2, h3⟩ := chk_ok h
  exact chk_intro h1 h2 h3
theorem well_parts {x : St} {i : Int} (h : wellB x i = true) : numOk x = true := by
  unfold wellB at h
  rw [Bool.and_eq_true] at h
  exact h.1
theorem well_mk {x : St} {i : Int} (h1 : numOk x = true) (h2 : ∀ r ∈ x.refs, 0 ≤ r ∧ r < i) : wellB x i = true := by
  unfold wellB
  rw [h1, Bool.true_and, List.all_eq_true]
  intro r hr
  have := h2 r hr
  simp [this.1, this.2]
theorem numOk_refs (x : St) (rs : List Int) (h : rs.length = x.refs.length) : numOk { x with refs := rs } = numOk x := by
  unfold numOk
  simp only [h]
/-! ### Trim -/
theorem movedS_length (N : List Int) (x : St) : (movedS N x).refs.length = x.refs.length := List.length_map _
theorem trimN_at {l : List St} (h : (chk l).2 = 0) : ∀ n, n ≤ (needed l).length → ∀ k (hk : k < n) (hN : k < (needed l).length) (hi : ((needed l)[k]).toNat < l.length), (trimN l n)[k]? = some (movedS (needed l) l[((needed l)[k]).toNat])
  | 0, _, k, hk, _, _ => by omega
  | n + 1, hn, k, hk, hN, hi => by
    have ha := needed_at h (show n < (needed l).length by omega)
    have hin : ((needed l)[n]).toNat < l.length := by omega
    rw [trimN_succ h (by omega) hin]
    rcases Nat.lt_or_ge k n with h' | h'
    · rw [List.getElem?_append_left (by rw [trimN_length h n (by omega)]; exact h')]
      exact trimN_at h n (by omega) k h' hN hi
    · obtain rfl : k = n := by omega
      rw [List.getElem?_append_right (by rw [trimN_length h k (by omega)]; exact Nat.le_refl _), trimN_length h k (by omega), Nat.sub_self]
      rfl
theorem trimL_length {l : List St} (h : (chk l).2 = 0) : (trimL l).length = (needed l).length := by
  unfold trimL
  rw [if_pos h, trimN_length h _ (Nat.le_refl _)]
theorem trimL_at {l : List St} (h : (chk l).2 = 0) {k : Nat} (hk : k < (trimL l).length) (hN : k < (needed l).length) (hi : ((needed l)[k]).toNat < l.length) : (trimL l)[k] = movedS (needed l) l[((needed l)[k]).toNat] := by
  have := trimN_at h _ (Nat.le_refl _) k hN hN hi
  have e : (trimL l)[k]? = (trimN l (needed l).length)[k]? := by unfold trimL; rw [if_pos h]
  rw [← e, List.getElem?_eq_getElem hk] at this
  simpa using this
theorem idx_lt {l : List St} (h : (chk l).2 = 0) {k : Nat} (hN : k < (needed l).length) : ((needed l)[k]).toNat < l.length := by
  have := needed_at h hN; omega
/-- The Refs of the k-th step that Trim returns. -/
theorem moved_refs {l : List St} (h : (chk l).2 = 0) {k : Nat} (hN : k < (needed l).length) : ∀ r ∈ (movedS (needed l) (l[((needed l)[k]).toNat]'(idx_lt h hN))).refs, ∃ m, ∃ hm : m < k, r = (m : Nat) ∧ (needed l)[m]'(by omega) ∈ (l[((needed l)[k]).toNat]'(idx_lt h hN)).refs := by
  intro r hr
  obtain ⟨s, hs, rfl⟩ := List.mem_map.1 hr
  obtain ⟨m, hm, rfl⟩ := needed_ref h hN (idx_lt h hN) s hs
  exact ⟨m, hm, by rw [count_below (needed_inc l) (by omega)], hs⟩
theorem trim_chk {l : List St} (h : (chk l).2 = 0) : chk (trimL l) = (0, 0) := by
  have hne := List.length_pos_iff.2 (needed_ne h)
  have hle := needed_length l
  obtain ⟨h1, h2, h3⟩ := chk_ok h
  refine chk_intro (by rw [trimL_length h]; exact hne) (by rw [trimL_length h]; omega) fun k hk => ?_
  have hN : k < (needed l).length := by rw [trimL_length h] at hk; exact hk
  rw [trimL_at h hk hN (idx_lt h hN)]
  refine well_mk ?_ fun r hr => ?_
  · exact (numOk_refs (l[((needed l)[k]).toNat]'(idx_lt h hN)) _ (movedS_length (needed l) _)).trans (well_parts (h3 _ (idx_lt h hN)))
  · obtain ⟨m, hm, rfl, _⟩ := moved_refs h hN r hr
    omega
theorem needed_last {l : List St} (h : (chk l).2 = 0) : (needed l)[(needed l).length - 1]'(by have := List.length_pos_iff.2 (needed_ne h); omega) = ((l.length - 1 : Nat) : Int) := by
  have hp := (chk_ok h).1
  have hmem : ((l.length - 1 : Nat) : Int) ∈ needed l := (mem_needed_reach h _).2 ⟨by omega, by simpa using Reach.last hp⟩
  obtain ⟨k, hk, e⟩ := List.getElem_of_mem hmem
  rcases Nat.lt_or_ge k ((needed l).length - 1) with h' | h'
  · have h2 := List.pairwise_iff_getElem.1 (needed_inc l) k ((needed l).length - 1) hk (by omega) h'
    have := needed_at h (show (needed l).length - 1 < (needed l).length by omega)
    rw [e] at h2
    omega
  · obtain rfl : k = (needed l).length - 1 := by omega
    exact e
theorem reach_trim {l : List St} (h : (chk l).2 = 0) {i : Nat} (hr : Reach l i) : ∀ k (hk : k < (needed l).length), (needed l)[k] = (i : Int) → Reach (trimL l) k := by
  induction hr with
  | last hp =>
    intro k hk e
    have hne := List.length_pos_iff.2 (needed_ne h)
    have hl := needed_last h
    have : k = (needed l).length - 1 := by
      have h1 := count_below (needed_inc l) hk
      have h2 := count_below (needed_inc l) (show (needed l).length - 1 < (needed l).length by omega)
      rw [e] at h1
      rw [hl] at h2
      omega
    subst this
    rw [← trimL_length h]
    exact .last (by rw [trimL_length h]; exact hne)
  | @step i hi r hri hrr ih =>
    intro k hk e
    have hrb := chk_back h i hi r hrr
    rw [Int.toNat_of_nonneg hrb.1] at e
    obtain ⟨k', hk', e'⟩ := List.getElem_of_mem ((mem_needed_reach h (i : Int)).2 ⟨by omega, by simpa using hri⟩)
    have hR := ih k' hk' e'
    have hkt : k' < (trimL l).length := by rw [trimL_length h]; exact hk'
    have hto : ((needed l)[k']).toNat = i := by rw [e']; simp
    have : ((k : Nat) : Int) ∈ (trimL l)[k'].refs := by
      rw [trimL_at h hkt hk' (idx_lt h hk')]
      refine List.mem_map.2 ⟨r, ?_, ?_⟩
      · simp only [hto]; exact hrr
      · rw [← e, count_below (needed_inc l) hk]
    have := Reach.step hkt hR this
    simpa using this
/-- All steps that Trim returns are needed. -/
theorem needed_trim {l : List St} (h : (chk l).2 = 0) : needed (trimL l) = (List.range (trimL l).length).map Int.ofNat := by
  have hc : (chk (trimL l)).2 = 0 := by rw [trim_chk h]
  refine inc_ext (needed_inc _) ?_ fun x => ?_
  · rw [List.pairwise_map]
    exact List.pairwise_lt_range.imp fun h => Int.ofNat_lt.2 h
  · rw [mem_needed_reach hc]
    constructor
    · rintro ⟨h0, hr⟩
      have := hr.lt (chk_back hc)
      exact List.mem_map.2 ⟨x.toNat, List.mem_range.2 this, by simp; omega⟩
    · intro hx
      obtain ⟨k, hk, rfl⟩ := List.mem_map.1 hx
      rw [List.mem_range, trimL_length h] at hk
      have ha := needed_at h hk
      refine ⟨Int.natCast_nonneg _, ?_⟩
      have hm := (mem_needed_reach h _).1 (List.getElem_mem hk)
      have := reach_trim h hm.2 k hk (by rw [Int.toNat_of_nonneg hm.1])
      simpa using this
theorem needed_trim_length {l : List St} (h : (chk l).2 = 0) : (needed (trimL l)).length = (trimL l).length := by
  rw [needed_trim h]; simp
theorem count_range (m r : Nat) (h : r ≤ m) : (((List.range m).map Int.ofNat).countP fun y => decide (y < (r : Int))) = r := by
  induction m generalizing r with
  | zero => have : r = 0 := by omega
            subst this; rfl
  | succ m ih =>
    rw [List.range_succ, List.map_append, List.countP_append]
    rcases Nat.lt_or_eq_of_le h with h' | rfl
    · rw [ih r (by omega)]
      simp
      omega
    · have : (((List.range m).map Int.ofNat).countP fun y => decide (y < ((m + 1 : Nat) : Int))) = m := by
        rw [List.countP_eq_length.2]
        · simp
        · intro x hx
          obtain ⟨k, hk, rfl⟩ := List.mem_map.1 hx
          rw [List.mem_range] at hk
          simp
          omega
      rw [this]
      simp
      omega
theorem trim_idem {l : List St} (h : (chk l).2 = 0) : trimL (trimL l) = trimL l := by
  have hc : (chk (trimL l)).2 = 0 := by rw [trim_chk h]
  refine List.ext_getElem (by rw [trimL_length hc, needed_trim_length h]) fun k h1 h2 => ?_
  have hk : k < (needed (trimL l)).length := by rw [needed_trim_length h]; exact h2
  have e : (needed (trimL l))[k] = (k : Int) := by simp [needed_trim h]
  have hto : ((needed (trimL l))[k]).toNat = k := by rw [e]; simp
  rw [trimL_at hc h1 hk (idx_lt hc hk)]
  simp only [hto]
  have hb := chk_back hc k h2
  have : ((trimL l)[k].refs.map fun r => (((needed (trimL l)).countP fun y => decide (y < r) : Nat) : Int)) = (trimL l)[k].refs := by
    conv => rhs; rw [← List.map_id (trimL l)[k].refs]
    refine List.map_congr_left fun r hr => ?_
    have := hb r hr
    rw [needed_trim h]
    obtain ⟨m, rfl⟩ := Int.eq_ofNat_of_zero_le this.1
    rw [count_range _ m (by omega)]
    rfl
  unfold movedS
  rw [this]
theorem trim_le {l : List St} (h : (chk l).2 = 0) : (trimL l).length ≤ l.length := by
  rw [trimL_length h]; exact needed_length l
/-! ### Depth -/
def maxF (f : Int → Int) (refs : List Int) : Int := refs.foldl (fun n r => max n (f r)) 0
theorem maxF_congr {f g : Int → Int} (refs : List Int) (h : ∀ r ∈ refs, f r = g r) : maxF f refs = maxF g refs := by
  unfold maxF
  suffices H : ∀ n : Int, refs.foldl (fun n r => max n (f r)) n = refs.foldl (fun n r => max n (g r)) n from H 0
  induction refs with
  | nil => intro n; rfl
  | cons r refs ih =>
    intro n
    simp only [List.foldl_cons]
    rw [h r (by simp), ih fun s hs => h s (by simp [hs])]
theorem maxF_map (f : Int → Int) (g : Int → Int) (refs : List Int) : maxF f (refs.map g) = maxF (fun r => f (g r)) refs := by
  unfold maxF
  rw [List.foldl_map]
theorem maxD_eq (acc refs : List Int) : maxD acc refs = maxF (fun r => acc.getD r.toNat 0) refs := rfl
/-- The depth of a step. -/
def dAt (l : List St) (i : Nat) : Int := (deepN l l.length).getD i 0
theorem deepN_prefix (l : List St) {i n m : Nat} (hi : i < n) (hnm : n ≤ m) (hm : m ≤ l.length) : (deepN l m).getD i 0 = (deepN l n).getD i 0 := by
  induction hnm with
  | refl => rfl
  | @step m hle ih =>
    have hle' : n ≤ m := hle
    rw [deepN_succ l (by omega), List.getD_eq_getElem?_getD, List.getElem?_append_left (by rw [deepN_length]; omega), ← List.getD_eq_getElem?_getD, ih (by omega)]
theorem dAt_eq {l : List St} (hb : Back l) {i : Nat} (hi : i < l.length) : dAt l i = maxF (fun r => dAt l r.toNat) l[i].refs + 1 := by
  unfold dAt
  rw [deepN_prefix l (show i < i + 1 by omega) (by omega) (Nat.le_refl _), deepN_succ l hi, List.getD_eq_getElem?_getD, List.getElem?_append_right (by rw [deepN_length]; exact Nat.le_refl _), deepN_length, Nat.sub_self]
  show maxD (deepN l i) l[i].refs + 1 = _
  rw [maxD_eq]
  congr 1
  refine maxF_congr _ fun r hr => ?_
  have := hb i hi r hr
  exact (deepN_prefix l (show r.toNat < i by omega) (by omega) (Nat.le_refl _)).symm
theorem depth_eq {l : List St} (h : (chk l).2 = 0) : depthOf l = dAt l (l.length - 1) := if_pos h
theorem dAt_trim {l : List St} (h : (chk l).2 = 0) : ∀ k (hk : k < (needed l).length), dAt (trimL l) k = dAt l ((needed l)[k]).toNat := by
  have hc : (chk (trimL l)).2 = 0 := by rw [trim_chk h]
  intro k
  induction k using Nat.strongRecOn with
  | ind k ih =>
    intro hk
    have hkt : k < (trimL l).length := by rw [trimL_length h]; exact hk
    rw [dAt_eq (chk_back hc) hkt, dAt_eq (chk_back h) (idx_lt h hk), trimL_at h hkt hk (idx_lt h hk)]
    congr 1
    unfold movedS
    rw [maxF_map]
    refine maxF_congr _ fun r hr => ?_
    obtain ⟨m, hm, rfl⟩ := needed_ref h hk (idx_lt h hk) r hr
    rw [count_below (needed_inc l) (by omega)]
    simpa using ih m hm (by omega)
theorem depth_trim {l : List St} (h : (chk l).2 = 0) : depthOf (trimL l) = depthOf l := by
  have hc : (chk (trimL l)).2 = 0 := by rw [trim_chk h]
  have hne := List.length_pos_iff.2 (needed_ne h)
  rw [depth_eq hc, depth_eq h, trimL_length h, dAt_trim h _ (by omega), needed_last h]
  simp
/-! ### Join -/
theorem shift_refs {n : Nat} {x : St} {i : Nat} (hi : n + i ≤ 1000000) (h : ∀ r ∈ x.refs, 0 ≤ r ∧ r < (i : Int)) : (shiftS n x).refs = x.refs.map fun r => r + (n : Int) := by
  unfold shiftS
  refine List.map_congr_left fun r hr => ?_
  have := h r hr
  unfold wrap64
  omega
theorem joinL_length (l1 l2 : List St) : (joinL l1 l2).length = l1.length + l2.length := by unfold joinL; simp
theorem joinL_left {l1 l2 : List St} {i : Nat} (hi : i < l1.length) (h : i < (joinL l1 l2).length) : (joinL l1 l2)[i] = l1[i] := by
  unfold joinL
  exact List.getElem_append_left hi
theorem joinL_right {l1 l2 : List St} {i : Nat} (hi : i < l2.length) (h : l1.length + i < (joinL l1 l2).length) : (joinL l1 l2)[l1.length + i] = shiftS l1.length l2[i] := by
  have : (joinL l1 l2)[l1.length + i]? = some (shiftS l1.length l2[i]) := by
    unfold joinL
    rw [List.getElem?_append_right (by omega)]
    simp [hi]
  rw [List.getElem?_eq_getElem h] at this
  simpa using this
theorem join_chk {l1 l2 : List St} (h1 : (chk l1).2 = 0) (h2 : (chk l2).2 = 0) (hn : l1.length + l2.length ≤ 65536) : chk (joinL l1 l2) = (0, 0) := by
  obtain ⟨p1, q1, w1⟩ := chk_ok h1
  obtain ⟨p2, q2, w2⟩ := chk_ok h2
  refine chk_intro (by rw [joinL_length]; omega) (by rw [joinL_length]; exact hn) fun j hj => ?_
  rcases Nat.lt_or_ge j l1.length with hlt | hge
  · rw [joinL_left hlt hj]; exact w1 j hlt
  · obtain ⟨i, rfl⟩ := Nat.exists_eq_add_of_le hge
    rw [joinL_length] at hj
    have hi : i < l2.length := by omega
    rw [joinL_right hi (by rw [joinL_length]; exact hj)]
    refine well_mk ?_ fun r hr => ?_
    · exact (numOk_refs l2[i] _ (List.length_map _)).trans (well_parts (w2 i hi))
    · rw [shift_refs (i := i) (by omega) (chk_back h2 i hi)] at hr
      obtain ⟨s, hs, rfl⟩ := List.mem_map.1 hr
      have := chk_back h2 i hi s hs
      omega
theorem dAt_join {l1 l2 : List St} (h1 : (chk l1).2 = 0) (h2 : (chk l2).2 = 0) (hn : l1.length + l2.length ≤ 65536) : ∀ i (hi : i < l2.length), dAt (joinL l1 l2) (l1.length + i) = dAt l2 i := by
  have hc : (chk (joinL l1 l2)).2 = 0 := by rw [join_chk h1 h2 hn]
  intro i
  induction i using Nat.strongRecOn with
  | ind i ih =>
    intro hi
    have hj : l1.length + i < (joinL l1 l2).length := by rw [joinL_length]; omega
    rw [dAt_eq (chk_back hc) hj, dAt_eq (chk_back h2) hi, joinL_right hi hj, shift_refs (i := i) (by omega) (chk_back h2 i hi), maxF_map]
    congr 1
    refine maxF_congr _ fun r hr => ?_
    have := chk_back h2 i hi r hr
    rw [← ih r.toNat (by omega) (by omega)]
    congr 1
    omega
theorem depth_join {l1 l2 : List St} (h1 : (chk l1).2 = 0) (h2 : (chk l2).2 = 0) (hn : l1.length + l2.length ≤ 65536) : depthOf (joinL l1 l2) = depthOf l2 := by
  have hc : (chk (joinL l1 l2)).2 = 0 := by rw [join_chk h1 h2 hn]
  have hp := (chk_ok h2).1
  rw [depth_eq hc, depth_eq h2, joinL_length, show l1.length + l2.length - 1 = l1.length + (l2.length - 1) from by omega, dAt_join h1 h2 hn _ (by omega)]
theorem reach_join {l1 l2 : List St} (h1 : (chk l1).2 = 0) (h2 : (chk l2).2 = 0) (hn : l1.length + l2.length ≤ 65536) (x : Nat) : Reach (joinL l1 l2) x ↔ ∃ i, x = l1.length + i ∧ Reach l2 i := by
  have hp := (chk_ok h2).1
  constructor
  · intro h
    induction h with
    | last _ => exact ⟨l2.length - 1, by rw [joinL_length]; omega, .last hp⟩
    | @step y hy r _ hr ih =>
      obtain ⟨i, rfl, hi⟩ := ih
      have hil := hi.lt (chk_back h2)
      rw [joinL_right hil hy, shift_refs (i := i) (by omega) (chk_back h2 i hil)] at hr
      obtain ⟨s, hs, rfl⟩ := List.mem_map.1 hr
      have := chk_back h2 i hil s hs
      exact ⟨s.toNat, by omega, .step hil hi hs⟩
  · rintro ⟨i, rfl, h⟩
    induction h with
    | last _ =>
      have := Reach.last (l := joinL l1 l2) (by rw [joinL_length]; omega)
      rw [joinL_length] at this
      rwa [show l1.length + l2.length - 1 = l1.length + (l2.length - 1) from by omega] at this
    | @step i hi r _ hr ih =>
      have hb := chk_back h2 i hi r hr
      have hj : l1.length + i < (joinL l1 l2).length := by rw [joinL_length]; omega
      have hm : r + (l1.length : Int) ∈ (joinL l1 l2)[l1.length + i].refs := by
        rw [joinL_right hi hj, shift_refs (i := i) (by omega) (chk_back h2 i hi)]
        exact List.mem_map.2 ⟨r, hr, rfl⟩
      have := Reach.step hj ih hm
      rwa [show (r + (l1.length : Int)).toNat = l1.length + r.toNat from by omega] at this
theorem needed_join {l1 l2 : List St} (h1 : (chk l1).2 = 0) (h2 : (chk l2).2 = 0) (hn : l1.length + l2.length ≤ 65536) : needed (joinL l1 l2) = (needed l2).map fun r => r + (l1.length : Int) := by
  have hc : (chk (joinL l1 l2)).2 = 0 := by rw [join_chk h1 h2 hn]
  refine inc_ext (needed_inc _) ?_ fun x => ?_
  · rw [List.pairwise_map]
    exact (needed_inc l2).imp fun h => by omega
  · rw [mem_needed_reach hc, reach_join h1 h2 hn, List.mem_map]
    constructor
    · rintro ⟨h0, i, e, hi⟩
      exact ⟨(i : Int), (mem_needed_reach h2 _).2 ⟨Int.natCast_nonneg _, by simpa using hi⟩, by omega⟩
    · rintro ⟨y, hy, rfl⟩
      obtain ⟨hy0, hyr⟩ := (mem_needed_reach h2 _).1 hy
      exact ⟨by omega, y.toNat, by omega, hyr⟩
theorem trim_join {l1 l2 : List St} (h1 : (chk l1).2 = 0) (h2 : (chk l2).2 = 0) (hn : l1.length + l2.length ≤ 65536) : trimL (joinL l1 l2) = trimL l2 := by
  have hc : (chk (joinL l1 l2)).2 = 0 := by rw [join_chk h1 h2 hn]
  have hN := needed_join h1 h2 hn
  refine List.ext_getElem (by rw [trimL_length hc, trimL_length h2, hN, List.length_map]) fun k hk1 hk2 => ?_
  have hkj : k < (needed (joinL l1 l2)).length := by rw [trimL_length hc] at hk1; exact hk1
  have hk : k < (needed l2).length := by rw [trimL_length h2] at hk2; exact hk2
  have e : (needed (joinL l1 l2))[k] = (needed l2)[k] + (l1.length : Int) := by simp [hN]
  have h0 := needed_at h2 hk
  have hi := idx_lt h2 hk
  have hto : ((needed (joinL l1 l2))[k]).toNat = l1.length + ((needed l2)[k]).toNat := by rw [e]; omega
  rw [trimL_at hc hk1 hkj (idx_lt hc hkj), trimL_at h2 hk2 hk hi]
  simp only [hto]
  rw [joinL_right hi]
  have hrefs := shift_refs (n := l1.length) (x := l2[((needed l2)[k]).toNat]) (i := ((needed l2)[k]).toNat) (by omega) (chk_back h2 _ hi)
  have : ((shiftS l1.length l2[((needed l2)[k]).toNat]).refs.map fun r => (((needed (joinL l1 l2)).countP fun y => decide (y < r) : Nat) : Int)) = (l2[((needed l2)[k]).toNat].refs.map fun r => (((needed l2).countP fun y => decide (y < r) : Nat) : Int)) := by
    rw [hrefs, List.map_map]
    refine List.map_congr_left fun r _ => ?_
    show (((needed (joinL l1 l2)).countP fun y => decide (y < r + (l1.length : Int)) : Nat) : Int) = _
    rw [hN, List.countP_map]
    congr 1
    refine List.countP_congr fun y _ => ?_
    simp
  unfold movedS
  rw [this]
  rfl
end Go.Proofs.Sat
