/- The walks of package idset (what returns a set or looks into one) and of its reference. -/
import Derived.Test.YtgjdpjefoaohkaaProg
import Derived.Test.YtgjdpjefoaohkaaBase
import Derived.Test.YtgjdpjefoaohkaaIdsL
import Derived.Test.YtgjdpjefoaohkaaShelf
import Derived.Deep.QuietTactic
import Derived.BigQuiet
import Derived.Deep.LoopGhost
import Derived.Test.YtgjdpjefoaohkaaOps
import Derived.Sort.OwnSortedInts
set_option linter.unusedVariables false
set_option linter.unusedSimpArgs false
namespace Go.Proofs.Sat
open Go Go.RowKit

theorem ret_bool {a b : Bool} (h : a = b) : Ending.returned (.bool a) = .returned (.bool b) := by rw [h]
theorem ret_int {k : IntKind} {a b : Int} (h : a = b) : Ending.returned (.int k a) = .returned (.int k b) := by rw [h]

set_option maxHeartbeats 400000 in
/-- idset.Valid. -/
theorem idset_Valid (S : Nat → Prop) (a : Option Addr) (c : Nat) (l : List Int) (w : World) (h : Rd (Kd.int .i64) S w a c l) :
    Calls Try.prog 22 #[.slice a l.length c] w fun e w' => e = .returned (.bool (decide (SS l))) ∧ Drawn w w' := by
  have hl := h.le
  go_enter Try.func22, Try.ntmps22
  go_wp2
  go_loopw [3] (fun i wr => ∃ k : Nat, 1 ≤ k ∧ (k ≤ l.length ∨ k = 1) ∧ i = .int .i64 k ∧ Hid (∀ i, 1 ≤ i → i < k → l.getD (i - 1) 0 < l.getD i 0) ∧ Drawn w wr) (fun i _ => l.length - (intOf i).toNat)
  case atStart => exact ⟨1, by omega, by omega, rfl, fun i h1 h2 => by omega, Drawn.refl _⟩
  case round =>
    obtain ⟨k, hk1, hk, rfl, hv, n, rfl⟩ := hrel
    by_cases hlt : k < l.length
    · obtain ⟨b, o, rfl, _, _, hc⟩ := h.vals (by omega) 0
      have c1 := hc (k-1) (by omega)
      have c2 := hc k (by omega)
      have g1 : (0:Int) ≤ (k:Int) - 1 := by omega
      have g2 : (k:Int) - 1 < (l.length : Int) := by omega
      have g3 : ((k:Int) - 1).toNat = k - 1 := by omega
      have E2 : Hid (l.getD k 0 = l[k]) := by simp [Hid, hlt]
      have E1 : Hid (l.getD (k-1) 0 = l[k-1]?.getD 0) := by simp [Hid]
      clear hc
      go_wp2
      go_quiet (fail)
      go_wp2
      · have hle : l[k] ≤ l[k - 1]?.getD 0 := by assumption
        go_ret
        refine ⟨ret_bool ?_, Drawn.step (Drawn.of _ _) _⟩
        symm
        rw [decide_eq_false_iff_not, ss_iff_adj]
        intro hall
        have := hall k hk1 hlt
        rw [E1.out, E2.out] at this
        omega
      · have hle : l[k - 1]?.getD 0 < l[k] := by assumption
        go_roundw
        case rel =>
          refine ⟨k + 1, by omega, by omega, by go_num, fun i h1 h2 => ?_, Drawn.of _ _⟩
          rcases Nat.lt_or_ge i k with h | h
          · exact hv.out i h1 h
          · obtain rfl : i = k := by omega
            rw [E1.out, E2.out]; exact hle
        case measure => simp [intOf]; omega
    · go_wp2
      go_ret
      refine ⟨ret_bool ?_, Drawn.of _ _⟩
      symm
      rw [decide_eq_true_eq, ss_iff_adj]
      exact fun i h1 h2 => hv.out i h1 (by omega)

theorem infoInt : ElemInfo Try.prog 22 3 (.int .i64 0) 1 8 := ⟨Try.underlying22, by kernel_rfl, rfl, by decide⟩
theorem Own.holds {e : TypeId} {S : Nat → Prop} {w : World} {base g c : Nat} {xs : List Int} (h : Own (Kd.int .i64) e S w base (.slice (some ⟨g, 0, none⟩) xs.length c) xs) : Go.Sort.Holds (Value.int .i64) w g 0 xs.toArray ∧ g < w.heap.size ∧ base ≤ g ∧ xs.length ≤ c ∧ c ≤ maxLen ∧ ∃ cur, w.heap[g]? = some (.cells cur e (0, 0)) ∧ cur.size = c := by
  rcases h.block with ⟨h0, _⟩ | ⟨g', cap, cur, hv, hb, hlt, hg, q1, q2, q3, q4⟩
  · cases h0
  · cases hv
    exact ⟨holds_of_blockI hg q4, hlt, hb, q1, q2, cur, hg, q3⟩
/-- The same row, sorted or otherwise turned by the library. -/
theorem own_turned {e : TypeId} {S : Nat → Prop} {w : World} {base g c n : Nat} {xs ts : List Int} {os : Array Obj} (h : Own (Kd.int .i64) e S w base (.slice (some ⟨g, 0, none⟩) xs.length c) xs) (hl : ts.length = xs.length) :
    Own (Kd.int .i64) e S (Go.Sort.grow (Go.Sort.putRow (Value.int .i64) (Go.Sort.ahead w n) g 0 ts.toArray) os) base (.slice (some ⟨g, 0, none⟩) ts.length c) ts ∧ w.grownBy (Go.Sort.grow (Go.Sort.putRow (Value.int .i64) (Go.Sort.ahead w n) g 0 ts.toArray) os) (some g) := by
  obtain ⟨_, _, hb, q1, q2, cur, hg, q3⟩ := h.holds
  refine ⟨?_, grownBy_sortedI _⟩
  have := ownsRow_sortedI (n := n) (os := os) hl hb hg q1 q2 (by omega)
  rw [← hl] at this
  exact ⟨_, this, elems_vals ts⟩
/-- A shorter cut of the same row. -/
theorem Own.shorter {α : Type} {enc : α → Value} {h1 : ∀ x, (enc x).oneCell' = true} {e : TypeId} {S : Nat → Prop} {w : World} {base g c : Nat} {xs ys : List α} (h : Own (Kd.val enc h1) e S w base (.slice (some ⟨g, 0, none⟩) (xs ++ ys).length c) (xs ++ ys)) :
    Own (Kd.val enc h1) e S w base (.slice (some ⟨g, 0, none⟩) xs.length c) xs := by
  rcases h.block with ⟨h0, _⟩ | ⟨g', cap, cur, hv, hb, hlt, hg, q1, q2, q3, q4⟩
  · cases h0
  · cases hv
    refine Own.of_block S hb hg (by simp at q1; omega) q2 q3 ?_
    have := congrArg (List.take xs.length) q4
    rw [List.take_take] at this
    simpa [Nat.min_eq_left] using this
theorem length_compact_le (l : List Int) : (Go.Lib.compact l).length ≤ l.length := by
  unfold Go.Lib.compact Go.Lib.compactUpTo
  rw [List.length_map]
  exact Nat.le_trans (List.length_filter_le _ _) (by simp)

/-- slices.Sort over a row of one's own. -/
theorem sort_own {S : Nat → Prop} {w : World} {base g c : Nat} {xs : List Int} (h : Own (Kd.int .i64) 3 S w base (.slice (some ⟨g, 0, none⟩) xs.length c) xs) (hs : xs.length ≤ 17592186044416) :
    Calls Try.prog 40 #[.slice (some ⟨g, 0, none⟩) xs.length c] w fun e w' => e = .returned (.tuple #[]) ∧ Own (Kd.int .i64) 3 S w' base (.slice (some ⟨g, 0, none⟩) xs.length c) (xs.mergeSort fun x y => decide (x ≤ y)) ∧ w.grownBy w' (some g) := by
  obtain ⟨hh, hlt, hb, q1, q2, cur, hg, q3⟩ := h.holds
  refine (Try.slices_Sort_int g 0 c xs w hh hlt (by omega)).mono ?_
  rintro e w' ⟨rfl, n, os, rfl⟩
  obtain ⟨r1, r2⟩ := own_turned (n := n) (os := os) h (ts := xs.mergeSort fun x y => decide (x ≤ y)) (by simp)
  refine ⟨rfl, ?_, r2⟩
  have e : (xs.mergeSort fun x y => decide (x ≤ y)).length = xs.length := by simp
  rw [e] at r1
  exact r1
/-- slices.Compact over a row of one's own. -/
theorem compact_own {S : Nat → Prop} {w : World} {base g c n : Nat} {xs : List Int} (hn : xs.length = n) (h : Own (Kd.int .i64) 3 S w base (.slice (some ⟨g, 0, none⟩) n c) xs) :
    Calls Try.prog 41 #[.slice (some ⟨g, 0, none⟩) n c] w fun e w' => ∃ v, e = .returned v ∧ Own (Kd.int .i64) 3 S w' base v (Go.Lib.compact xs) ∧ w.grownBy w' (some g) := by
  subst hn
  obtain ⟨hh, hlt, hb, q1, q2, cur, hg, q3⟩ := h.holds
  have hm : c ≤ 9223372036854775807 := by simpa [maxLen] using q2
  refine (Try.slices_Compact_int g 0 c xs w hh (by omega) q1).mono ?_
  rintro e w' ⟨rfl, n, rfl⟩
  have hl := length_compact_le xs
  obtain ⟨r1, r2⟩ := own_turned (n := n) (os := #[]) h (ts := Go.Lib.compact xs ++ List.replicate (xs.length - (Go.Lib.compact xs).length) 0) (by simp; omega)
  rw [Go.Sort.grow_empty] at r1 r2
  exact ⟨_, rfl, r1.shorter, r2⟩
theorem below_grown0 {w w1 w2 : World} {g : Nat} (h : Below w.heap.size w w1) (hg : w1.grownBy w2 (some g)) (hb : w.heap.size ≤ g) : Below w.heap.size w w2 := h.grown hg h.size (fun k hk => by cases hk; exact hb)
theorem below_grownN {w w1 w2 : World} (h : Below w.heap.size w w1) (hg : w1.grownBy w2 none) : Below w.heap.size w w2 := h.grown hg h.size (fun k hk => by cases hk)

set_option maxHeartbeats 400000 in
/-- idset.Of. -/
theorem idset_Of (S : Nat → Prop) (a : Option Addr) (c : Nat) (l : List Int) (w : World) (h : Rd (Kd.int .i64) S w a c l) (hsz : l.length ≤ 17592186044416) :
    Calls Try.prog 21 #[.slice a l.length c] w fun e w' => ∃ v, e = .returned v ∧ Own (Kd.int .i64) 3 NoS w' w.heap.size v (ofL l) ∧ Below w.heap.size w w' := by
  go_enter Try.func21, Try.ntmps21
  go_wp2_with (first
    | (refine wpList_make_ev _ rfl _ _ 22 rfl _ _ rfl rfl _ (run_mk _ (enc := fun x => .int .i64 x) (fun _ => rfl) infoInt NoS _ _ _ _ l.length rfl rfl (by omega) (by omega) (Nat.le_refl _)) ?_; rintro v' w1 ⟨ho, hg, rfl⟩)
    | (refine wpList_copy_ev _ rfl _ _ 22 22 rfl _ _ rfl rfl _ (run_cp _ infoInt _ ho _ _ (h.frame (Same.grown hg (fun b hb => by simp))) (by simp)) ?_; rintro r w2 ⟨ho2, hg2⟩)
    | (go_at_call 40; refine (sort_own ho2 hsz).mono ?_; rintro e w3 ⟨rfl, ho3, hg3⟩)
    | (go_at_call 41; refine (compact_own (by simp) ho3).mono ?_; rintro e w4 ⟨v, rfl, ho4, hg4⟩)
    | fail)
  go_ret
  rw [compact_sort] at ho4
  exact ⟨v, rfl, ho4, below_grown0 (below_grown0 (below_grown0 (below_grownN (Below.refl _ _) hg) hg2 (Nat.le_refl _)) hg3 (Nat.le_refl _)) hg4 (Nat.le_refl _)⟩

set_option maxHeartbeats 400000 in
/-- idset.set: the list itself where it is a set, else a new one. -/
theorem idset_set (S : Nat → Prop) (a : Option Addr) (c : Nat) (l : List Int) (w : World) (h : Rd (Kd.int .i64) S w a c l) (hsz : l.length ≤ 17592186044416) :
    Calls Try.prog 42 #[.slice a l.length c] w fun e w' => ∃ a' c', e = .returned (.slice a' (ofL l).length c') ∧ Rd (Kd.int .i64) (fun _ => True) w' a' c' (ofL l) ∧ Below w.heap.size w w' := by
  go_enter Try.func42, Try.ntmps42
  by_cases hs : SS l
  · have hd : Hid (ofL l = l) := ofL_self hs
    have hs' : decide (SS l) = true := by simpa using hs
    clear hs
    go_wp2_with (first
      | (go_at_call 22; refine (idset_Valid S a c l _ h).mono ?_; rintro e w1 ⟨rfl, hd1⟩)
      | fail)
    go_ret
    rw [hd.out]
    exact ⟨a, c, rfl, (h.frame (Same.drawn S hd1)).mono fun _ _ _ => trivial, hd1.below _⟩
  · have hs' : decide (SS l) = false := by simpa using hs
    clear hs
    go_wp2_with (first
      | (go_at_call 22; refine (idset_Valid S a c l _ h).mono ?_; rintro e w1 ⟨rfl, hd1⟩)
      | (go_at_call 21; refine (idset_Of S a c l _ (h.frame (Same.drawn S hd1)) hsz).mono ?_; rintro e w2 ⟨v, rfl, ho, hb⟩)
      | fail)
    go_ret
    obtain ⟨a', c', rfl, hr⟩ := ho.rd
    exact ⟨a', c', rfl, hr.mono fun _ _ _ => trivial, below_both (hd1.below _) hb⟩
set_option maxHeartbeats 400000 in
theorem search (S : Nat → Prop) (a : Option Addr) (c : Nat) (l : List Int) (x : Int) (w : World) (h : Rd (Kd.int .i64) S w a c l) (hs : SS l) (hsz : l.length ≤ 17592186044416) :
    Calls Try.prog 38 #[.slice a l.length c, .int .i64 x] w fun e w' => e = .returned (.tuple #[.int .i64 (l.countP fun y => decide (y < x) : Nat), .bool (decide (x ∈ l))]) ∧ Drawn w w' := by
  rcases Nat.eq_zero_or_pos l.length with h0 | hp
  · obtain rfl : l = [] := List.eq_nil_of_length_eq_zero h0
    refine (Try.slices_BinarySearch_int_empty a c x w).mono ?_
    rintro e w' ⟨rfl, rfl⟩
    exact ⟨by simp, Drawn.refl _⟩
  · obtain ⟨b, o, rfl, _, _, hc⟩ := h.vals hp 0
    refine (Try.slices_BinarySearch_int b o l.length c l x w (Nat.le_refl _) (by omega) hc (by simpa using ss_le hs)).mono ?_
    rintro e w' ⟨rfl, n, rfl⟩
    refine ⟨?_, Drawn.of _ _⟩
    rw [List.take_length]
    congr 3
    simp
set_option maxHeartbeats 400000 in
theorem idset_Has (S : Nat → Prop) (a : Option Addr) (c : Nat) (l : List Int) (x : Int) (w : World) (h : Rd (Kd.int .i64) S w a c l) (hsz : l.length ≤ 17592186044416) :
    Calls Try.prog 24 #[.slice a l.length c, .int .i64 x] w fun e w' => e = .returned (.bool (decide (x ∈ l))) ∧ Below w.heap.size w w' := by
  have hl := length_ofL l
  go_enter Try.func24, Try.ntmps24
  go_wp2_with (first
    | (go_at_call 42; refine (idset_set S a c l _ h hsz).mono ?_; rintro e w1 ⟨a', c', rfl, hr, hb⟩)
    | (go_at_call 38; refine (search _ a' c' (ofL l) x _ hr (ss_ofL l) (by omega)).mono ?_; rintro e w2 ⟨rfl, hd⟩)
    | fail)
  go_ret
  exact ⟨ret_bool (by simp [mem_ofL]), hb.trans (hd.below _)⟩
set_option maxHeartbeats 400000 in
theorem idset_Index (S : Nat → Prop) (a : Option Addr) (c : Nat) (l : List Int) (x : Int) (w : World) (h : Rd (Kd.int .i64) S w a c l) (hsz : l.length ≤ 17592186044416) :
    Calls Try.prog 25 #[.slice a l.length c, .int .i64 x] w fun e w' => e = .returned (.int .i64 ((ofL l).countP fun y => decide (y < x) : Nat)) ∧ Below w.heap.size w w' := by
  have hl := length_ofL l
  go_enter Try.func25, Try.ntmps25
  go_wp2_with (first
    | (go_at_call 42; refine (idset_set S a c l _ h hsz).mono ?_; rintro e w1 ⟨a', c', rfl, hr, hb⟩)
    | (go_at_call 38; refine (search _ a' c' (ofL l) x _ hr (ss_ofL l) (by omega)).mono ?_; rintro e w2 ⟨rfl, hd⟩)
    | fail)
  go_ret
  exact ⟨rfl, hb.trans (hd.below _)⟩
end Go.Proofs.Sat
