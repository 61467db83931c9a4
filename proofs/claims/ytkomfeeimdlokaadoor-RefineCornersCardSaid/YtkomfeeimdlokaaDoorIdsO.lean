/- The walks of idset's Valid, Of and set. -/
import Derived.Test.YtkomfeeimdlokaaDoorSortW
import Derived.Sort.OwnSortedInts
set_option linter.unusedVariables false
set_option linter.unusedSimpArgs false
namespace Go.Proofs.Sat
open Go Go.RowKit
set_option maxRecDepth 20000 in
set_option maxHeartbeats 400000 in
/-- idset.Valid. -/
theorem idset_Valid (S : Nat → Prop) (a : Option Addr) (c : Nat) (l : List Int) (w : World) (h : Rd (Kd.int .i64) S w a c l) :
    Calls Tryd.prog 63 #[.slice a l.length c] w fun e w' => e = .returned (.bool (decide (SS l))) ∧ Drawn w w' := by
  have hl := h.le
  go_enter Tryd.func63, Tryd.ntmps63
  go_wp2
  go_loopw [3] (fun i wr => ∃ k : Nat, 1 ≤ k ∧ (k ≤ l.length ∨ k = 1) ∧ i = .int .i64 k ∧ Hid (∀ i, 1 ≤ i → i < k → l.getD (i - 1) 0 < l.getD i 0) ∧ Drawn w wr) (fun i _ => l.length - (intOf i).toNat)
  case atStart => exact ⟨1, by omega, by omega, rfl, fun i h1 h2 => by omega, Drawn.refl _⟩
  case round =>
    obtain ⟨k, hk1, hk, rfl, hv, n, rfl⟩ := hrel
    by_cases hlt : k < l.length
    · obtain ⟨b, o, rfl, _, _, hc⟩ := h.vals (by omega) 0
      have c1 := hc (k-1) (by omega)
      have c2 := hc k (by omega)
      have g1 : (0:Int) ≤ (k:Int) - 1 := by omega
      have g2 : (k:Int) - 1 < (l.length : Int) := by omega
      have g3 : ((k:Int) - 1).toNat = k - 1 := by omega
      have E2 : Hid (l.getD k 0 = l[k]) := by simp [Hid, hlt]
      have E1 : Hid (l.getD (k-1) 0 = l[k-1]?.getD 0) := by simp [Hid]
      clear hc
      go_wp2
      go_quiet (fail)
      go_wp2
      · have hle : l[k] ≤ l[k - 1]?.getD 0 := by assumption
        go_ret
        refine ⟨ret_bool ?_, Drawn.step (Drawn.of _ _) _⟩
        symm
        rw [decide_eq_false_iff_not, ss_iff_adj]
        intro hall
        have := hall k hk1 hlt
        rw [E1.out, E2.out] at this
        omega
      · have hle : l[k - 1]?.getD 0 < l[k] := by assumption
        go_roundw
        case rel =>
          refine ⟨k + 1, by omega, by omega, by go_num, fun i h1 h2 => ?_, Drawn.of _ _⟩
          rcases Nat.lt_or_ge i k with h | h
          · exact hv.out i h1 h
          · obtain rfl : i = k := by omega
            rw [E1.out, E2.out]; exact hle
        case measure => simp [intOf]; omega
    · go_wp2
      go_ret
      refine ⟨ret_bool ?_, Drawn.of _ _⟩
      symm
      rw [decide_eq_true_eq, ss_iff_adj]
      exact fun i h1 h2 => hv.out i h1 (by omega)

set_option maxRecDepth 20000 in
set_option maxHeartbeats 400000 in
/-- idset.Of. -/
theorem idset_Of (S : Nat → Prop) (a : Option Addr) (c : Nat) (l : List Int) (w : World) (h : Rd (Kd.int .i64) S w a c l) (hsz : l.length ≤ 17592186044416) :
    Calls Tryd.prog 59 #[.slice a l.length c] w fun e w' => ∃ v, e = .returned v ∧ Own (Kd.int .i64) 3 NoS w' w.heap.size v (ofL l) ∧ Below w.heap.size w w' := by
  go_enter Tryd.func59, Tryd.ntmps59
  go_wp2_with (first
    | (refine wpList_make_ev _ rfl _ _ 22 rfl _ _ rfl rfl _ (run_mk _ (enc := fun x => .int .i64 x) (fun _ => rfl) infoInt NoS _ _ _ _ l.length rfl rfl (by omega) (by omega) (Nat.le_refl _)) ?_; rintro v' w1 ⟨ho, hg, rfl⟩)
    | (refine wpList_copy_ev _ rfl _ _ 22 22 rfl _ _ rfl rfl _ (run_cp _ infoInt _ ho _ _ (h.frame (Same.grown hg (fun b hb => by simp))) (by simp)) ?_; rintro r w2 ⟨ho2, hg2⟩)
    | (go_at_call 64; refine (sort_own ho2 hsz).mono ?_; rintro e w3 ⟨rfl, ho3, hg3⟩)
    | (go_at_call 65; refine (compact_own (by simp) ho3).mono ?_; rintro e w4 ⟨v, rfl, ho4, hg4⟩)
    | fail)
  go_ret
  rw [compact_sort] at ho4
  exact ⟨v, rfl, ho4, below_grown0 (below_grown0 (below_grown0 (below_grownN (Below.refl _ _) hg) hg2 (Nat.le_refl _)) hg3 (Nat.le_refl _)) hg4 (Nat.le_refl _)⟩

set_option maxRecDepth 20000 in
set_option maxHeartbeats 400000 in
/-- idset.set: the list itself where it is a set, else a new one. -/
theorem idset_set (S : Nat → Prop) (a : Option Addr) (c : Nat) (l : List Int) (w : World) (h : Rd (Kd.int .i64) S w a c l) (hsz : l.length ≤ 17592186044416) :
    Calls Tryd.prog 56 #[.slice a l.length c] w fun e w' => ∃ a' c', e = .returned (.slice a' (ofL l).length c') ∧ Rd (Kd.int .i64) (fun _ => True) w' a' c' (ofL l) ∧ Below w.heap.size w w' := by
  go_enter Tryd.func56, Tryd.ntmps56
  by_cases hs : SS l
  · have hd : Hid (ofL l = l) := ofL_self hs
    have hs' : decide (SS l) = true := by simpa using hs
    clear hs
    go_wp2_with (first
      | (go_at_call 63; refine (idset_Valid S a c l _ h).mono ?_; rintro e w1 ⟨rfl, hd1⟩)
      | fail)
    go_ret
    rw [hd.out]
    exact ⟨a, c, rfl, (h.frame (Same.drawn S hd1)).mono fun _ _ _ => trivial, hd1.below _⟩
  · have hs' : decide (SS l) = false := by simpa using hs
    clear hs
    go_wp2_with (first
      | (go_at_call 63; refine (idset_Valid S a c l _ h).mono ?_; rintro e w1 ⟨rfl, hd1⟩)
      | (go_at_call 59; refine (idset_Of S a c l _ (h.frame (Same.drawn S hd1)) hsz).mono ?_; rintro e w2 ⟨v, rfl, ho, hb⟩)
      | fail)
    go_ret
    obtain ⟨a', c', rfl, hr⟩ := ho.rd
    exact ⟨a', c', rfl, hr.mono fun _ _ _ => trivial, below_both (hd1.below _) hb⟩
end Go.Proofs.Sat
