/- Walks of the reference's small parts: Sources, Defines, in, Has, SameInts. -/
import Derived.Test.YtkomfeeimdlokaaGreatDoorOps2
import Derived.Test.YtkomfeeimdlokaaGreatDoorInsW
set_option linter.unusedVariables false
set_option linter.unusedSimpArgs false
namespace Go.Proofs.Sat
open Go Go.RowKit
set_option maxHeartbeats 1000000 in
theorem ref50_Sources (op : Int) (w : World) : Calls Tryz.prog 89 #[.int .i64 op] w fun e w' => e = .returned (.int .i64 (srcN op)) ∧ Drawn w w' := by
  go_enter Tryz.func89, Tryz.ntmps89
  by_cases h0 : op < 0
  · have HE : Hid (srcN op = -1) := if_pos (.inl h0)
    go_wp2
    all_goals go_ret
    all_goals exact ⟨ret_int HE.out.symm, by first | exact Drawn.refl _ | exact Drawn.of _ _⟩
  by_cases h19 : 19 < op
  · have HE : Hid (srcN op = -1) := if_pos (.inr h19)
    go_wp2
    all_goals go_ret
    all_goals exact ⟨ret_int HE.out.symm, by first | exact Drawn.refl _ | exact Drawn.of _ _⟩
  by_cases h1 : op ≤ 1
  · have HE : Hid (srcN op = 0) := by show _ = _; unfold srcN; rw [if_neg (by omega), if_pos h1]
    go_wp2
    all_goals go_ret
    all_goals exact ⟨ret_int HE.out.symm, by first | exact Drawn.refl _ | exact Drawn.of _ _⟩
  by_cases h4 : op ≤ 4
  · have HE : Hid (srcN op = 1) := by show _ = _; unfold srcN; rw [if_neg (by omega), if_neg h1, if_pos h4]
    go_wp2
    all_goals go_ret
    all_goals exact ⟨ret_int HE.out.symm, by first | exact Drawn.refl _ | exact Drawn.of _ _⟩
  by_cases hs : op = 19
  · have HE : Hid (srcN op = 3) := by show _ = _; unfold srcN; rw [if_neg (by omega), if_neg h1, if_neg h4, if_pos hs]
    have t : (op == 19) = true := by simpa using hs
    clear hs
    go_wp2
    all_goals go_ret
    all_goals exact ⟨ret_int HE.out.symm, by first | exact Drawn.refl _ | exact Drawn.of _ _⟩
  · have HE : Hid (srcN op = 2) := by show _ = _; unfold srcN; rw [if_neg (by omega), if_neg h1, if_neg h4, if_neg hs]
    have t : (op == 19) = false := by simpa using hs
    clear hs
    go_wp2
    all_goals go_ret
    all_goals exact ⟨ret_int HE.out.symm, by first | exact Drawn.refl _ | exact Drawn.of _ _⟩
set_option maxHeartbeats 1000000 in
theorem ref50_in (n regs : Int) (w : World) : Calls Tryz.prog 72 #[.int .i64 n, .int .i64 regs] w fun e w' => e = .returned (.bool (inR n regs)) ∧ Drawn w w' := by
  go_enter Tryz.func72, Tryz.ntmps72
  by_cases h0 : 0 ≤ n
  · by_cases h1 : n < regs
    · have HE : Hid (inR n regs = true) := decide_eq_true ⟨h0, h1⟩
      rw [HE.out]
      go_wp2
      all_goals go_ret
      all_goals exact ⟨rfl, by first | exact Drawn.refl _ | exact Drawn.of _ _⟩
    · have HE : Hid (inR n regs = false) := decide_eq_false (by omega)
      rw [HE.out]
      go_wp2
      all_goals go_ret
      all_goals exact ⟨rfl, by first | exact Drawn.refl _ | exact Drawn.of _ _⟩
  · have HE : Hid (inR n regs = false) := decide_eq_false (by omega)
    rw [HE.out]
    go_wp2
    all_goals go_ret
    all_goals exact ⟨rfl, by first | exact Drawn.refl _ | exact Drawn.of _ _⟩
theorem eq_iff_places (l m : List Int) : l = m ↔ l.length = m.length ∧ ∀ i, i < l.length → l.getD i 0 = m.getD i 0 := by
  constructor
  · rintro rfl; exact ⟨rfl, fun _ _ => rfl⟩
  · rintro ⟨h1, h2⟩
    refine List.ext_getElem h1 fun i a b => ?_
    have := h2 i a
    simpa [a, b] using this
theorem take_succ_at0 (l : List Int) {k : Nat} (h : k < l.length) : l.take (k + 1) = l.take k ++ [l[k]] := by rw [List.take_succ_eq_append_getElem h]
set_option maxHeartbeats 400000 in
theorem ref50_Has (S : Nat → Prop) (a : Option Addr) (c : Nat) (l : List Int) (x : Int) (w : World) (h : Rd (Kd.int .i64) S w a c l) :
    Calls Tryz.prog 43 #[.slice a l.length c, .int .i64 x] w fun e w' => e = .returned (.bool (decide (x ∈ l))) ∧ Drawn w w' := by
  have hl := h.le
  go_enter Tryz.func43, Tryz.ntmps43
  go_wp2
  go_loop [5] (fun i => ∃ k : Nat, k ≤ l.length ∧ i = .int .i64 k ∧ Hid (¬ x ∈ l.take k)) (fun i => l.length - (intOf i).toNat)
  case atStart => exact ⟨0, by omega, rfl, by simp [Hid]⟩
  case round =>
    obtain ⟨k, hk, rfl, hv⟩ := hrel
    by_cases hlt : k < l.length
    · obtain ⟨b, o, rfl, _, _, hc⟩ := h.vals (by omega) 0
      have d := hc k hlt
      have HT := Lib.hid (take_succ_at0 l hlt)
      clear hc
      by_cases hx : l[k] = x
      · have hx' : (l[k] == x) = true := by simp [hx]
        have HX := Lib.hid hx
        clear hx
        go_wp2
        go_ret
        refine ⟨ret_bool ?_, Drawn.refl _⟩
        symm
        rw [decide_eq_true_eq, ← HX.out]
        exact List.getElem_mem _
      · have hx' : (l[k] == x) = false := by simp [hx]
        have HX := Lib.hid hx
        clear hx
        go_wp2
        go_round
        case rel =>
          refine ⟨k + 1, by omega, by go_num, ?_⟩
          show ¬ _
          rw [HT.out, List.mem_append]
          rintro (h | h)
          · exact hv.out h
          · simp at h; exact HX.out h.symm
        case measure => simp [intOf]; omega
    · go_wp2
      go_ret
      refine ⟨ret_bool ?_, Drawn.refl _⟩
      have := hv.out
      rw [List.take_of_length_le (by omega)] at this
      symm
      rw [decide_eq_false_iff_not]
      exact this
end Go.Proofs.Sat
