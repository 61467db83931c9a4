/- slices.ContainsFunc at []int with the test 'is not zero'; slices.Contains. -/
import Derived.Test.YtiepphjpfjfkmaaGreatDoorOps2
set_option linter.unusedVariables false
set_option linter.unusedSimpArgs false
namespace Go.Proofs.Sat
open Go Go.RowKit
set_option maxHeartbeats 400000 in
theorem isa_nz (r : Int) (w : World) : Calls Tryz.prog 62 #[.int .i64 r] w fun e w' => e = .returned (.bool (r != 0)) ∧ Drawn w w' := by
  go_enter Tryz.func62, Tryz.ntmps62
  go_wp2
  go_ret
  exact ⟨rfl, Drawn.refl _⟩
set_option maxHeartbeats 1000000 in
theorem index_nz (S : Nat → Prop) (a : Option Addr) (c : Nat) (l : List Int) (w : World) (h : Rd (Kd.int .i64) S w a c l) :
    Calls Tryz.prog 78 #[.slice a l.length c, .func (.func 62) #[] #[]] w fun e w' => ∃ v : Int, e = .returned (.int .i64 v) ∧ -1 ≤ v ∧ (0 ≤ v ↔ ¬ l.all (fun r => r == 0) = true) ∧ Drawn w w' := by
  have hl := h.le
  go_enter Tryz.func78, Tryz.ntmps78
  go_wp2
  go_loopw [8] (fun i wr => ∃ k : Nat, k ≤ l.length ∧ i = .int .i64 k ∧ Hid (∀ j (hj : j < l.length), j < k → l[j] = 0) ∧ Hid (Drawn w wr)) (fun i _ => l.length - (intOf i).toNat)
  case atStart => exact ⟨0, by omega, rfl, fun j hj h => by omega, Drawn.refl _⟩
  case round =>
    obtain ⟨k, hk, rfl, hv, HD⟩ := hrel
    by_cases hlt : k < l.length
    · obtain ⟨b, o, rfl, _, _, hc⟩ := (h.frame (Same.drawn _ HD.out)).vals (by omega) 0
      have d := hc k hlt
      rw [getD_at l hlt] at d
      have HB5 := Lib.hid (fun (hq : l[k] ≠ 0) => show ¬ l.all (fun r => r == 0) = true from by
        rw [List.all_eq_true]
        intro h
        exact hq (by simpa using h _ (List.getElem_mem hlt)))
      have HV5 := Lib.hid (fun (hq : l[k] = 0) j (hj : j < l.length) (hjk : j < k + 1) => show l[j] = 0 from by
        rcases Nat.lt_or_ge j k with h' | h'
        · exact hv.out j hj h'
        · obtain rfl : j = k := by omega
          exact hq)
      generalize l[k] = r at *
      clear hc
      have CI := isa_nz r wr
      by_cases hr : r = 0
      · have HV6 := Lib.hid (HV5.out hr)
        rw [show (r != 0) = false by simp [hr]] at CI
        replace CI := Lib.hid CI
        clear hr
        go_wp2_with fail
        refine CI.out.mono ?_
        rintro e w1 ⟨rfl, d1⟩
        have D1 := Lib.hid (HD.out.trans d1)
        clear d1
        go_wp2
        go_roundw
        case rel => exact ⟨k + 1, by omega, by go_num, HV6.out, D1.out⟩
        case measure => simp [intOf]; omega
      · have HB6 := Lib.hid (HB5.out hr)
        rw [show (r != 0) = true by simp [hr]] at CI
        replace CI := Lib.hid CI
        clear hr
        go_wp2_with fail
        refine CI.out.mono ?_
        rintro e w1 ⟨rfl, d1⟩
        have D1 := Lib.hid (HD.out.trans d1)
        clear d1
        go_wp2
        go_ret
        exact ⟨(k : Int), rfl, by omega, ⟨fun _ => HB6.out, fun _ => by omega⟩, D1.out⟩
    · have HA : Hid (l.all (fun r => r == 0) = true) := by
        show _ = _
        rw [List.all_eq_true]
        intro r hr
        obtain ⟨j, hj, rfl⟩ := List.getElem_of_mem hr
        simp [hv.out j hj (by omega)]
      go_wp2
      go_ret
      exact ⟨-1, rfl, by omega, ⟨fun h => by omega, fun h => absurd HA.out h⟩, HD.out⟩
set_option maxHeartbeats 1000000 in
theorem contains_nz (S : Nat → Prop) (a : Option Addr) (c : Nat) (l : List Int) (w : World) (h : Rd (Kd.int .i64) S w a c l) :
    Calls Tryz.prog 61 #[.slice a l.length c, .func (.func 62) #[] #[]] w fun e w' => e = .returned (.bool (!(l.all fun r => r == 0))) ∧ Drawn w w' := by
  go_enter Tryz.func61, Tryz.ntmps61
  go_wp2_with fail
  refine (index_nz S a c l w h).mono ?_
  rintro e w1 ⟨v, rfl, hv1, hv, d1⟩
  have D1 := Lib.hid d1
  cases hq : (l.all fun r => r == 0)
  · have h0 : 0 ≤ v := hv.2 (by simp [hq])
    clear hv d1
    go_wp2
    go_ret
    exact ⟨ret_bool (by rw [hq]; first | rfl | (rw [decide_eq_false (by omega)]; rfl)), D1.out⟩
  · have h0 : ¬ 0 ≤ v := fun h => hv.1 h hq
    clear hv d1
    go_wp2
    go_ret
    exact ⟨ret_bool (by rw [hq]; first | rfl | (rw [decide_eq_false (by omega)]; rfl)), D1.out⟩
end Go.Proofs.Sat
