/- The walks of the set functions of the specification of layer 3: Same and Index. -/
import Derived.Test.YtiepphjpfjfkmaaDoorProg
import Derived.Test.YtiepphjpfjfkmaaDoorOps2
import Derived.Deep.QuietTactic
import Derived.BigQuiet
import Derived.Deep.LoopGhost
set_option linter.unusedVariables false
set_option linter.unusedSimpArgs false
namespace Go.Proofs.Sat
open Go Go.RowKit


theorem eq_iff_places (l m : List Int) : l = m ↔ l.length = m.length ∧ ∀ i, i < l.length → l.getD i 0 = m.getD i 0 := by
  constructor
  · rintro rfl; exact ⟨rfl, fun _ _ => rfl⟩
  · rintro ⟨h1, h2⟩
    refine List.ext_getElem h1 fun i a b => ?_
    have := h2 i a
    simpa [a, b] using this
theorem getD_at0 (l : List Int) {k : Nat} (h : k < l.length) : l.getD k 0 = l[k] := by simp [h]

set_option maxHeartbeats 400000 in
theorem ref03_Same (S1 S2 : Nat → Prop) (a1 a2 : Option Addr) (c1 c2 : Nat) (l1 l2 : List Int) (w : World) (h1 : Rd (Kd.int .i64) S1 w a1 c1 l1) (h2 : Rd (Kd.int .i64) S2 w a2 c2 l2) :
    Calls Tryd.prog 7 #[.slice a1 l1.length c1, .slice a2 l2.length c2] w fun e w' => e = .returned (.bool (decide (l1 = l2))) ∧ Drawn w w' := by
  have hl1 := h1.le
  have hl2 := h2.le
  go_enter Tryd.func7, Tryd.ntmps7
  by_cases he : l1.length = l2.length
  · have hb : (l1.length != l2.length) = false := by simp [he]
    have hb' : ((l1.length : Int) != (l2.length : Int)) = false := by simp [he]
    have HE := Lib.hid he
    clear he
    go_wp2
    go_loopw [5] (fun i wr => ∃ k : Nat, k ≤ l1.length ∧ i = .int .i64 k ∧ Hid (∀ i, i < k → l1.getD i 0 = l2.getD i 0) ∧ Drawn w wr) (fun i _ => l1.length - (intOf i).toNat)
    case atStart => exact ⟨0, by omega, rfl, fun i h => by omega, Drawn.refl _⟩
    case round =>
      obtain ⟨k, hk, rfl, hv, n, rfl⟩ := hrel
      by_cases hlt : k < l1.length
      · have hlt2 : k < l2.length := by have := HE.out; omega
        obtain ⟨b1, o1, rfl, _, _, hc1⟩ := h1.vals (by omega) 0
        obtain ⟨b2, o2, rfl, _, _, hc2⟩ := h2.vals (by omega) 0
        have d1 := hc1 k hlt
        have d2 := hc2 k hlt2
        have E1 := Lib.hid (getD_at0 l1 hlt)
        have E2 := Lib.hid (getD_at0 l2 hlt2)
        clear hc1 hc2 hb hb'
        go_wp2
        go_quiet (fail)
        by_cases hq : l1[k] = l2[k]
        · have hq' : (l1[k] != l2[k]) = false := by simp [hq]
          have HQ := Lib.hid hq
          clear hq
          go_wp2
          go_roundw
          case rel =>
            refine ⟨k + 1, by omega, by go_num, fun i h => ?_, by first | exact Drawn.of _ _ | exact Drawn.step (Drawn.of _ _) _⟩
            rcases Nat.lt_or_ge i k with h' | h'
            · exact hv.out i h'
            · obtain rfl : i = k := by omega
              rw [E1.out, E2.out, HQ.out]
          case measure => simp [intOf]; omega
        · have hq' : (l1[k] != l2[k]) = true := by simp [hq]
          have HQ := Lib.hid hq
          clear hq
          go_wp2
          go_ret
          refine ⟨ret_bool ?_, by first | exact Drawn.of _ _ | exact Drawn.step (Drawn.of _ _) _⟩
          symm
          rw [decide_eq_false_iff_not]
          rintro rfl
          exact HQ.out rfl
      · clear hb hb'
        go_wp2
        go_ret
        refine ⟨ret_bool ?_, Drawn.of _ _⟩
        symm
        rw [decide_eq_true_eq, eq_iff_places]
        exact ⟨HE.out, fun i hi => hv.out i (by omega)⟩
  · have hb : (l1.length != l2.length) = true := by simp [he]
    have hb' : ((l1.length : Int) != (l2.length : Int)) = true := by simp; omega
    go_wp2
    go_ret
    refine ⟨ret_bool ?_, Drawn.refl _⟩
    symm
    rw [decide_eq_false_iff_not]
    rintro rfl
    exact he rfl
theorem take_succ_at0 (l : List Int) {k : Nat} (h : k < l.length) : l.take (k + 1) = l.take k ++ [l[k]] := by rw [List.take_succ_eq_append_getElem h]
end Go.Proofs.Sat
