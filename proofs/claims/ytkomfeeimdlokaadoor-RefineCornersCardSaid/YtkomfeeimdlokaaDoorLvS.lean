/- Sets of registers (arrays of eight bools): the walk of list. -/
import Derived.Test.YtkomfeeimdlokaaDoorIdsO
import Derived.Test.YtkomfeeimdlokaaDoorLvX
import Derived.Test.YtkomfeeimdlokaaDoorInsW
set_option linter.unusedVariables false
set_option linter.unusedSimpArgs false
namespace Go.Proofs.Sat
open Go Go.RowKit
abbrev setVal (s : Nat → Bool) : Value := .agg #[.bool (s 0), .bool (s 1), .bool (s 2), .bool (s 3), .bool (s 4), .bool (s 5), .bool (s 6), .bool (s 7)]
/-- The registers below k that a set holds. -/
def regsK (s : Nat → Bool) (k : Nat) : List Int := ((List.range k).filter s).map Int.ofNat
theorem regsK_succ (s : Nat → Bool) (k : Nat) : regsK s (k + 1) = if s k = true then regsK s k ++ [(k : Int)] else regsK s k := by
  unfold regsK
  rw [List.range_succ, List.filter_append, List.map_append]
  by_cases h : s k = true <;> simp [h]
theorem regsK_length (s : Nat → Bool) (k : Nat) : (regsK s k).length ≤ k := by
  unfold regsK
  rw [List.length_map]
  exact Nat.le_trans (List.length_filter_le _ _) (by simp)
theorem regsK_ss (s : Nat → Bool) (k : Nat) : SS (regsK s k) := by
  show (regsK s k).Pairwise (· < ·)
  unfold regsK
  rw [List.pairwise_map]
  exact List.Pairwise.imp (fun h => Int.ofNat_lt.2 h) (List.Pairwise.filter _ List.pairwise_lt_range)
set_option maxRecDepth 20000 in
set_option maxHeartbeats 1000000 in
theorem live_list (s : Nat → Bool) (w : World) : Calls Tryd.prog 50 #[setVal s] w fun e w' => ∃ v, e = .returned v ∧ Own (Kd.int .i64) 3 NoS w' w.heap.size v (regsK s 8) ∧ Below w.heap.size w w' := by
  unfold setVal
  go_enter Tryd.func50, Tryd.ntmps50
  have BW := Lib.hid (below_alloc (Below.refl w.heap.size w) (.cells #[.bool (s 0), .bool (s 1), .bool (s 2), .bool (s 3), .bool (s 4), .bool (s 5), .bool (s 6), .bool (s 7)] 4))
  go_wp2_with fail
  generalize hsv : Value.agg #[.bool (s 0), .bool (s 1), .bool (s 2), .bool (s 3), .bool (s 4), .bool (s 5), .bool (s 6), .bool (s 7)] = sv
  have HSV := Lib.hid hsv
  clear hsv
  go_loopw [3, 7] (fun v i wr => ∃ k : Nat, k ≤ 8 ∧ i = .int .i64 k ∧ Hid (Own (Kd.int .i64) 3 NoS wr w.heap.size v (regsK s k)) ∧ Hid (Below w.heap.size w wr)) (fun _ i _ => 8 - (intOf i).toNat)
  case atStart => exact ⟨0, by omega, rfl, Own.nil _ _ _ _ _, below_alloc (Below.refl _ _) _⟩
  case round =>
    obtain ⟨k, hk, rfl, HO, HB⟩ := hrel
    by_cases hlt : k < 8
    · have hrl := regsK_length s k
      have HT := Lib.hid (regsK_succ s k)
      rcases (show k = 0 ∨ k = 1 ∨ k = 2 ∨ k = 3 ∨ k = 4 ∨ k = 5 ∨ k = 6 ∨ k = 7 by omega) with rfl | rfl | rfl | rfl | rfl | rfl | rfl | rfl
      · rw [← HSV.out]
        cases hq : s 0
        · have e : Hid (Value.agg #[.bool false, .bool (s 1), .bool (s 2), .bool (s 3), .bool (s 4), .bool (s 5), .bool (s 6), .bool (s 7)] = sv) := by show _ = _; rw [← HSV.out, hq]
          rw [hq] at HT
          have hix : ∀ W : World, (Instr.index 90 (Value.agg #[.bool false, .bool (s 1), .bool (s 2), .bool (s 3), .bool (s 4), .bool (s 5), .bool (s 6), .bool (s 7)]) (.int .i64 0)).run Tryd.prog W = .ok (.bool false) W := fun W => idx_set W (.bool false) (.bool (s 1)) (.bool (s 2)) (.bool (s 3)) (.bool (s 4)) (.bool (s 5)) (.bool (s 6)) (.bool (s 7)) 0 (by omega)
          go_wp2
          try rw [e.out]
          go_roundw
          case rel => exact ⟨1, by omega, rfl, by rw [HT.out]; exact HO.out, HB.out⟩
          case measure => simp [intOf]
        · have e : Hid (Value.agg #[.bool true, .bool (s 1), .bool (s 2), .bool (s 3), .bool (s 4), .bool (s 5), .bool (s 6), .bool (s 7)] = sv) := by show _ = _; rw [← HSV.out, hq]
          rw [hq] at HT
          have hix : ∀ W : World, (Instr.index 90 (Value.agg #[.bool true, .bool (s 1), .bool (s 2), .bool (s 3), .bool (s 4), .bool (s 5), .bool (s 6), .bool (s 7)]) (.int .i64 0)).run Tryd.prog W = .ok (.bool true) W := fun W => idx_set W (.bool true) (.bool (s 1)) (.bool (s 2)) (.bool (s 3)) (.bool (s 4)) (.bool (s 5)) (.bool (s 6)) (.bool (s 7)) 0 (by omega)
          go_wp2_with (first
            | (at_builtin; refine wpList_append_ev _ rfl _ _ 22 rfl _ _ rfl rfl _ (run_app1 wr infoInt rfl _ HO.out 3 [.int .i64 _] _ rfl (by omega) (by omega) HB.out.size) ?_; rintro n2 w2 ⟨ow2, g2, v2, _⟩; have B2 := Lib.hid (HB.out.grown g2 HB.out.size (fun k hk => (HO.out.lt k hk).1)); have O2 := Lib.hid ow2; clear ow2 g2 v2)
            | fail)
          try rw [e.out]
          go_roundw
          case rel =>
            refine ⟨1, by omega, rfl, ?_, B2.out⟩
            show Own _ _ _ _ _ _ _
            rw [HT.out]
            exact O2.out
          case measure => simp [intOf]
      · rw [← HSV.out]
        cases hq : s 1
        · have e : Hid (Value.agg #[.bool (s 0), .bool false, .bool (s 2), .bool (s 3), .bool (s 4), .bool (s 5), .bool (s 6), .bool (s 7)] = sv) := by show _ = _; rw [← HSV.out, hq]
          rw [hq] at HT
          have hix : ∀ W : World, (Instr.index 90 (Value.agg #[.bool (s 0), .bool false, .bool (s 2), .bool (s 3), .bool (s 4), .bool (s 5), .bool (s 6), .bool (s 7)]) (.int .i64 1)).run Tryd.prog W = .ok (.bool false) W := fun W => idx_set W (.bool (s 0)) (.bool false) (.bool (s 2)) (.bool (s 3)) (.bool (s 4)) (.bool (s 5)) (.bool (s 6)) (.bool (s 7)) 1 (by omega)
          go_wp2
          try rw [e.out]
          go_roundw
          case rel => exact ⟨2, by omega, rfl, by rw [HT.out]; exact HO.out, HB.out⟩
          case measure => simp [intOf]
        · have e : Hid (Value.agg #[.bool (s 0), .bool true, .bool (s 2), .bool (s 3), .bool (s 4), .bool (s 5), .bool (s 6), .bool (s 7)] = sv) := by show _ = _; rw [← HSV.out, hq]
          rw [hq] at HT
          have hix : ∀ W : World, (Instr.index 90 (Value.agg #[.bool (s 0), .bool true, .bool (s 2), .bool (s 3), .bool (s 4), .bool (s 5), .bool (s 6), .bool (s 7)]) (.int .i64 1)).run Tryd.prog W = .ok (.bool true) W := fun W => idx_set W (.bool (s 0)) (.bool true) (.bool (s 2)) (.bool (s 3)) (.bool (s 4)) (.bool (s 5)) (.bool (s 6)) (.bool (s 7)) 1 (by omega)
          go_wp2_with (first
            | (at_builtin; refine wpList_append_ev _ rfl _ _ 22 rfl _ _ rfl rfl _ (run_app1 wr infoInt rfl _ HO.out 3 [.int .i64 _] _ rfl (by omega) (by omega) HB.out.size) ?_; rintro n2 w2 ⟨ow2, g2, v2, _⟩; have B2 := Lib.hid (HB.out.grown g2 HB.out.size (fun k hk => (HO.out.lt k hk).1)); have O2 := Lib.hid ow2; clear ow2 g2 v2)
            | fail)
          try rw [e.out]
          go_roundw
          case rel =>
            refine ⟨2, by omega, rfl, ?_, B2.out⟩
            show Own _ _ _ _ _ _ _
            rw [HT.out]
            exact O2.out
          case measure => simp [intOf]
      · rw [← HSV.out]
        cases hq : s 2
        · have e : Hid (Value.agg #[.bool (s 0), .bool (s 1), .bool false, .bool (s 3), .bool (s 4), .bool (s 5), .bool (s 6), .bool (s 7)] = sv) := by show _ = _; rw [← HSV.out, hq]
          rw [hq] at HT
          have hix : ∀ W : World, (Instr.index 90 (Value.agg #[.bool (s 0), .bool (s 1), .bool false, .bool (s 3), .bool (s 4), .bool (s 5), .bool (s 6), .bool (s 7)]) (.int .i64 2)).run Tryd.prog W = .ok (.bool false) W := fun W => idx_set W (.bool (s 0)) (.bool (s 1)) (.bool false) (.bool (s 3)) (.bool (s 4)) (.bool (s 5)) (.bool (s 6)) (.bool (s 7)) 2 (by omega)
          go_wp2
          try rw [e.out]
          go_roundw
          case rel => exact ⟨3, by omega, rfl, by rw [HT.out]; exact HO.out, HB.out⟩
          case measure => simp [intOf]
        · have e : Hid (Value.agg #[.bool (s 0), .bool (s 1), .bool true, .bool (s 3), .bool (s 4), .bool (s 5), .bool (s 6), .bool (s 7)] = sv) := by show _ = _; rw [← HSV.out, hq]
          rw [hq] at HT
          have hix : ∀ W : World, (Instr.index 90 (Value.agg #[.bool (s 0), .bool (s 1), .bool true, .bool (s 3), .bool (s 4), .bool (s 5), .bool (s 6), .bool (s 7)]) (.int .i64 2)).run Tryd.prog W = .ok (.bool true) W := fun W => idx_set W (.bool (s 0)) (.bool (s 1)) (.bool true) (.bool (s 3)) (.bool (s 4)) (.bool (s 5)) (.bool (s 6)) (.bool (s 7)) 2 (by omega)
          go_wp2_with (first
            | (at_builtin; refine wpList_append_ev _ rfl _ _ 22 rfl _ _ rfl rfl _ (run_app1 wr infoInt rfl _ HO.out 3 [.int .i64 _] _ rfl (by omega) (by omega) HB.out.size) ?_; rintro n2 w2 ⟨ow2, g2, v2, _⟩; have B2 := Lib.hid (HB.out.grown g2 HB.out.size (fun k hk => (HO.out.lt k hk).1)); have O2 := Lib.hid ow2; clear ow2 g2 v2)
            | fail)
          try rw [e.out]
          go_roundw
          case rel =>
            refine ⟨3, by omega, rfl, ?_, B2.out⟩
            show Own _ _ _ _ _ _ _
            rw [HT.out]
            exact O2.out
          case measure => simp [intOf]
      · rw [← HSV.out]
        cases hq : s 3
        · have e : Hid (Value.agg #[.bool (s 0), .bool (s 1), .bool (s 2), .bool false, .bool (s 4), .bool (s 5), .bool (s 6), .bool (s 7)] = sv) := by show _ = _; rw [← HSV.out, hq]
          rw [hq] at HT
          have hix : ∀ W : World, (Instr.index 90 (Value.agg #[.bool (s 0), .bool (s 1), .bool (s 2), .bool false, .bool (s 4), .bool (s 5), .bool (s 6), .bool (s 7)]) (.int .i64 3)).run Tryd.prog W = .ok (.bool false) W := fun W => idx_set W (.bool (s 0)) (.bool (s 1)) (.bool (s 2)) (.bool false) (.bool (s 4)) (.bool (s 5)) (.bool (s 6)) (.bool (s 7)) 3 (by omega)
          go_wp2
          try rw [e.out]
          go_roundw
          case rel => exact ⟨4, by omega, rfl, by rw [HT.out]; exact HO.out, HB.out⟩
          case measure => simp [intOf]
        · have e : Hid (Value.agg #[.bool (s 0), .bool (s 1), .bool (s 2), .bool true, .bool (s 4), .bool (s 5), .bool (s 6), .bool (s 7)] = sv) := by show _ = _; rw [← HSV.out, hq]
          rw [hq] at HT
          have hix : ∀ W : World, (Instr.index 90 (Value.agg #[.bool (s 0), .bool (s 1), .bool (s 2), .bool true, .bool (s 4), .bool (s 5), .bool (s 6), .bool (s 7)]) (.int .i64 3)).run Tryd.prog W = .ok (.bool true) W := fun W => idx_set W (.bool (s 0)) (.bool (s 1)) (.bool (s 2)) (.bool true) (.bool (s 4)) (.bool (s 5)) (.bool (s 6)) (.bool (s 7)) 3 (by omega)
          go_wp2_with (first
            | (at_builtin; refine wpList_append_ev _ rfl _ _ 22 rfl _ _ rfl rfl _ (run_app1 wr infoInt rfl _ HO.out 3 [.int .i64 _] _ rfl (by omega) (by omega) HB.out.size) ?_; rintro n2 w2 ⟨ow2, g2, v2, _⟩; have B2 := Lib.hid (HB.out.grown g2 HB.out.size (fun k hk => (HO.out.lt k hk).1)); have O2 := Lib.hid ow2; clear ow2 g2 v2)
            | fail)
          try rw [e.out]
          go_roundw
          case rel =>
            refine ⟨4, by omega, rfl, ?_, B2.out⟩
            show Own _ _ _ _ _ _ _
            rw [HT.out]
            exact O2.out
          case measure => simp [intOf]
      · rw [← HSV.out]
        cases hq : s 4
        · have e : Hid (Value.agg #[.bool (s 0), .bool (s 1), .bool (s 2), .bool (s 3), .bool false, .bool (s 5), .bool (s 6), .bool (s 7)] = sv) := by show _ = _; rw [← HSV.out, hq]
          rw [hq] at HT
          have hix : ∀ W : World, (Instr.index 90 (Value.agg #[.bool (s 0), .bool (s 1), .bool (s 2), .bool (s 3), .bool false, .bool (s 5), .bool (s 6), .bool (s 7)]) (.int .i64 4)).run Tryd.prog W = .ok (.bool false) W := fun W => idx_set W (.bool (s 0)) (.bool (s 1)) (.bool (s 2)) (.bool (s 3)) (.bool false) (.bool (s 5)) (.bool (s 6)) (.bool (s 7)) 4 (by omega)
          go_wp2
          try rw [e.out]
          go_roundw
          case rel => exact ⟨5, by omega, rfl, by rw [HT.out]; exact HO.out, HB.out⟩
          case measure => simp [intOf]
        · have e : Hid (Value.agg #[.bool (s 0), .bool (s 1), .bool (s 2), .bool (s 3), .bool true, .bool (s 5), .bool (s 6), .bool (s 7)] = sv) := by show _ = _; rw [← HSV.out, hq]
          rw [hq] at HT
          have hix : ∀ W : World, (Instr.index 90 (Value.agg #[.bool (s 0), .bool (s 1), .bool (s 2), .bool (s 3), .bool true, .bool (s 5), .bool (s 6), .bool (s 7)]) (.int .i64 4)).run Tryd.prog W = .ok (.bool true) W := fun W => idx_set W (.bool (s 0)) (.bool (s 1)) (.bool (s 2)) (.bool (s 3)) (.bool true) (.bool (s 5)) (.bool (s 6)) (.bool (s 7)) 4 (by omega)
          go_wp2_with (first
            | (at_builtin; refine wpList_append_ev _ rfl _ _ 22 rfl _ _ rfl rfl _ (run_app1 wr infoInt rfl _ HO.out 3 [.int .i64 _] _ rfl (by omega) (by omega) HB.out.size) ?_; rintro n2 w2 ⟨ow2, g2, v2, _⟩; have B2 := Lib.hid (HB.out.grown g2 HB.out.size (fun k hk => (HO.out.lt k hk).1)); have O2 := Lib.hid ow2; clear ow2 g2 v2)
            | fail)
          try rw [e.out]
          go_roundw
          case rel =>
            refine ⟨5, by omega, rfl, ?_, B2.out⟩
            show Own _ _ _ _ _ _ _
            rw [HT.out]
            exact O2.out
          case measure => simp [intOf]
      · rw [← HSV.out]
        cases hq : s 5
        · have e : Hid (Value.agg #[.bool (s 0), .bool (s 1), .bool (s 2), .bool (s 3), .bool (s 4), .bool false, .bool (s 6), .bool (s 7)] = sv) := by show _ = _; rw [← HSV.out, hq]
          rw [hq] at HT
          have hix : ∀ W : World, (Instr.index 90 (Value.agg #[.bool (s 0), .bool (s 1), .bool (s 2), .bool (s 3), .bool (s 4), .bool false, .bool (s 6), .bool (s 7)]) (.int .i64 5)).run Tryd.prog W = .ok (.bool false) W := fun W => idx_set W (.bool (s 0)) (.bool (s 1)) (.bool (s 2)) (.bool (s 3)) (.bool (s 4)) (.bool false) (.bool (s 6)) (.bool (s 7)) 5 (by omega)
          go_wp2
          try rw [e.out]
          go_roundw
          case rel => exact ⟨6, by omega, rfl, by rw [HT.out]; exact HO.out, HB.out⟩
          case measure => simp [intOf]
        · have e : Hid (Value.agg #[.bool (s 0), .bool (s 1), .bool (s 2), .bool (s 3), .bool (s 4), .bool true, .bool (s 6), .bool (s 7)] = sv) := by show _ = _; rw [← HSV.out, hq]
          rw [hq] at HT
          have hix : ∀ W : World, (Instr.index 90 (Value.agg #[.bool (s 0), .bool (s 1), .bool (s 2), .bool (s 3), .bool (s 4), .bool true, .bool (s 6), .bool (s 7)]) (.int .i64 5)).run Tryd.prog W = .ok (.bool true) W := fun W => idx_set W (.bool (s 0)) (.bool (s 1)) (.bool (s 2)) (.bool (s 3)) (.bool (s 4)) (.bool true) (.bool (s 6)) (.bool (s 7)) 5 (by omega)
          go_wp2_with (first
            | (at_builtin; refine wpList_append_ev _ rfl _ _ 22 rfl _ _ rfl rfl _ (run_app1 wr infoInt rfl _ HO.out 3 [.int .i64 _] _ rfl (by omega) (by omega) HB.out.size) ?_; rintro n2 w2 ⟨ow2, g2, v2, _⟩; have B2 := Lib.hid (HB.out.grown g2 HB.out.size (fun k hk => (HO.out.lt k hk).1)); have O2 := Lib.hid ow2; clear ow2 g2 v2)
            | fail)
          try rw [e.out]
          go_roundw
          case rel =>
            refine ⟨6, by omega, rfl, ?_, B2.out⟩
            show Own _ _ _ _ _ _ _
            rw [HT.out]
            exact O2.out
          case measure => simp [intOf]
      · rw [← HSV.out]
        cases hq : s 6
        · have e : Hid (Value.agg #[.bool (s 0), .bool (s 1), .bool (s 2), .bool (s 3), .bool (s 4), .bool (s 5), .bool false, .bool (s 7)] = sv) := by show _ = _; rw [← HSV.out, hq]
          rw [hq] at HT
          have hix : ∀ W : World, (Instr.index 90 (Value.agg #[.bool (s 0), .bool (s 1), .bool (s 2), .bool (s 3), .bool (s 4), .bool (s 5), .bool false, .bool (s 7)]) (.int .i64 6)).run Tryd.prog W = .ok (.bool false) W := fun W => idx_set W (.bool (s 0)) (.bool (s 1)) (.bool (s 2)) (.bool (s 3)) (.bool (s 4)) (.bool (s 5)) (.bool false) (.bool (s 7)) 6 (by omega)
          go_wp2
          try rw [e.out]
          go_roundw
          case rel => exact ⟨7, by omega, rfl, by rw [HT.out]; exact HO.out, HB.out⟩
          case measure => simp [intOf]
        · have e : Hid (Value.agg #[.bool (s 0), .bool (s 1), .bool (s 2), .bool (s 3), .bool (s 4), .bool (s 5), .bool true, .bool (s 7)] = sv) := by show _ = _; rw [← HSV.out, hq]
          rw [hq] at HT
          have hix : ∀ W : World, (Instr.index 90 (Value.agg #[.bool (s 0), .bool (s 1), .bool (s 2), .bool (s 3), .bool (s 4), .bool (s 5), .bool true, .bool (s 7)]) (.int .i64 6)).run Tryd.prog W = .ok (.bool true) W := fun W => idx_set W (.bool (s 0)) (.bool (s 1)) (.bool (s 2)) (.bool (s 3)) (.bool (s 4)) (.bool (s 5)) (.bool true) (.bool (s 7)) 6 (by omega)
          go_wp2_with (first
            | (at_builtin; refine wpList_append_ev _ rfl _ _ 22 rfl _ _ rfl rfl _ (run_app1 wr infoInt rfl _ HO.out 3 [.int .i64 _] _ rfl (by omega) (by omega) HB.out.size) ?_; rintro n2 w2 ⟨ow2, g2, v2, _⟩; have B2 := Lib.hid (HB.out.grown g2 HB.out.size (fun k hk => (HO.out.lt k hk).1)); have O2 := Lib.hid ow2; clear ow2 g2 v2)
            | fail)
          try rw [e.out]
          go_roundw
          case rel =>
            refine ⟨7, by omega, rfl, ?_, B2.out⟩
            show Own _ _ _ _ _ _ _
            rw [HT.out]
            exact O2.out
          case measure => simp [intOf]
      · rw [← HSV.out]
        cases hq : s 7
        · have e : Hid (Value.agg #[.bool (s 0), .bool (s 1), .bool (s 2), .bool (s 3), .bool (s 4), .bool (s 5), .bool (s 6), .bool false] = sv) := by show _ = _; rw [← HSV.out, hq]
          rw [hq] at HT
          have hix : ∀ W : World, (Instr.index 90 (Value.agg #[.bool (s 0), .bool (s 1), .bool (s 2), .bool (s 3), .bool (s 4), .bool (s 5), .bool (s 6), .bool false]) (.int .i64 7)).run Tryd.prog W = .ok (.bool false) W := fun W => idx_set W (.bool (s 0)) (.bool (s 1)) (.bool (s 2)) (.bool (s 3)) (.bool (s 4)) (.bool (s 5)) (.bool (s 6)) (.bool false) 7 (by omega)
          go_wp2
          try rw [e.out]
          go_roundw
          case rel => exact ⟨8, by omega, rfl, by rw [HT.out]; exact HO.out, HB.out⟩
          case measure => simp [intOf]
        · have e : Hid (Value.agg #[.bool (s 0), .bool (s 1), .bool (s 2), .bool (s 3), .bool (s 4), .bool (s 5), .bool (s 6), .bool true] = sv) := by show _ = _; rw [← HSV.out, hq]
          rw [hq] at HT
          have hix : ∀ W : World, (Instr.index 90 (Value.agg #[.bool (s 0), .bool (s 1), .bool (s 2), .bool (s 3), .bool (s 4), .bool (s 5), .bool (s 6), .bool true]) (.int .i64 7)).run Tryd.prog W = .ok (.bool true) W := fun W => idx_set W (.bool (s 0)) (.bool (s 1)) (.bool (s 2)) (.bool (s 3)) (.bool (s 4)) (.bool (s 5)) (.bool (s 6)) (.bool true) 7 (by omega)
          go_wp2_with (first
            | (at_builtin; refine wpList_append_ev _ rfl _ _ 22 rfl _ _ rfl rfl _ (run_app1 wr infoInt rfl _ HO.out 3 [.int .i64 _] _ rfl (by omega) (by omega) HB.out.size) ?_; rintro n2 w2 ⟨ow2, g2, v2, _⟩; have B2 := Lib.hid (HB.out.grown g2 HB.out.size (fun k hk => (HO.out.lt k hk).1)); have O2 := Lib.hid ow2; clear ow2 g2 v2)
            | fail)
          try rw [e.out]
          go_roundw
          case rel =>
            refine ⟨8, by omega, rfl, ?_, B2.out⟩
            show Own _ _ _ _ _ _ _
            rw [HT.out]
            exact O2.out
          case measure => simp [intOf]
    · obtain rfl : k = 8 := by omega
      have hrl := regsK_length s 8
      have HS : Hid (ofL (regsK s 8) = regsK s 8) := ofL_self (regsK_ss s 8)
      obtain ⟨a9, c9, rfl, r9⟩ := HO.out.rd
      have R9 := Lib.hid r9
      clear r9
      go_wp2_with (first
        | (go_at_call 59; refine (idset_Of _ a9 c9 (regsK s 8) wr R9.out (by omega)).mono ?_; rintro e w3 ⟨v3, rfl, o3, b3⟩; have O3 := Lib.hid o3; have B3 := Lib.hid (below_both HB.out b3); clear o3 b3)
        | fail)
      go_ret
      refine ⟨v3, rfl, ?_, B3.out⟩
      have := O3.out.mono (S' := NoS) (base' := w.heap.size) (fun _ _ h => h) HB.out.size
      rwa [HS.out] at this
end Go.Proofs.Sat
