/- For RefineCorners: the generator, fixed samples, masks of any width; variables and bindings. -/
import Derived.Test.YtkomfeeimdlokaaDoorRgB
import Derived.Test.YtkomfeeimdlokaaDoorRaE
import Derived.Test.YtkomfeeimdlokaaDoorIsaC
import Derived.Test.YtkomfeeimdlokaaDoorOps3
set_option linter.unusedVariables false
set_option linter.unusedSimpArgs false
namespace Go.Proofs.Sat
open Go Go.RowKit
def nextN (s : Nat) : Nat := (6364136223846793005 * s + 1442695040888963407) % 18446744073709551616
theorem nextN_lt (s : Nat) : nextN s < 18446744073709551616 := Nat.mod_lt _ (by decide)
theorem next_word {s : Nat} : IntKind.u64.wrap (IntKind.u64.wrap (6364136223846793005 * (s : Int)) + 1442695040888963407) = ((nextN s : Nat) : Int) := by
  simp only [IntKind.wrap_u64]
  unfold nextN
  omega
theorem cvec_Next (s : Nat) (w : World) : Calls Tryd.prog 22 #[.int .u64 (s : Int)] w fun e w' => e = .returned (.int .u64 ((nextN s : Nat) : Int)) ∧ Drawn w w' := by
  have HN := Lib.hid (next_word (s := s))
  go_enter Tryd.func22, Tryd.ntmps22
  go_wp2_with fail
  go_ret
  exact ⟨ret_int HN.out, Drawn.refl _⟩
theorem ref45_Next (s : Nat) (w : World) : Calls Tryd.prog 24 #[.int .u64 (s : Int)] w fun e w' => e = .returned (.int .u64 ((nextN s : Nat) : Int)) ∧ Drawn w w' := by
  have HN := Lib.hid (next_word (s := s))
  go_enter Tryd.func24, Tryd.ntmps24
  go_wp2_with fail
  go_ret
  exact ⟨ret_int HN.out, Drawn.refl _⟩
/-- The values of samples 0 to 3. -/
def fixN (k W : Nat) : Nat := if k = 1 then 2 ^ W - 1 else if k = 2 then 1 else if k = 3 then 2 ^ (W - 1) else 0
theorem bits_MaskA (v : Int) (w : World) : Calls Tryd.prog 21 #[.int .i64 v] w fun e w' => e = .returned (.int .u64 ((2 ^ widE v - 1 : Nat) : Int)) ∧ Drawn w w' := by
  obtain ⟨n, hn⟩ : ∃ n, n = widE v := ⟨_, rfl⟩
  have hw : min (max v 1) 64 = (n : Int) := by rw [hn]; unfold widE; omega
  have h1 : 1 ≤ n := by rw [hn]; unfold widE; omega
  have h2 : n ≤ 64 := by rw [hn]; unfold widE; omega
  rw [← hn]
  have HM : Hid ((18446744073709551615 : Int) / 2 ^ (64 - n) = ((2 ^ n - 1 : Nat) : Int)) := by
    show _ = _
    have h := mask_div (v := (n : Int)) (by omega) (by omega)
    rw [show (64 - (n : Int)).toNat = 64 - n by omega, mask_int] at h
    exact h
  clear hn
  generalize 2 ^ n - 1 = M at *
  go_enter Tryd.func21, Tryd.ntmps21
  go_wp2
  go_ret
  exact ⟨ret_int (by rw [HM.out]), Drawn.refl _⟩
set_option maxHeartbeats 1000000 in
theorem ref45_fixed (k W : Nat) (w : World) (h1 : 1 ≤ W) (h2 : W ≤ 64) : Calls Tryd.prog 23 #[.int .i64 (k : Int), .int .i64 (W : Int)] w fun e w' => e = .returned (.int .u64 ((fixN k W : Nat) : Int)) ∧ Drawn w w' := by
  go_enter Tryd.func23, Tryd.ntmps23
  by_cases e1 : k = 1
  · subst e1
    have HX : Hid (maskI (W : Int) = ((fixN 1 W : Nat) : Int)) := by show _ = _; rw [mask_int]; rfl
    have CM := Lib.hid (ref01_Mask (W : Int) w (by omega) (by omega))
    rw [HX.out] at CM
    go_wp2_with fail
    refine CM.out.mono ?_
    rintro e w1 ⟨rfl, d1⟩
    go_wp2_with fail
    go_ret
    exact ⟨rfl, d1⟩
  by_cases e2 : k = 2
  · subst e2
    have HX : Hid (fixN 2 W = 1) := rfl
    clear e1
    go_wp2_with fail
    go_ret
    exact ⟨ret_int (by rw [HX.out]; rfl), Drawn.refl _⟩
  by_cases e3 : k = 3
  · subst e3
    obtain ⟨j, rfl⟩ : ∃ j, W = j + 1 := ⟨W - 1, by omega⟩
    have HX : Hid (fixN 3 (j + 1) = 2 ^ j) := rfl
    have hj : IntKind.u64.wrap (j : Int) = (j : Int) := u64_wrap_id _ (by omega) (by omega)
    have HP : Hid (IntKind.u64.wrap (2 ^ j) = ((2 ^ j : Nat) : Int)) := by
      show _ = _
      have h3 : (2 : Nat) ^ j ≤ 2 ^ 63 := Nat.pow_le_pow_right (by omega) (by omega)
      rw [show ((2 : Int) ^ j) = ((2 ^ j : Nat) : Int) by simp]
      generalize 2 ^ j = y at *
      exact u64_wrap_id (y : Int) (by omega) (by omega)
    clear e1 e2
    go_wp2_with fail
    go_ret
    exact ⟨ret_int (by rw [HX.out]; exact HP.out), Drawn.refl _⟩
  have HX : Hid (fixN k W = 0) := by show _ = _; unfold fixN; rw [if_neg e1, if_neg e2, if_neg e3]
  have t1 : ((k : Int) == 1) = false := by simp; omega
  have t2 : ((k : Int) == 2) = false := by simp; omega
  have t3 : ((k : Int) == 3) = false := by simp; omega
  clear e1 e2 e3
  go_wp2_with fail
  go_ret
  exact ⟨ret_int (by rw [HX.out]; rfl), Drawn.refl _⟩
end Go.Proofs.Sat
