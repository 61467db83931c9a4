/- The walks of masks, of isa.ins and of isa.Check. -/
import Derived.Test.YtkomfeeimdlokaaDoorIsaT
set_option linter.unusedVariables false
set_option linter.unusedSimpArgs false
namespace Go.Proofs.Sat
open Go Go.RowKit
theorem mask_nat : ∀ n, n < 65 → 18446744073709551615 / 2 ^ (64 - n) = 2 ^ n - 1 := by decide
theorem mask_div {v : Int} (h1 : 1 ≤ v) (h2 : v ≤ 64) : (18446744073709551615 : Int) / 2 ^ (64 - v).toNat = maskI v := by
  obtain ⟨n, rfl⟩ := Int.eq_ofNat_of_zero_le (show 0 ≤ v by omega)
  have hn := mask_nat n (by omega)
  have e : (64 - (n : Int)).toNat = 64 - n := by omega
  have hp : 1 ≤ 2 ^ n := Nat.one_le_two_pow
  unfold maskI
  rw [e, Int.toNat_natCast]
  have : ((18446744073709551615 / 2 ^ (64 - n) : Nat) : Int) = ((2 ^ n - 1 : Nat) : Int) := by rw [hn]
  rw [Int.natCast_ediv, Int.natCast_pow, Int.natCast_sub hp, Int.natCast_pow] at this
  simpa using this
set_option maxHeartbeats 1000000 in
theorem bits_Mask (v : Int) (w : World) (h1 : 1 ≤ v) (h2 : v ≤ 64) : Calls Tryd.prog 21 #[.int .i64 v] w fun e w' => e = .returned (.int .u64 (maskI v)) ∧ Drawn w w' := by
  have HM := Lib.hid (mask_div h1 h2)
  go_enter Tryd.func21, Tryd.ntmps21
  go_wp2
  go_ret
  exact ⟨ret_int HM.out, Drawn.refl _⟩
set_option maxHeartbeats 1000000 in
theorem ref01_Mask (v : Int) (w : World) (h1 : 1 ≤ v) (h2 : v ≤ 64) : Calls Tryd.prog 32 #[.int .i64 v] w fun e w' => e = .returned (.int .u64 (maskI v)) ∧ Drawn w w' := by
  obtain ⟨n, rfl⟩ := Int.eq_ofNat_of_zero_le (show 0 ≤ v by omega)
  have HM : Hid (maskI n = 2 ^ n - 1) := by show _ = _; unfold maskI; rw [Int.toNat_natCast]
  go_enter Tryd.func32, Tryd.ntmps32
  go_wp2
  go_loop [3, 6] (fun m i => ∃ k : Nat, k ≤ n ∧ (i = .int .i64 k ∧ m = .int .u64 (2 ^ k - 1))) (fun _ i => n - (intOf i).toNat)
  case atStart => exact ⟨0, by omega, rfl, rfl⟩
  case round =>
    obtain ⟨k, hk, rfl, rfl⟩ := hrel
    by_cases hlt : k < n
    · have hp : (1 : Int) ≤ 2 ^ k := by have : 1 ≤ 2 ^ k := Nat.one_le_two_pow; exact_mod_cast this
      have hq : (2 : Int) ^ k ≤ 9223372036854775808 := by
        have h63 : (2 : Nat) ^ k ≤ 2 ^ 63 := Nat.pow_le_pow_right (by omega) (by omega)
        have : ((2 ^ k : Nat) : Int) ≤ ((2 ^ 63 : Nat) : Int) := Int.ofNat_le.2 h63
        simpa using this
      have HS : Hid ((2 : Int) ^ (k + 1) = 2 ^ k * 2) := Int.pow_succ 2 k
      generalize (2 : Int) ^ k = P at *
      go_wp2
      go_round
      case rel => exact ⟨k + 1, by omega, by go_num, by rw [HS.out]; congr 1; omega⟩
      case measure => simp [intOf]; omega
    · obtain rfl : k = n := by omega
      go_wp2
      go_ret
      exact ⟨ret_int HM.out.symm, Drawn.refl _⟩
end Go.Proofs.Sat
