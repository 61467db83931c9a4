/- The walks of masks, of isa.ins and of isa.Check. -/
import Derived.Test.YtiepphjpfjfkmaaDoorIsaT
set_option linter.unusedVariables false
set_option linter.unusedSimpArgs false
namespace Go.Proofs.Sat
open Go Go.RowKit
theorem mask_nat : ∀ n, n < 65 → 18446744073709551615 / 2 ^ (64 - n) = 2 ^ n - 1 := by decide
theorem mask_div {v : Int} (h1 : 1 ≤ v) (h2 : v ≤ 64) : (18446744073709551615 : Int) / 2 ^ (64 - v).toNat = maskI v := by
  obtain ⟨n, rfl⟩ := Int.eq_ofNat_of_zero_le (show 0 ≤ v by omega)
  have hn := mask_nat n (by omega)
  have e : (64 - (n : Int)).toNat = 64 - n := by omega
  have hp : 1 ≤ 2 ^ n := Nat.one_le_two_pow
  unfold maskI
  rw [e, Int.toNat_natCast]
  have : ((18446744073709551615 / 2 ^ (64 - n) : Nat) : Int) = ((2 ^ n - 1 : Nat) : Int) := by rw [hn]
  rw [Int.natCast_ediv, Int.natCast_pow, Int.natCast_sub hp, Int.natCast_pow] at this
  simpa using this
set_option maxHeartbeats 1000000 in
theorem bits_Mask (v : Int) (w : World) (h1 : 1 ≤ v) (h2 : v ≤ 64) : Calls Tryd.prog 49 #[.int .i64 v] w fun e w' => e = .returned (.int .u64 (maskI v)) ∧ Drawn w w' := by
  have HM := Lib.hid (mask_div h1 h2)
  go_enter Tryd.func49, Tryd.ntmps49
  go_wp2
  go_ret
  exact ⟨ret_int HM.out, Drawn.refl _⟩
end Go.Proofs.Sat
