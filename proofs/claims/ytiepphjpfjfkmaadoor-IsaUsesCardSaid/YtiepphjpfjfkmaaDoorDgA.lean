/- The reference of ch. 02: write. -/
import Derived.Test.YtiepphjpfjfkmaaDoorShelf2
import Derived.Test.YtiepphjpfjfkmaaDoorOps2
import Derived.BigQuiet
import Derived.Laws.DeepStrings4
import Derived.Lib.Hide
import Derived.Lib.ItoaNum
import Derived.IntWalk
set_option linter.unusedVariables false
set_option linter.unusedSimpArgs false
namespace Go.Proofs.Sat
open Go Go.RowKit
def strOf (l : List UInt8) : ByteArray := ⟨l.toArray⟩
theorem strOf_size (l : List UInt8) : (strOf l).size = l.length := by simp [strOf, ByteArray.size]
theorem strOf_append (l m : List UInt8) : strOf l ++ strOf m = strOf (l ++ m) := by
  unfold strOf
  rw [← List.append_toArray]
  apply ByteArray.ext
  simp
def digC (d : Nat) : UInt8 := if d < 10 then UInt8.ofNat (48 + d) else UInt8.ofNat (87 + d)
def wrL (b x : Nat) : List UInt8 := if h : x < b ∨ b < 2 then [digC x] else wrL b (x / b) ++ [digC (x % b)]
termination_by x
decreasing_by exact Nat.div_lt_self (by omega) (by omega)
theorem wrL_small {b x : Nat} (h : x < b) : wrL b x = [digC x] := by rw [wrL, dif_pos (.inl h)]
theorem wrL_big {b x : Nat} (hb : 2 ≤ b) (h : b ≤ x) : wrL b x = wrL b (x / b) ++ [digC (x % b)] := by rw [wrL, dif_neg (by omega)]
theorem wrL_length {b : Nat} (hb : 2 ≤ b) : ∀ (k x : Nat), x < 2 ^ k → (wrL b x).length ≤ k + 1
  | 0, x, h => by
    have : x = 0 := by simpa using h
    rw [wrL_small (by omega)]
    simp
  | k + 1, x, h => by
    by_cases hx : x < b
    · rw [wrL_small hx]; simp
    · rw [wrL_big hb (by omega), List.length_append]
      have h1 : x / b < 2 ^ k := by
        rw [Nat.div_lt_iff_lt_mul (by omega)]
        have h2 : 2 ^ k * 2 ≤ 2 ^ k * b := Nat.mul_le_mul (Nat.le_refl _) hb
        rw [Nat.pow_succ] at h
        omega
      have := wrL_length hb k (x / b) h1
      simp
      omega
abbrev hexS : ByteArray := { data := #[48, 49, 50, 51, 52, 53, 54, 55, 56, 57, 97, 98, 99, 100, 101, 102] }
theorem hex_at {d : Nat} (h : d < 16) : hexS.extract d (d + 1) = strOf [digC d] := by
  rcases (show d = 0 ∨ d = 1 ∨ d = 2 ∨ d = 3 ∨ d = 4 ∨ d = 5 ∨ d = 6 ∨ d = 7 ∨ d = 8 ∨ d = 9 ∨ d = 10 ∨ d = 11 ∨ d = 12 ∨ d = 13 ∨ d = 14 ∨ d = 15 by omega) with rfl | rfl | rfl | rfl | rfl | rfl | rfl | rfl | rfl | rfl | rfl | rfl | rfl | rfl | rfl | rfl <;> decide +kernel
theorem ret_str {a b : ByteArray} (h : a = b) : Ending.returned (.string a) = .returned (.string b) := by rw [h]
/-- A hexadecimal numeral. -/
def hexL (x : Nat) : List UInt8 := 48 :: 120 :: wrL 16 x
theorem wr_len64 {b x : Nat} (hb : 2 ≤ b) (hx : x < 18446744073709551616) : (wrL b x).length ≤ 65 := wrL_length hb 64 x (by simpa using hx)
theorem dec_eq (u : Nat) : Lib.decDigits u = wrL 10 u := by
  induction u using Nat.strongRecOn with
  | _ u ih =>
    rw [Lib.decDigits]
    by_cases h : u < 10
    · rw [dif_pos h, wrL_small h]
      unfold digC
      rw [if_pos h]
    · rw [dif_neg h, wrL_big (by omega) (by omega), ih (u / 10) (by omega)]
      unfold digC
      rw [if_pos (by omega)]
end Go.Proofs.Sat
