/- RaA, RaB, RaC, RaD, RaE, one after the other. -/
import Derived.Test.YtiepphjpfjfkmaaDoorIsaC
import Derived.Laws.BitsLemmas
import Derived.Lib.EndianBits
import Derived.WalkSmall
set_option linter.unusedVariables false
set_option linter.unusedSimpArgs false
/- Walks of the reference of layer 1 (bits). -/
namespace Go.Proofs.Sat
open Go Go.RowKit
def bitN (x i : Nat) : Nat := x / 2 ^ i % 2
theorem bitN_le (x i : Nat) : bitN x i ≤ 1 := by unfold bitN; omega
theorem pow_le63 {i : Nat} (hi : i ≤ 63) : 2 ^ i ≤ 9223372036854775808 := by
  have : (2 : Nat) ^ i ≤ 2 ^ 63 := Nat.pow_le_pow_right (by omega) hi
  simpa using this
theorem pow_le64 {i : Nat} (hi : i ≤ 64) : 2 ^ i ≤ 18446744073709551616 := by
  have : (2 : Nat) ^ i ≤ 2 ^ 64 := Nat.pow_le_pow_right (by omega) hi
  simpa using this
theorem bit_and (x i : Nat) (hx : x < 18446744073709551616) : bits BinOp.and IntKind.u64 ((x : Int) / 2 ^ i) 1 = ((bitN x i : Nat) : Int) := by
  have e : (x : Int) / 2 ^ i = ((x / 2 ^ i : Nat) : Int) := by simp
  have h : x / 2 ^ i ≤ x := Nat.div_le_self _ _
  unfold bitN
  rw [e]
  generalize x / 2 ^ i = q at *
  rw [and_one_u64 _ (by omega) (by omega)]
  omega
theorem top_nat {b i : Nat} (hb : b ≤ 1) (hi : i ≤ 63) : b * 2 ^ i ≤ 9223372036854775808 := by
  have hp := pow_le63 hi
  rcases (show b = 0 ∨ b = 1 by omega) with rfl | rfl <;> omega
theorem top_int (b i : Nat) : (b : Int) * 2 ^ i = ((b * 2 ^ i : Nat) : Int) := by simp
theorem wrap_top {b i : Nat} (hb : b ≤ 1) (hi : i ≤ 63) : IntKind.u64.wrap ((b : Int) * 2 ^ i) = (b : Int) * 2 ^ i := by
  have h := top_nat hb hi
  rw [top_int]
  exact u64_wrap_id _ (by omega) (by omega)
/-- Joining a bit on top. -/
theorem or_top {y b i z : Nat} (hy : y < 2 ^ i) (hb : b ≤ 1) (hi : i ≤ 63) (hz : z = y + b * 2 ^ i) : bits BinOp.or IntKind.u64 (y : Int) ((b : Int) * 2 ^ i) = (z : Int) := by
  have hp := pow_le63 hi
  have h2 := top_nat hb hi
  have hyi : (y : Int) < 2 ^ i := by
    have h : ((y : Nat) : Int) < ((2 ^ i : Nat) : Int) := Int.ofNat_lt.2 hy
    simpa using h
  have h64 : (2 : Int) ^ 64 = 18446744073709551616 := by decide
  have hm : ((b * 2 ^ i : Nat) : Int) % 2 ^ i = 0 := by rw [← top_int]; exact Int.mul_emod_left _ _
  rw [top_int, bits_join_low .u64 64 (by decide) wraps_u64 i (y : Int) ((b * 2 ^ i : Nat) : Int) (by omega) hyi (by omega) (by omega) hm (by omega), hz]
  omega
theorem cut_succ (x i : Nat) : x % 2 ^ (i + 1) = x % 2 ^ i + bitN x i * 2 ^ i := by
  unfold bitN
  rw [Nat.pow_succ, Nat.mod_mul, Nat.mul_comm (2 ^ i)]
end Go.Proofs.Sat
/- Walks of the reference of layer 1: Not, And, Or, Xor, Add, Neg, Sub. -/
namespace Go.Proofs.Sat
open Go Go.RowKit
def notN (n a : Nat) : Nat := 2 ^ n - 1 - a % 2 ^ n
def andN (n a b : Nat) : Nat := (a &&& b) % 2 ^ n
def orN (n a b : Nat) : Nat := notN n (andN n (notN n a) (notN n b))
def xorN (n a b : Nat) : Nat := orN n a b - andN n a b
def addN (n a b : Nat) : Nat := (a + b) % 2 ^ n
def negN (n a : Nat) : Nat := addN n (notN n a) 1
def subN (n a b : Nat) : Nat := addN n a (negN n b)
theorem mod_u64 (x : Nat) {n : Nat} (h : n ≤ 64) : x % 2 ^ n < 18446744073709551616 := Nat.lt_of_lt_of_le (Nat.mod_lt _ (Nat.two_pow_pos n)) (pow_le64 h)
theorem notN_lt (a : Nat) {n : Nat} (h : n ≤ 64) : notN n a < 18446744073709551616 := by unfold notN; have := pow_le64 h; have := Nat.two_pow_pos n; omega
theorem andN_lt (a b : Nat) {n : Nat} (h : n ≤ 64) : andN n a b < 18446744073709551616 := mod_u64 _ h
theorem orN_lt (a b : Nat) {n : Nat} (h : n ≤ 64) : orN n a b < 18446744073709551616 := notN_lt _ h
theorem addN_lt (a b : Nat) {n : Nat} (h : n ≤ 64) : addN n a b < 18446744073709551616 := mod_u64 _ h
theorem bitN_and (a b k : Nat) : bitN (a &&& b) k = if bitN a k = 1 ∧ bitN b k = 1 then 1 else 0 := by
  have h := Nat.testBit_and a b k
  rw [Nat.testBit_eq_decide_div_mod_eq, Nat.testBit_eq_decide_div_mod_eq, Nat.testBit_eq_decide_div_mod_eq] at h
  have h1 := bitN_le (a &&& b) k
  unfold bitN at *
  by_cases ha : a / 2 ^ k % 2 = 1 <;> by_cases hb : b / 2 ^ k % 2 = 1 <;> simp [ha, hb] at h ⊢ <;> omega
theorem notN_bit (n a i : Nat) : (notN n a).testBit i = (decide (i < n) && !a.testBit i) := by
  have hl : a % 2 ^ n < 2 ^ n := Nat.mod_lt _ (Nat.two_pow_pos n)
  have e : notN n a = 2 ^ n - (a % 2 ^ n + 1) := by unfold notN; omega
  rw [e, Nat.testBit_two_pow_sub_succ hl, Nat.testBit_mod_two_pow]
  cases decide (i < n) <;> simp
theorem orN_eq (n a b : Nat) : orN n a b = (a ||| b) % 2 ^ n := by
  apply Nat.eq_of_testBit_eq
  intro i
  unfold orN andN
  rw [notN_bit, Nat.testBit_mod_two_pow, Nat.testBit_mod_two_pow, Nat.testBit_and, notN_bit, notN_bit, Nat.testBit_or]
  cases decide (i < n) <;> cases a.testBit i <;> cases b.testBit i <;> rfl
theorem and_le_or (n a b : Nat) : andN n a b ≤ orN n a b := by
  rw [orN_eq]
  unfold andN
  rw [Nat.and_mod_two_pow, Nat.or_mod_two_pow]
  exact Nat.le_trans Nat.and_le_left Nat.left_le_or
theorem add_end (n a b : Nat) : (a % 2 ^ n + b % 2 ^ n) % 2 ^ n = addN n a b := by unfold addN; rw [← Nat.add_mod]
theorem negN_lt (a : Nat) {n : Nat} (h : n ≤ 64) : negN n a < 18446744073709551616 := addN_lt _ _ h
end Go.Proofs.Sat
/- Walks of the reference of layer 1: Mul, divide, Udiv, Urem. -/
namespace Go.Proofs.Sat
open Go Go.RowKit
def mulN (n a b : Nat) : Nat := a * (b % 2 ^ n) % 2 ^ n
def mulR (n a b j : Nat) : Nat := a * (b % 2 ^ n / 2 ^ j) % 2 ^ n
theorem half_step (x j : Nat) : x / 2 ^ j = 2 * (x / 2 ^ (j + 1)) + bitN x j := by
  unfold bitN
  rw [Nat.pow_succ, ← Nat.div_div_eq_div_mul]
  omega
theorem bitN_mod (b n j : Nat) (h : j < n) : bitN (b % 2 ^ n) j = bitN b j := by
  have h1 := Nat.testBit_mod_two_pow b n j
  rw [Nat.testBit_eq_decide_div_mod_eq, Nat.testBit_eq_decide_div_mod_eq, decide_eq_true h, Bool.true_and] at h1
  have h2 := bitN_le (b % 2 ^ n) j
  have h3 := bitN_le b j
  unfold bitN at *
  by_cases h4 : b / 2 ^ j % 2 = 1
  · rw [decide_eq_true h4] at h1
    have := of_decide_eq_true h1
    omega
  · rw [decide_eq_false h4] at h1
    have := of_decide_eq_false h1
    omega
theorem mul_step (n a b j : Nat) (h : j < n) : mulR n a b j = if bitN b j = 1 then addN n (addN n (mulR n a b (j + 1)) (mulR n a b (j + 1))) a else addN n (mulR n a b (j + 1)) (mulR n a b (j + 1)) := by
  unfold mulR addN
  rw [half_step (b % 2 ^ n) j, bitN_mod b n j h]
  generalize b % 2 ^ n / 2 ^ (j + 1) = q
  by_cases hb : bitN b j = 1
  · rw [if_pos hb, hb]
    have e : a * (2 * q + 1) = a * q + a * q + a := by rw [Nat.mul_add, Nat.mul_one]; congr 1; rw [Nat.two_mul, Nat.mul_add]
    rw [e, ← Nat.add_mod, Nat.mod_add_mod]
  · have h0 : bitN b j = 0 := by have := bitN_le b j; omega
    rw [if_neg hb, h0, Nat.add_zero, ← Nat.add_mod]
    congr 1
    rw [Nat.two_mul, Nat.mul_add]
theorem mulR_lt (n a b j : Nat) (h : n ≤ 64) : mulR n a b j < 18446744073709551616 := mod_u64 _ h
theorem or_low {q i z : Nat} (hq : q % 2 ^ (i + 1) = 0) (hql : q < 18446744073709551616) (hi : i ≤ 63) (hz : z = q + 2 ^ i) : bits BinOp.or IntKind.u64 (q : Int) (2 ^ i) = (z : Int) := by
  have hp := pow_le63 hi
  have h64 : (2 : Int) ^ 64 = 18446744073709551616 := by decide
  have e : (2 : Int) ^ i = ((2 ^ i : Nat) : Int) := by simp
  have e1 : (2 : Int) ^ (i + 1) = ((2 ^ (i + 1) : Nat) : Int) := by simp
  have hlt : 2 ^ i < 2 ^ (i + 1) := Nat.pow_lt_pow_right (by omega) (by omega)
  rw [e, bits_join .u64 64 (by decide) wraps_u64 (i + 1) (q : Int) ((2 ^ i : Nat) : Int) (by omega) (by rw [e1]; omega) (by omega) (by omega) (by rw [e1]; omega) (by omega), hz]
  omega
theorem div_step (a b j : Nat) (hb : 0 < b) : a / 2 ^ j / b = (if b ≤ 2 * (a / 2 ^ (j + 1) % b) + bitN a j then 2 * (a / 2 ^ (j + 1) / b) + 1 else 2 * (a / 2 ^ (j + 1) / b)) ∧ a / 2 ^ j % b = (if b ≤ 2 * (a / 2 ^ (j + 1) % b) + bitN a j then 2 * (a / 2 ^ (j + 1) % b) + bitN a j - b else 2 * (a / 2 ^ (j + 1) % b) + bitN a j) := by
  rw [half_step a j]
  have ht := bitN_le a j
  generalize bitN a j = t at *
  generalize a / 2 ^ (j + 1) = A at *
  have hr := Nat.mod_lt A hb
  have hA := Nat.div_add_mod A b
  generalize A / b = d at *
  generalize A % b = r at *
  by_cases h : b ≤ 2 * r + t
  · rw [if_pos h, if_pos h]
    have e : 2 * A + t = (2 * r + t - b) + b * (2 * d + 1) := by rw [← hA, Nat.mul_add, Nat.mul_add, Nat.mul_left_comm]; omega
    have hl : 2 * r + t - b < b := by omega
    rw [e, Nat.add_mul_div_left _ _ hb, Nat.add_mul_mod_self_left, Nat.div_eq_of_lt hl, Nat.mod_eq_of_lt hl]
    omega
  · rw [if_neg h, if_neg h]
    have e : 2 * A + t = (2 * r + t) + b * (2 * d) := by rw [← hA, Nat.mul_add, Nat.mul_left_comm]; omega
    have hl : 2 * r + t < b := by omega
    rw [e, Nat.add_mul_div_left _ _ hb, Nat.add_mul_mod_self_left, Nat.div_eq_of_lt hl, Nat.mod_eq_of_lt hl]
    omega
theorem over_iff {r : Nat} (h : r < 18446744073709551616) : bitN r 63 = if 9223372036854775808 ≤ r then 1 else 0 := by
  unfold bitN
  have : (2 : Nat) ^ 63 = 9223372036854775808 := by decide
  rw [this]
  split <;> omega
def udivN (n a b : Nat) : Nat := if b % 2 ^ n = 0 then 2 ^ n - 1 else a % 2 ^ n / (b % 2 ^ n)
def uremN (n a b : Nat) : Nat := if b % 2 ^ n = 0 then a % 2 ^ n else a % 2 ^ n % (b % 2 ^ n)
theorem mask_int (n : Nat) : maskI (n : Int) = ((2 ^ n - 1 : Nat) : Int) := by
  unfold maskI
  rw [Int.toNat_natCast]
  have := Nat.two_pow_pos n
  rw [Int.ofNat_sub this]
  simp
end Go.Proofs.Sat
/- Walks of the reference of layer 1: shift, by, Shl, Lshr, Ashr, truth, Eq, Ult, Negative, Signed, Slt. -/
namespace Go.Proofs.Sat
open Go Go.RowKit
/-- Bit i of a value that is moved by b. -/
def shBit (n a : Nat) (b : Int) (fill i : Nat) : Nat := if (i : Int) + b < n then (if 0 ≤ (i : Int) + b then bitN a ((i : Int) + b).toNat else 0) else fill
def shSum (n a : Nat) (b : Int) (fill : Nat) : Nat → Nat
  | 0 => 0
  | i + 1 => shSum n a b fill i + shBit n a b fill i * 2 ^ i
def shiftN (n a : Nat) (b : Int) (fill : Nat) : Nat := shSum n a b fill n
theorem shBit_le {n a : Nat} {b : Int} {fill i : Nat} (h : fill ≤ 1) : shBit n a b fill i ≤ 1 := by unfold shBit; split; (· split; (· exact bitN_le _ _); (· omega)); (· exact h)
theorem shSum_lt {n a : Nat} {b : Int} {fill : Nat} (h : fill ≤ 1) (i : Nat) : shSum n a b fill i < 2 ^ i := by
  induction i with
  | zero => simp [shSum]
  | succ i ih =>
    have := @shBit_le n a b fill i h
    rw [Nat.pow_succ]
    unfold shSum
    rcases (show shBit n a b fill i = 0 ∨ shBit n a b fill i = 1 by omega) with e | e <;> rw [e] <;> omega
def byN (n b : Nat) : Nat := min (b % 2 ^ n) 64
theorem byN_le (n b : Nat) : byN n b ≤ 64 := Nat.min_le_right _ _
def shlN (n a b : Nat) : Nat := shiftN n a (0 - (byN n b : Int)) 0
def lshrN (n a b : Nat) : Nat := shiftN n a (byN n b : Int) 0
def ashrN (n a b : Nat) : Nat := shiftN n a (byN n b : Int) (bitN a (n - 1))
def eqN (n a b : Nat) : Nat := if a % 2 ^ n = b % 2 ^ n then 1 else 0
def ultN (n a b : Nat) : Nat := if a % 2 ^ n < b % 2 ^ n then 1 else 0
def sgnN (n a : Nat) : Int := if bitN a (n - 1) = 1 then -((2 ^ n - 1 - a % 2 ^ n : Nat) : Int) - 1 else ((a % 2 ^ n : Nat) : Int)
def sltN (n a b : Nat) : Nat := if sgnN n a < sgnN n b then 1 else 0
end Go.Proofs.Sat
/- The walk of the reference's value. -/
namespace Go.Proofs.Sat
open Go Go.RowKit
/-- What an operation computes. -/
def valN (op : Int) (n a b : Nat) : Nat :=
  if op = 2 then a else if op = 3 then notN n a else if op = 4 then negN n a else if op = 5 then andN n a b else if op = 6 then orN n a b else if op = 7 then xorN n a b else if op = 8 then addN n a b else if op = 9 then subN n a b else if op = 10 then mulN n a b
  else if op = 11 then udivN n a b else if op = 12 then uremN n a b else if op = 13 then shlN n a b else if op = 14 then lshrN n a b else if op = 15 then ashrN n a b else if op = 16 then eqN n a b else if op = 17 then ultN n a b else sltN n a b
end Go.Proofs.Sat
