/- Plain laws: what a machine's words give at each operation, in the closed forms of the reference of layer 1. -/
import Derived.Test.YtkomfeeimdlokaaGreatDoorRaE
set_option linter.unusedVariables false
set_option linter.unusedSimpArgs false
namespace Go.Proofs.Sat
open Go
theorem pow_dvd64 {n : Nat} (h : n ≤ 64) : 2 ^ n ∣ 18446744073709551616 := by
  rw [show (18446744073709551616 : Nat) = 2 ^ 64 from by decide]
  exact Nat.pow_dvd_pow 2 h
theorem cut64 (x : Nat) {n : Nat} (h : n ≤ 64) : x % 18446744073709551616 % 2 ^ n = x % 2 ^ n := Nat.mod_mod_of_dvd _ (pow_dvd64 h)
theorem not_word (a : Nat) {n : Nat} (h : n ≤ 64) (ha : a < 18446744073709551616) : (18446744073709551615 - a) % 2 ^ n = notN n a := by
  unfold notN
  obtain ⟨k, hk⟩ := pow_dvd64 h
  have hp := Nat.two_pow_pos n
  have hm := Nat.mod_lt a hp
  have hd := Nat.div_add_mod a (2 ^ n)
  have hq : a / 2 ^ n < k := Nat.div_lt_of_lt_mul (by omega)
  obtain ⟨q, hq2⟩ : ∃ q, k = a / 2 ^ n + 1 + q := ⟨k - (a / 2 ^ n + 1), by omega⟩
  have e : 18446744073709551615 - a = (2 ^ n - 1 - a % 2 ^ n) + 2 ^ n * q := by
    have h1 : 2 ^ n * k = 2 ^ n * (a / 2 ^ n) + 2 ^ n + 2 ^ n * q := by rw [hq2, Nat.mul_add, Nat.mul_add, Nat.mul_one]
    omega
  rw [e, Nat.add_mul_mod_self_left, Nat.mod_eq_of_lt (by omega)]
theorem neg_word (a : Nat) {n : Nat} (h : n ≤ 64) (ha : a < 18446744073709551616) : (18446744073709551616 - a) % 2 ^ n = negN n a := by
  unfold negN addN
  rw [← not_word a h ha, Nat.mod_add_mod]
  congr 1
  omega
theorem add_word (a b : Nat) {n : Nat} (h : n ≤ 64) : (a + b) % 18446744073709551616 % 2 ^ n = addN n a b := cut64 _ h
theorem sub_word (a b : Nat) {n : Nat} (h : n ≤ 64) (hb : b < 18446744073709551616) : (18446744073709551616 + a - b) % 2 ^ n = subN n a b := by
  unfold subN addN
  rw [← neg_word b h hb, Nat.add_mod_mod]
  congr 1
  omega
theorem mul_word (a b : Nat) {n : Nat} (h : n ≤ 64) : a * b % 18446744073709551616 % 2 ^ n = mulN n a b := by
  rw [cut64 _ h]
  unfold mulN
  rw [Nat.mul_mod_mod]
theorem and_word {a : Nat} (b : Nat) {n : Nat} (ha : a < 2 ^ n) : a &&& b = andN n a b := by
  unfold andN
  rw [Nat.mod_eq_of_lt (Nat.lt_of_le_of_lt Nat.and_le_left ha)]
theorem or_word {a b n : Nat} (ha : a < 2 ^ n) (hb : b < 2 ^ n) : a ||| b = orN n a b := by
  rw [orN_eq, Nat.mod_eq_of_lt (Nat.or_lt_two_pow ha hb)]
theorem xor_add_and : ∀ (k a b : Nat), a < 2 ^ k → b < 2 ^ k → (a ^^^ b) + (a &&& b) = a ||| b
  | 0, a, b, ha, hb => by
    obtain rfl : a = 0 := by simpa using ha
    obtain rfl : b = 0 := by simpa using hb
    rfl
  | k + 1, a, b, ha, hb => by
    rw [Nat.pow_succ] at ha hb
    have ih := xor_add_and k (a / 2) (b / 2) (by omega) (by omega)
    have hx := Nat.div_add_mod (a ^^^ b) 2
    have hn := Nat.div_add_mod (a &&& b) 2
    have ho := Nat.div_add_mod (a ||| b) 2
    have mx : (a ^^^ b) % 2 = a % 2 ^^^ b % 2 := Nat.xor_mod_two_pow (n := 1)
    have mn : (a &&& b) % 2 = a % 2 &&& b % 2 := Nat.and_mod_two_pow (n := 1)
    have mo : (a ||| b) % 2 = a % 2 ||| b % 2 := Nat.or_mod_two_pow (n := 1)
    rw [Nat.xor_div_two] at hx
    rw [Nat.and_div_two] at hn
    rw [Nat.or_div_two] at ho
    have hm : (a % 2 ^^^ b % 2) + (a % 2 &&& b % 2) = (a % 2 ||| b % 2) := by
      rcases Nat.mod_two_eq_zero_or_one a with e | e <;> rcases Nat.mod_two_eq_zero_or_one b with f | f <;> rw [e, f] <;> rfl
    omega
theorem xor_word {a b n : Nat} (ha : a < 2 ^ n) (hb : b < 2 ^ n) : a ^^^ b = xorN n a b := by
  unfold xorN
  rw [← and_word b ha, ← or_word ha hb, ← xor_add_and n a b ha hb]
  omega
theorem div_word {a b n : Nat} (ha : a < 2 ^ n) (hb : b < 2 ^ n) (h0 : b ≠ 0) : a / b = udivN n a b := by
  unfold udivN
  rw [Nat.mod_eq_of_lt ha, Nat.mod_eq_of_lt hb, if_neg h0]
theorem rem_word {a b n : Nat} (ha : a < 2 ^ n) (hb : b < 2 ^ n) (h0 : b ≠ 0) : a % b = uremN n a b := by
  unfold uremN
  rw [Nat.mod_eq_of_lt ha, Nat.mod_eq_of_lt hb, if_neg h0]
theorem eq_word {a b n : Nat} (ha : a < 2 ^ n) (hb : b < 2 ^ n) : (if a = b then 1 else 0) = eqN n a b := by
  unfold eqN
  rw [Nat.mod_eq_of_lt ha, Nat.mod_eq_of_lt hb]
theorem ult_word {a b n : Nat} (ha : a < 2 ^ n) (hb : b < 2 ^ n) : (if a < b then 1 else 0) = ultN n a b := by
  unfold ultN
  rw [Nat.mod_eq_of_lt ha, Nat.mod_eq_of_lt hb]
/-! ### Shifts -/
theorem shl_sum (n a m : Nat) : ∀ i, i ≤ n → shSum n a (0 - (m : Int)) 0 i = if i ≤ m then 0 else a % 2 ^ (i - m) * 2 ^ m
  | 0, _ => by simp [shSum]
  | i + 1, hi => by
    unfold shSum
    rw [shl_sum n a m i (by omega)]
    have hb : shBit n a (0 - (m : Int)) 0 i = if m ≤ i then bitN a (i - m) else 0 := by
      unfold shBit
      rw [if_pos (by omega)]
      by_cases h : m ≤ i
      · rw [if_pos (by omega), if_pos h]
        congr 1
        omega
      · rw [if_neg (by omega), if_neg h]
    rw [hb]
    by_cases h1 : i + 1 ≤ m
    · rw [if_pos (by omega), if_neg (by omega), if_pos h1, Nat.zero_mul]
    · rw [if_neg h1]
      by_cases h2 : i ≤ m
      · obtain rfl : i = m := by omega
        rw [if_pos (by omega), if_pos (by omega), Nat.sub_self, show i + 1 - i = 1 by omega]
        unfold bitN
        simp
      · rw [if_neg h2, if_pos (by omega), show i + 1 - m = (i - m) + 1 by omega, cut_succ, Nat.add_mul]
        congr 1
        rw [Nat.mul_assoc, ← Nat.pow_add]
        congr 2
        omega
theorem shl_word (a b : Nat) {n : Nat} (h1 : 1 ≤ n) (h : n ≤ 64) : (if n ≤ b % 2 ^ n then 0 else a % 2 ^ n * 2 ^ (b % 2 ^ n) % 2 ^ n) = shlN n a b := by
  unfold shlN shiftN byN
  by_cases hf : n ≤ b % 2 ^ n
  · rw [if_pos hf, shl_sum n a _ n (Nat.le_refl _), if_pos (by omega)]
  · rw [if_neg hf, show min (b % 2 ^ n) 64 = b % 2 ^ n by omega, shl_sum n a _ n (Nat.le_refl _), if_neg hf]
    generalize b % 2 ^ n = m at *
    have e : (2 : Nat) ^ n = 2 ^ (n - m) * 2 ^ m := by rw [← Nat.pow_add]; congr 1; omega
    rw [Nat.mod_mul_mod]
    rw [e, Nat.mul_mod_mul_right]
theorem shr_bit (n a m i : Nat) : shBit n a (m : Int) 0 i = bitN (a % 2 ^ n / 2 ^ m) i := by
  unfold shBit bitN
  rw [Nat.div_div_eq_div_mul, ← Nat.pow_add]
  by_cases h : i + m < n
  · rw [if_pos (by omega), if_pos (by omega), show ((i : Int) + (m : Int)).toNat = i + m by omega, Nat.add_comm m i]
    have e : (2 : Nat) ^ n = 2 ^ (i + m) * 2 ^ (n - (i + m)) := by rw [← Nat.pow_add]; congr 1; omega
    have e2 : (2 : Nat) ^ (n - (i + m)) = 2 * 2 ^ (n - (i + m) - 1) := by rw [← Nat.pow_succ']; congr 1; omega
    rw [e, Nat.mod_mul_right_div_self, e2, Nat.mod_mul_right_mod]
  · rw [if_neg (by omega), Nat.div_eq_of_lt]
    have hp := Nat.mod_lt a (Nat.two_pow_pos n)
    exact Nat.lt_of_lt_of_le hp (Nat.pow_le_pow_right (by omega) (by omega))
theorem shr_sum (n a m : Nat) : ∀ i, shSum n a (m : Int) 0 i = a % 2 ^ n / 2 ^ m % 2 ^ i
  | 0 => by simp [shSum, Nat.mod_one]
  | i + 1 => by
    unfold shSum
    rw [shr_sum n a m i, shr_bit, cut_succ]
theorem shr_word (a b : Nat) {n : Nat} (h1 : 1 ≤ n) (h : n ≤ 64) : (if n ≤ b % 2 ^ n then 0 else a % 2 ^ n / 2 ^ (b % 2 ^ n)) = lshrN n a b := by
  unfold lshrN shiftN byN
  rw [shr_sum]
  have hp := Nat.mod_lt a (Nat.two_pow_pos n)
  have hlt : ∀ m, a % 2 ^ n / 2 ^ m < 2 ^ n := fun m => Nat.lt_of_le_of_lt (Nat.div_le_self _ _) hp
  rw [Nat.mod_eq_of_lt (hlt _)]
  by_cases hf : n ≤ b % 2 ^ n
  · rw [if_pos hf, Nat.div_eq_of_lt (Nat.lt_of_lt_of_le hp (Nat.pow_le_pow_right (by omega) (by omega)))]
  · rw [if_neg hf, show min (b % 2 ^ n) 64 = b % 2 ^ n by omega]
/-- The sum with ones for what is shifted in. -/
theorem sar_sum (n a m : Nat) (hm : m ≤ n) : ∀ i, i ≤ n → shSum n a (m : Int) 1 i = a % 2 ^ n / 2 ^ m % 2 ^ i + (if i ≤ n - m then 0 else 2 ^ i - 2 ^ (n - m))
  | 0, _ => by simp [shSum, Nat.mod_one]
  | i + 1, hi => by
    unfold shSum
    rw [sar_sum n a m hm i (by omega)]
    by_cases h : i + m < n
    · have hc : (i : Int) + (m : Int) < (n : Int) := by omega
      have e : shBit n a (m : Int) 1 i = shBit n a (m : Int) 0 i := by
        unfold shBit
        rw [if_pos hc, if_pos hc]
      rw [e, shr_bit, cut_succ, if_pos (by omega), if_pos (by omega)]
      omega
    · have e : shBit n a (m : Int) 1 i = 1 := by unfold shBit; rw [if_neg (by omega)]
      have hp := Nat.mod_lt a (Nat.two_pow_pos n)
      have hx : a % 2 ^ n / 2 ^ m < 2 ^ (n - m) := by
        apply Nat.div_lt_of_lt_mul
        rw [← Nat.pow_add]
        rwa [show m + (n - m) = n by omega]
      have hi1 : (2 : Nat) ^ (n - m) ≤ 2 ^ i := Nat.pow_le_pow_right (by omega) (by omega)
      have hi2 : (2 : Nat) ^ (i + 1) = 2 * 2 ^ i := by rw [Nat.pow_succ]; omega
      generalize a % 2 ^ n / 2 ^ m = q at *
      have hq1 : q < 2 ^ i := Nat.lt_of_lt_of_le hx hi1
      have hq2 : q < 2 ^ (i + 1) := by omega
      rw [e, Nat.mod_eq_of_lt hq1, Nat.mod_eq_of_lt hq2, if_neg (show ¬ i + 1 ≤ n - m by omega)]
      clear e
      by_cases h2 : i ≤ n - m
      · obtain rfl : i = n - m := by omega
        rw [if_pos (Nat.le_refl _), hi2]
        omega
      · rw [if_neg h2, hi2]
        generalize (2 : Nat) ^ i = X at *
        generalize (2 : Nat) ^ (n - m) = Y at *
        omega
theorem sar_word0 (a b : Nat) {n : Nat} (h1 : 1 ≤ n) (h : n ≤ 64) (ht : bitN a (n - 1) = 0) : (if n ≤ b % 2 ^ n then 0 else a % 2 ^ n / 2 ^ (b % 2 ^ n)) = ashrN n a b := by
  unfold ashrN
  rw [ht]
  exact shr_word a b h1 h
theorem sar_word1 (a b : Nat) {n : Nat} (h1 : 1 ≤ n) (h : n ≤ 64) (ht : bitN a (n - 1) = 1) : (if n ≤ b % 2 ^ n then 2 ^ n - 1 else a % 2 ^ n / 2 ^ (b % 2 ^ n) + (2 ^ n - 2 ^ (n - b % 2 ^ n))) = ashrN n a b := by
  unfold ashrN shiftN byN
  rw [ht]
  by_cases hf : n ≤ b % 2 ^ n
  · rw [if_pos hf]
    have hall : ∀ i, i ≤ n → shSum n a ((min (b % 2 ^ n) 64 : Nat) : Int) 1 i = 2 ^ i - 1 := by
      intro i
      induction i with
      | zero => intro _; simp [shSum]
      | succ i ih =>
        intro hi
        unfold shSum
        rw [ih (by omega)]
        have e : shBit n a ((min (b % 2 ^ n) 64 : Nat) : Int) 1 i = 1 := by unfold shBit; rw [if_neg (by omega)]
        have hp := Nat.two_pow_pos i
        rw [e, Nat.pow_succ]
        omega
    rw [hall n (Nat.le_refl _)]
  · rw [if_neg hf, show min (b % 2 ^ n) 64 = b % 2 ^ n by omega]
    generalize b % 2 ^ n = m at *
    have hp := Nat.mod_lt a (Nat.two_pow_pos n)
    rw [sar_sum n a m (by omega) n (Nat.le_refl _), Nat.mod_eq_of_lt (Nat.lt_of_le_of_lt (Nat.div_le_self _ _) hp)]
    by_cases h0 : m = 0
    · subst h0
      rw [if_pos (by omega)]
      simp
    · rw [if_neg (by omega)]
/-- The signed value. -/
theorem sgn_word (a : Nat) {n : Nat} (h1 : 1 ≤ n) : sgnN n a = if bitN a (n - 1) = 1 then ((a % 2 ^ n : Nat) : Int) - ((2 ^ n : Nat) : Int) else ((a % 2 ^ n : Nat) : Int) := by
  unfold sgnN
  have hp := Nat.mod_lt a (Nat.two_pow_pos n)
  split
  · omega
  · rfl
theorem top_bit (a : Nat) {n : Nat} (h1 : 1 ≤ n) : bitN a (n - 1) = if 2 ^ (n - 1) ≤ a % 2 ^ n then 1 else 0 := by
  have e : (2 : Nat) ^ n = 2 ^ (n - 1) * 2 := by rw [← Nat.pow_succ]; congr 1; omega
  unfold bitN
  rw [← Nat.mod_mul_right_div_self, ← e]
  have hp := Nat.mod_lt a (Nat.two_pow_pos n)
  have hq := Nat.two_pow_pos (n - 1)
  by_cases h : 2 ^ (n - 1) ≤ a % 2 ^ n
  · rw [if_pos h]
    apply Nat.div_eq_of_lt_le <;> omega
  · rw [if_neg h, Nat.div_eq_of_lt (by omega)]
end Go.Proofs.Sat
