/- BiA, BiW, one after the other. -/
import Derived.Test.YtkomfeeimdlokaaDoorRaE
set_option linter.unusedVariables false
set_option linter.unusedSimpArgs false
/- Plain laws: what a machine's words give at each operation, in the closed forms of the reference of layer 1. -/
namespace Go.Proofs.Sat
open Go
theorem pow_dvd64 {n : Nat} (h : n ≤ 64) : 2 ^ n ∣ 18446744073709551616 := by
  rw [show (18446744073709551616 : Nat) = 2 ^ 64 from by decide]
  exact Nat.pow_dvd_pow 2 h
theorem cut64 (x : Nat) {n : Nat} (h : n ≤ 64) : x % 18446744073709551616 % 2 ^ n = x % 2 ^ n := Nat.mod_mod_of_dvd _ (pow_dvd64 h)
theorem not_word (a : Nat) {n : Nat} (h : n ≤ 64) (ha : a < 18446744073709551616) : (18446744073709551615 - a) % 2 ^ n = notN n a := by
  unfold notN
  obtain ⟨k, hk⟩ := pow_dvd64 h
  have hp := Nat.two_pow_pos n
  have hm := Nat.mod_lt a hp
  have hd := Nat.div_add_mod a (2 ^ n)
  have hq : a / 2 ^ n < k := Nat.div_lt_of_lt_mul (by omega)
  obtain ⟨q, hq2⟩ : ∃ q, k = a / 2 ^ n + 1 + q := ⟨k - (a / 2 ^ n + 1), by omega⟩
  have e : 18446744073709551615 - a = (2 ^ n - 1 - a % 2 ^ n) + 2 ^ n * q := by
    have h1 : 2 ^ n * k = 2 ^ n * (a / 2 ^ n) + 2 ^ n + 2 ^ n * q := by rw [hq2, Nat.mul_add, Nat.mul_add, Nat.mul_one]
    omega
  rw [e, Nat.add_mul_mod_self_left, Nat.mod_eq_of_lt (by omega)]
theorem neg_word (a : Nat) {n : Nat} (h : n ≤ 64) (ha : a < 18446744073709551616) : (18446744073709551616 - a) % 2 ^ n = negN n a := by
  unfold negN addN
  rw [← not_word a h ha, Nat.mod_add_mod]
  congr 1
  omega
theorem add_word (a b : Nat) {n : Nat} (h : n ≤ 64) : (a + b) % 18446744073709551616 % 2 ^ n = addN n a b := cut64 _ h
theorem sub_word (a b : Nat) {n : Nat} (h : n ≤ 64) (hb : b < 18446744073709551616) : (18446744073709551616 + a - b) % 2 ^ n = subN n a b := by
  unfold subN addN
  rw [← neg_word b h hb, Nat.add_mod_mod]
  congr 1
  omega
theorem mul_word (a b : Nat) {n : Nat} (h : n ≤ 64) : a * b % 18446744073709551616 % 2 ^ n = mulN n a b := by
  rw [cut64 _ h]
  unfold mulN
  rw [Nat.mul_mod_mod]
theorem and_word {a : Nat} (b : Nat) {n : Nat} (ha : a < 2 ^ n) : a &&& b = andN n a b := by
  unfold andN
  rw [Nat.mod_eq_of_lt (Nat.lt_of_le_of_lt Nat.and_le_left ha)]
theorem or_word {a b n : Nat} (ha : a < 2 ^ n) (hb : b < 2 ^ n) : a ||| b = orN n a b := by
  rw [orN_eq, Nat.mod_eq_of_lt (Nat.or_lt_two_pow ha hb)]
theorem xor_add_and : ∀ (k a b : Nat), a < 2 ^ k → b < 2 ^ k → (a ^^^ b) + (a &&& b) = a ||| b
  | 0, a, b, ha, hb => by
    obtain rfl : a = 0 := by simpa using ha
    obtain rfl : b = 0 := by simpa using hb
    rfl
  | k + 1, a, b, ha, hb => by
    rw [Nat.pow_succ] at ha hb
    have ih := xor_add_and k (a / 2) (b / 2) (by omega) (by omega)
    have hx := Nat.div_add_mod (a ^^^ b) 2
    have hn := Nat.div_add_mod (a &&& b) 2
    have ho := Nat.div_add_mod (a ||| b) 2
    have mx : (a ^^^ b) % 2 = a % 2 ^^^ b % 2 := Nat.xor_mod_two_pow (n := 1)
    have mn : (a &&& b) % 2 = a % 2 &&& b % 2 := Nat.and_mod_two_pow (n := 1)
    have mo : (a ||| b) % 2 = a % 2 ||| b % 2 := Nat.or_mod_two_pow (n := 1)
    rw [Nat.xor_div_two] at hx
    rw [Nat.and_div_two] at hn
    rw [Nat.or_div_two] at ho
    have hm : (a % 2 ^^^ b % 2) + (a % 2 &&& b % 2) = (a % 2 ||| b % 2) := by
      rcases Nat.mod_two_eq_zero_or_one a with e | e <;> rcases Nat.mod_two_eq_zero_or_one b with f | f <;> rw [e, f] <;> rfl
    omega
theorem xor_word {a b n : Nat} (ha : a < 2 ^ n) (hb : b < 2 ^ n) : a ^^^ b = xorN n a b := by
  unfold xorN
  rw [← and_word b ha, ← or_word ha hb, ← xor_add_and n a b ha hb]
  omega
theorem div_word {a b n : Nat} (ha : a < 2 ^ n) (hb : b < 2 ^ n) (h0 : b ≠ 0) : a / b = udivN n a b := by
  unfold udivN
  rw [Nat.mod_eq_of_lt ha, Nat.mod_eq_of_lt hb, if_neg h0]
theorem rem_word {a b n : Nat} (ha : a < 2 ^ n) (hb : b < 2 ^ n) (h0 : b ≠ 0) : a % b = uremN n a b := by
  unfold uremN
  rw [Nat.mod_eq_of_lt ha, Nat.mod_eq_of_lt hb, if_neg h0]
theorem eq_word {a b n : Nat} (ha : a < 2 ^ n) (hb : b < 2 ^ n) : (if a = b then 1 else 0) = eqN n a b := by
  unfold eqN
  rw [Nat.mod_eq_of_lt ha, Nat.mod_eq_of_lt hb]
theorem ult_word {a b n : Nat} (ha : a < 2 ^ n) (hb : b < 2 ^ n) : (if a < b then 1 else 0) = ultN n a b := by
  unfold ultN
  rw [Nat.mod_eq_of_lt ha, Nat.mod_eq_of_lt hb]
/-! ### Shifts -/
theorem shl_sum (n a m : Nat) : ∀ i, i ≤ n → shSum n a (0 - (m : Int)) 0 i = if i ≤ m then 0 else a % 2 ^ (i - m) * 2 ^ m
  | 0, _ => by simp [shSum]
  | i + 1, hi => by
    unfold shSum
    rw [shl_sum n a m i (by omega)]
    have hb : shBit n a (0 - (m : Int)) 0 i = if m ≤ i then bitN a (i - m) else 0 := by
      unfold shBit
      rw [if_pos (by omega)]
      by_cases h : m ≤ i
      · rw [if_pos (by omega), if_pos h]
        congr 1
        omega
      · rw [if_neg (by omega), if_neg h]
    rw [hb]
    by_cases h1 : i + 1 ≤ m
    · rw [if_pos (by omega), if_neg (by omega), if_pos h1, Nat.zero_mul]
    · rw [if_neg h1]
      by_cases h2 : i ≤ m
      · obtain rfl : i = m := by omega
        rw [if_pos (by omega), if_pos (by omega), Nat.sub_self, show i + 1 - i = 1 by omega]
        unfold bitN
        simp
      · rw [if_neg h2, if_pos (by omega), show i + 1 - m = (i - m) + 1 by omega, cut_succ, Nat.add_mul]
        congr 1
        rw [Nat.mul_assoc, ← Nat.pow_add]
        congr 2
        omega
theorem shl_word (a b : Nat) {n : Nat} (h1 : 1 ≤ n) (h : n ≤ 64) : (if n ≤ b % 2 ^ n then 0 else a % 2 ^ n * 2 ^ (b % 2 ^ n) % 2 ^ n) = shlN n a b := by
  unfold shlN shiftN byN
  by_cases hf : n ≤ b % 2 ^ n
  · rw [if_pos hf, shl_sum n a _ n (Nat.le_refl _), if_pos (by omega)]
  · rw [if_neg hf, show min (b % 2 ^ n) 64 = b % 2 ^ n by omega, shl_sum n a _ n (Nat.le_refl _), if_neg hf]
    generalize b % 2 ^ n = m at *
    have e : (2 : Nat) ^ n = 2 ^ (n - m) * 2 ^ m := by rw [← Nat.pow_add]; congr 1; omega
    rw [Nat.mod_mul_mod]
    rw [e, Nat.mul_mod_mul_right]
theorem shr_bit (n a m i : Nat) : shBit n a (m : Int) 0 i = bitN (a % 2 ^ n / 2 ^ m) i := by
  unfold shBit bitN
  rw [Nat.div_div_eq_div_mul, ← Nat.pow_add]
  by_cases h : i + m < n
  · rw [if_pos (by omega), if_pos (by omega), show ((i : Int) + (m : Int)).toNat = i + m by omega, Nat.add_comm m i]
    have e : (2 : Nat) ^ n = 2 ^ (i + m) * 2 ^ (n - (i + m)) := by rw [← Nat.pow_add]; congr 1; omega
    have e2 : (2 : Nat) ^ (n - (i + m)) = 2 * 2 ^ (n - (i + m) - 1) := by rw [← Nat.pow_succ']; congr 1; omega
    rw [e, Nat.mod_mul_right_div_self, e2, Nat.mod_mul_right_mod]
  · rw [if_neg (by omega), Nat.div_eq_of_lt]
    have hp := Nat.mod_lt a (Nat.two_pow_pos n)
    exact Nat.lt_of_lt_of_le hp (Nat.pow_le_pow_right (by omega) (by omega))
theorem shr_sum (n a m : Nat) : ∀ i, shSum n a (m : Int) 0 i = a % 2 ^ n / 2 ^ m % 2 ^ i
  | 0 => by simp [shSum, Nat.mod_one]
  | i + 1 => by
    unfold shSum
    rw [shr_sum n a m i, shr_bit, cut_succ]
theorem shr_word (a b : Nat) {n : Nat} (h1 : 1 ≤ n) (h : n ≤ 64) : (if n ≤ b % 2 ^ n then 0 else a % 2 ^ n / 2 ^ (b % 2 ^ n)) = lshrN n a b := by
  unfold lshrN shiftN byN
  rw [shr_sum]
  have hp := Nat.mod_lt a (Nat.two_pow_pos n)
  have hlt : ∀ m, a % 2 ^ n / 2 ^ m < 2 ^ n := fun m => Nat.lt_of_le_of_lt (Nat.div_le_self _ _) hp
  rw [Nat.mod_eq_of_lt (hlt _)]
  by_cases hf : n ≤ b % 2 ^ n
  · rw [if_pos hf, Nat.div_eq_of_lt (Nat.lt_of_lt_of_le hp (Nat.pow_le_pow_right (by omega) (by omega)))]
  · rw [if_neg hf, show min (b % 2 ^ n) 64 = b % 2 ^ n by omega]
/-- The sum with ones for what is shifted in. -/
theorem sar_sum (n a m : Nat) (hm : m ≤ n) : ∀ i, i ≤ n → shSum n a (m : Int) 1 i = a % 2 ^ n / 2 ^ m % 2 ^ i + (if i ≤ n - m then 0 else 2 ^ i - 2 ^ (n - m))
  | 0, _ => by simp [shSum, Nat.mod_one]
  | i + 1, hi => by
    unfold shSum
    rw [sar_sum n a m hm i (by omega)]
    by_cases h : i + m < n
    · have hc : (i : Int) + (m : Int) < (n : Int) := by omega
      have e : shBit n a (m : Int) 1 i = shBit n a (m : Int) 0 i := by
        unfold shBit
        rw [if_pos hc, if_pos hc]
      rw [e, shr_bit, cut_succ, if_pos (by omega), if_pos (by omega)]
      omega
    · have e : shBit n a (m : Int) 1 i = 1 := by unfold shBit; rw [if_neg (by omega)]
      have hp := Nat.mod_lt a (Nat.two_pow_pos n)
      have hx : a % 2 ^ n / 2 ^ m < 2 ^ (n - m) := by
        apply Nat.div_lt_of_lt_mul
        rw [← Nat.pow_add]
        rwa [show m + (n - m) = n by omega]
      have hi1 : (2 : Nat) ^ (n - m) ≤ 2 ^ i := Nat.pow_le_pow_right (by omega) (by omega)
      have hi2 : (2 : Nat) ^ (i + 1) = 2 * 2 ^ i := by rw [Nat.pow_succ]; omega
      generalize a % 2 ^ n / 2 ^ m = q at *
      have hq1 : q < 2 ^ i := Nat.lt_of_lt_of_le hx hi1
      have hq2 : q < 2 ^ (i + 1) := by omega
      rw [e, Nat.mod_eq_of_lt hq1, Nat.mod_eq_of_lt hq2, if_neg (show ¬ i + 1 ≤ n - m by omega)]
      clear e
      by_cases h2 : i ≤ n - m
      · obtain rfl : i = n - m := by omega
        rw [if_pos (Nat.le_refl _), hi2]
        omega
      · rw [if_neg h2, hi2]
        generalize (2 : Nat) ^ i = X at *
        generalize (2 : Nat) ^ (n - m) = Y at *
        omega
theorem sar_word0 (a b : Nat) {n : Nat} (h1 : 1 ≤ n) (h : n ≤ 64) (ht : bitN a (n - 1) = 0) : (if n ≤ b % 2 ^ n then 0 else a % 2 ^ n / 2 ^ (b % 2 ^ n)) = ashrN n a b := by
  unfold ashrN
  rw [ht]
  exact shr_word a b h1 h
theorem sar_word1 (a b : Nat) {n : Nat} (h1 : 1 ≤ n) (h : n ≤ 64) (ht : bitN a (n - 1) = 1) : (if n ≤ b % 2 ^ n then 2 ^ n - 1 else a % 2 ^ n / 2 ^ (b % 2 ^ n) + (2 ^ n - 2 ^ (n - b % 2 ^ n))) = ashrN n a b := by
  unfold ashrN shiftN byN
  rw [ht]
  by_cases hf : n ≤ b % 2 ^ n
  · rw [if_pos hf]
    have hall : ∀ i, i ≤ n → shSum n a ((min (b % 2 ^ n) 64 : Nat) : Int) 1 i = 2 ^ i - 1 := by
      intro i
      induction i with
      | zero => intro _; simp [shSum]
      | succ i ih =>
        intro hi
        unfold shSum
        rw [ih (by omega)]
        have e : shBit n a ((min (b % 2 ^ n) 64 : Nat) : Int) 1 i = 1 := by unfold shBit; rw [if_neg (by omega)]
        have hp := Nat.two_pow_pos i
        rw [e, Nat.pow_succ]
        omega
    rw [hall n (Nat.le_refl _)]
  · rw [if_neg hf, show min (b % 2 ^ n) 64 = b % 2 ^ n by omega]
    generalize b % 2 ^ n = m at *
    have hp := Nat.mod_lt a (Nat.two_pow_pos n)
    rw [sar_sum n a m (by omega) n (Nat.le_refl _), Nat.mod_eq_of_lt (Nat.lt_of_le_of_lt (Nat.div_le_self _ _) hp)]
    by_cases h0 : m = 0
    · subst h0
      rw [if_pos (by omega)]
      simp
    · rw [if_neg (by omega)]
/-- The signed value. -/
theorem sgn_word (a : Nat) {n : Nat} (h1 : 1 ≤ n) : sgnN n a = if bitN a (n - 1) = 1 then ((a % 2 ^ n : Nat) : Int) - ((2 ^ n : Nat) : Int) else ((a % 2 ^ n : Nat) : Int) := by
  unfold sgnN
  have hp := Nat.mod_lt a (Nat.two_pow_pos n)
  split
  · omega
  · rfl
theorem top_bit (a : Nat) {n : Nat} (h1 : 1 ≤ n) : bitN a (n - 1) = if 2 ^ (n - 1) ≤ a % 2 ^ n then 1 else 0 := by
  have e : (2 : Nat) ^ n = 2 ^ (n - 1) * 2 := by rw [← Nat.pow_succ]; congr 1; omega
  unfold bitN
  rw [← Nat.mod_mul_right_div_self, ← e]
  have hp := Nat.mod_lt a (Nat.two_pow_pos n)
  have hq := Nat.two_pow_pos (n - 1)
  by_cases h : 2 ^ (n - 1) ≤ a % 2 ^ n
  · rw [if_pos h]
    apply Nat.div_eq_of_lt_le <;> omega
  · rw [if_neg h, Nat.div_eq_of_lt (by omega)]
end Go.Proofs.Sat
/- Walks of package bits, in the closed forms of the reference of layer 1. -/
namespace Go.Proofs.Sat
open Go Go.RowKit
theorem wrap_nat (x : Nat) : IntKind.u64.wrap (x : Int) = ((x % 18446744073709551616 : Nat) : Int) := by simp [IntKind.wrap, IntKind.bits, IntKind.signed]
theorem wrap_int (x : Int) : IntKind.u64.wrap x = x % 18446744073709551616 := by simp [IntKind.wrap, IntKind.bits, IntKind.signed]
theorem and_nat {a b : Nat} (ha : a < 18446744073709551616) (hb : b < 18446744073709551616) : bits BinOp.and IntKind.u64 (a : Int) (b : Int) = ((a &&& b : Nat) : Int) := (bits_nat .u64 64 (by decide) wraps_u64 a b (by omega) (by omega)).1
theorem or_nat {a b : Nat} (ha : a < 18446744073709551616) (hb : b < 18446744073709551616) : bits BinOp.or IntKind.u64 (a : Int) (b : Int) = ((a ||| b : Nat) : Int) := (bits_nat .u64 64 (by decide) wraps_u64 a b (by omega) (by omega)).2
theorem xor_nat {a b : Nat} (ha : a < 18446744073709551616) (hb : b < 18446744073709551616) : bits BinOp.xor IntKind.u64 (a : Int) (b : Int) = ((a ^^^ b : Nat) : Int) := by
  have h64 : (2 : Nat) ^ IntKind.u64.bits = 18446744073709551616 := by decide
  have ha' : a % 2 ^ IntKind.u64.bits = a := Nat.mod_eq_of_lt (by omega)
  have hb' : b % 2 ^ IntKind.u64.bits = b := Nat.mod_eq_of_lt (by omega)
  have hx : a ^^^ b < 18446744073709551616 := Nat.xor_lt_two_pow (n := 64) (by omega) (by omega)
  simp only [bits, BitVec.ofInt_natCast, BitVec.toNat_xor, BitVec.toNat_ofNat, ha', hb']
  rw [wrap_nat, Nat.mod_eq_of_lt hx]
theorem and_mask (n x : Nat) (h2 : n ≤ 64) (hx : x < 18446744073709551616) {M : Nat} (hM : M = 2 ^ n - 1) : bits BinOp.and IntKind.u64 (x : Int) (M : Int) = ((x % 2 ^ n : Nat) : Int) := by
  have hp := pow_le64 h2
  have hp0 := Nat.two_pow_pos n
  rw [and_nat hx (by omega), hM, Nat.and_two_pow_sub_one_eq_mod]
theorem xor_max {a : Nat} (ha : a < 18446744073709551616) : bits BinOp.xor IntKind.u64 IntKind.u64.max (a : Int) = ((18446744073709551615 - a : Nat) : Int) := by
  have hm : IntKind.u64.max = ((18446744073709551615 : Nat) : Int) := rfl
  rw [hm, xor_nat (by omega) ha]
  congr 1
  apply Nat.eq_of_testBit_eq
  intro i
  have e1 : 18446744073709551615 - a = 2 ^ 64 - (a + 1) := by omega
  have e2 : 18446744073709551615 = 2 ^ 64 - 1 := by decide
  have h2 : a < 2 ^ 64 := by omega
  rw [Nat.testBit_xor, e1, Nat.testBit_two_pow_sub_succ h2, e2, Nat.testBit_two_pow_sub_one]
  by_cases hi : i < 64
  · simp [hi]
  · have : a.testBit i = false := Nat.testBit_lt_two_pow (Nat.lt_of_lt_of_le h2 (Nat.pow_le_pow_right (by omega) (by omega)))
    simp [hi, this]
set_option maxRecDepth 20000 in
theorem bits_Cut (n x : Nat) (w : World) (h1 : 1 ≤ n) (h2 : n ≤ 64) (hx : x < 18446744073709551616) : Calls Tryd.prog 60 #[.int .i64 (n : Int), .int .u64 (x : Int)] w fun e w' => e = .returned (.int .u64 ((x % 2 ^ n : Nat) : Int)) ∧ Drawn w w' := by
  have CM := Lib.hid (bits_Mask (n : Int) w (by omega) (by omega))
  obtain ⟨M, hM⟩ : ∃ M : Nat, M = 2 ^ n - 1 := ⟨_, rfl⟩
  have HM : Hid (maskI (n : Int) = (M : Int)) := by show _ = _; rw [mask_int, hM]
  rw [HM.out] at CM
  have HA := Lib.hid (and_mask n x h2 hx hM)
  clear hx hM
  go_enter Tryd.func60, Tryd.ntmps60
  go_wp2_with fail
  refine CM.out.mono ?_
  rintro e w1 ⟨rfl, d1⟩
  have D1 := Lib.hid d1
  clear d1 CM
  go_wp2_with fail
  go_ret
  exact ⟨ret_int (by rw [HA.out]), D1.out⟩
set_option maxRecDepth 20000 in
theorem bits_Not (n a : Nat) (w : World) (h1 : 1 ≤ n) (h2 : n ≤ 64) (ha : a < 18446744073709551616) : Calls Tryd.prog 67 #[.int .i64 (n : Int), .int .u64 (a : Int)] w fun e w' => e = .returned (.int .u64 ((notN n a : Nat) : Int)) ∧ Drawn w w' := by
  have HA := Lib.hid (xor_max ha)
  have HN := Lib.hid (not_word a h2 ha)
  have CC := Lib.hid (bits_Cut n (18446744073709551615 - a) w h1 h2 (by omega))
  rw [HN.out] at CC
  generalize 18446744073709551615 - a = b at *
  clear ha
  go_enter Tryd.func67, Tryd.ntmps67
  go_wp2_with fail
  rw [HA.out]
  refine CC.out.mono ?_
  rintro e w1 ⟨rfl, d1⟩
  have D1 := Lib.hid d1
  clear d1 CC
  go_wp2_with fail
  go_ret
  exact ⟨rfl, D1.out⟩
set_option maxRecDepth 20000 in
theorem bits_Neg (n a : Nat) (w : World) (h1 : 1 ≤ n) (h2 : n ≤ 64) (ha : a < 18446744073709551616) : Calls Tryd.prog 68 #[.int .i64 (n : Int), .int .u64 (a : Int)] w fun e w' => e = .returned (.int .u64 ((negN n a : Nat) : Int)) ∧ Drawn w w' := by
  obtain ⟨b, hb⟩ : ∃ b, b = (18446744073709551616 - a) % 18446744073709551616 := ⟨_, rfl⟩
  have HA : Hid (IntKind.u64.wrap (-(a : Int)) = (b : Int)) := by show _ = _; rw [wrap_int]; omega
  have HN : Hid (b % 2 ^ n = negN n a) := by show _ = _; rw [hb, cut64 _ h2, neg_word a h2 ha]
  have CC := Lib.hid (bits_Cut n b w h1 h2 (by omega))
  rw [HN.out] at CC
  clear ha hb
  go_enter Tryd.func68, Tryd.ntmps68
  go_wp2_with fail
  rw [HA.out]
  refine CC.out.mono ?_
  rintro e w1 ⟨rfl, d1⟩
  have D1 := Lib.hid d1
  clear d1 CC
  go_wp2_with fail
  go_ret
  exact ⟨rfl, D1.out⟩
set_option maxRecDepth 20000 in
theorem bits_Add (n a b : Nat) (w : World) (h1 : 1 ≤ n) (h2 : n ≤ 64) : Calls Tryd.prog 69 #[.int .i64 (n : Int), .int .u64 (a : Int), .int .u64 (b : Int)] w fun e w' => e = .returned (.int .u64 ((addN n a b : Nat) : Int)) ∧ Drawn w w' := by
  obtain ⟨c, hc⟩ : ∃ c, c = (a + b) % 18446744073709551616 := ⟨_, rfl⟩
  have HA : Hid (IntKind.u64.wrap ((a : Int) + (b : Int)) = (c : Int)) := by show _ = _; rw [wrap_int]; omega
  have HN : Hid (c % 2 ^ n = addN n a b) := by show _ = _; rw [hc, add_word a b h2]
  have CC := Lib.hid (bits_Cut n c w h1 h2 (by omega))
  rw [HN.out] at CC
  clear hc
  go_enter Tryd.func69, Tryd.ntmps69
  go_wp2_with fail
  rw [HA.out]
  refine CC.out.mono ?_
  rintro e w1 ⟨rfl, d1⟩
  have D1 := Lib.hid d1
  clear d1 CC
  go_wp2_with fail
  go_ret
  exact ⟨rfl, D1.out⟩
set_option maxRecDepth 20000 in
theorem bits_Sub (n a b : Nat) (w : World) (h1 : 1 ≤ n) (h2 : n ≤ 64) (hb : b < 18446744073709551616) : Calls Tryd.prog 70 #[.int .i64 (n : Int), .int .u64 (a : Int), .int .u64 (b : Int)] w fun e w' => e = .returned (.int .u64 ((subN n a b : Nat) : Int)) ∧ Drawn w w' := by
  obtain ⟨c, hc⟩ : ∃ c, c = (18446744073709551616 + a - b) % 18446744073709551616 := ⟨_, rfl⟩
  have HA : Hid (IntKind.u64.wrap ((a : Int) - (b : Int)) = (c : Int)) := by show _ = _; rw [wrap_int]; omega
  have HN : Hid (c % 2 ^ n = subN n a b) := by show _ = _; rw [hc, cut64 _ h2, sub_word a b h2 hb]
  have CC := Lib.hid (bits_Cut n c w h1 h2 (by omega))
  rw [HN.out] at CC
  clear hc hb
  go_enter Tryd.func70, Tryd.ntmps70
  go_wp2_with fail
  rw [HA.out]
  refine CC.out.mono ?_
  rintro e w1 ⟨rfl, d1⟩
  have D1 := Lib.hid d1
  clear d1 CC
  go_wp2_with fail
  go_ret
  exact ⟨rfl, D1.out⟩
set_option maxRecDepth 20000 in
theorem bits_Mul (n a b : Nat) (w : World) (h1 : 1 ≤ n) (h2 : n ≤ 64) : Calls Tryd.prog 71 #[.int .i64 (n : Int), .int .u64 (a : Int), .int .u64 (b : Int)] w fun e w' => e = .returned (.int .u64 ((mulN n a b : Nat) : Int)) ∧ Drawn w w' := by
  obtain ⟨c, hc⟩ : ∃ c, c = a * b % 18446744073709551616 := ⟨_, rfl⟩
  have HA : Hid (IntKind.u64.wrap ((a : Int) * (b : Int)) = (c : Int)) := by show _ = _; rw [← Int.natCast_mul, wrap_nat, hc]
  have HN : Hid (c % 2 ^ n = mulN n a b) := by show _ = _; rw [hc, mul_word a b h2]
  have CC := Lib.hid (bits_Cut n c w h1 h2 (by omega))
  rw [HN.out] at CC
  clear hc
  go_enter Tryd.func71, Tryd.ntmps71
  go_wp2_with fail
  rw [HA.out]
  refine CC.out.mono ?_
  rintro e w1 ⟨rfl, d1⟩
  have D1 := Lib.hid d1
  clear d1 CC
  go_wp2_with fail
  go_ret
  exact ⟨rfl, D1.out⟩
/-! ### Signed values -/
theorem bits_clamp (n : Nat) (w : World) (h1 : 1 ≤ n) (h2 : n ≤ 64) : Calls Tryd.prog 31 #[.int .i64 (n : Int)] w fun e w' => e = .returned (.int .i64 (n : Int)) ∧ Drawn w w' := by
  have e1 : max (n : Int) 1 = (n : Int) := by omega
  have e2 : min (n : Int) 64 = (n : Int) := by omega
  go_enter Tryd.func31, Tryd.ntmps31
  go_wp2_with fail
  go_ret
  exact ⟨rfl, Drawn.refl _⟩
theorem i64_wrap (x : Int) : IntKind.i64.wrap x = (x + 9223372036854775808) % 18446744073709551616 - 9223372036854775808 := IntKind.wrap_i64 x
/-- Shifted to the top and back: the signed value. -/
theorem sgn_shift (a : Nat) {n : Nat} (h1 : 1 ≤ n) (h2 : n ≤ 64) : IntKind.i64.wrap (IntKind.u64.wrap ((a : Int) * 2 ^ (64 - n))) / 2 ^ (64 - n) = sgnN n a := by
  obtain ⟨k, hk⟩ : ∃ k, k = 64 - n := ⟨_, rfl⟩
  rw [← hk]
  have hp : (18446744073709551616 : Nat) = 2 ^ n * 2 ^ k := by rw [← Nat.pow_add, show n + k = 64 by omega]
  have hc : ((2 : Int) ^ k) = ((2 ^ k : Nat) : Int) := by simp
  have hkp := Nat.two_pow_pos k
  have hx := Nat.mod_lt a (Nat.two_pow_pos n)
  have hm : a * 2 ^ k % 18446744073709551616 = a % 2 ^ n * 2 ^ k := by rw [hp, Nat.mul_mod_mul_right]
  have e1 : IntKind.u64.wrap ((a : Int) * 2 ^ k) = ((a % 2 ^ n * 2 ^ k : Nat) : Int) := by rw [hc, ← Int.natCast_mul, wrap_nat, hm]
  rw [e1, sgn_word a h1, top_bit a h1, hc, i64_wrap]
  have hn : (2 : Nat) ^ n = 2 ^ (n - 1) * 2 := by rw [← Nat.pow_succ]; congr 1; omega
  have h63 : (9223372036854775808 : Nat) = 2 ^ (n - 1) * 2 ^ k := by rw [← Nat.pow_add, show n - 1 + k = 63 by omega]
  generalize a % 2 ^ n = x at *
  generalize (2 : Nat) ^ k = K at *
  generalize (2 : Nat) ^ (n - 1) = T at *
  generalize (2 : Nat) ^ n = P at *
  have hK : ((K : Nat) : Int) ≠ 0 := by omega
  by_cases ht : T ≤ x
  · rw [if_pos ht, if_pos rfl]
    have g1 : T * K ≤ x * K := Nat.mul_le_mul_right _ ht
    have g2 : x * K < P * K := Nat.mul_lt_mul_of_pos_right hx hkp
    have e2 : (((x * K : Nat) : Int) + 9223372036854775808) % 18446744073709551616 - 9223372036854775808 = ((x : Int) - (P : Int)) * (K : Int) := by
      have h3 : ((x : Int) - (P : Int)) * (K : Int) = ((x * K : Nat) : Int) - ((P * K : Nat) : Int) := by rw [Int.sub_mul, Int.natCast_mul, Int.natCast_mul]
      rw [h3]
      omega
    rw [e2, Int.mul_ediv_cancel _ hK]
  · rw [if_neg ht, if_neg (by decide)]
    have g1 : (x + 1) * K ≤ T * K := Nat.mul_le_mul_right _ (by omega)
    have g3 : x * K + K = (x + 1) * K := by rw [Nat.add_mul, Nat.one_mul]
    have e2 : (((x * K : Nat) : Int) + 9223372036854775808) % 18446744073709551616 - 9223372036854775808 = ((x * K : Nat) : Int) := by omega
    rw [e2, Int.natCast_mul, Int.mul_ediv_cancel _ hK]
set_option maxRecDepth 20000 in
theorem bits_Signed (n a : Nat) (w : World) (h1 : 1 ≤ n) (h2 : n ≤ 64) (ha : a < 18446744073709551616) : Calls Tryd.prog 81 #[.int .i64 (n : Int), .int .u64 (a : Int)] w fun e w' => e = .returned (.int .i64 (sgnN n a)) ∧ Drawn w w' := by
  have HS := Lib.hid (sgn_shift a h1 h2)
  obtain ⟨k, hk⟩ : ∃ k : Nat, k = 64 - n := ⟨_, rfl⟩
  have HK : Hid (IntKind.i64.wrap (64 - (n : Int)) = (k : Int)) := by show _ = _; rw [i64_wrap]; omega
  have hk64 : min k 64 = k := by omega
  rw [← hk] at HS
  have CC := Lib.hid (bits_clamp n w h1 h2)
  clear ha hk
  go_enter Tryd.func81, Tryd.ntmps81
  go_wp2_with fail
  refine CC.out.mono ?_
  rintro e w1 ⟨rfl, d1⟩
  have D1 := Lib.hid d1
  clear d1 CC
  have hk0 : (0 : Int) ≤ (k : Int) := by omega
  have hkk := HK.out
  go_wp2_with fail
  go_ret
  exact ⟨ret_int (by rw [← HS.out, i64_wrap]; simp [wrap64]), D1.out⟩
theorem bits_flag (b : Bool) (w : World) : Calls Tryd.prog 80 #[.bool b] w fun e w' => e = .returned (.int .u64 ((if b = true then 1 else 0 : Nat) : Int)) ∧ Drawn w w' := by
  go_enter Tryd.func80, Tryd.ntmps80
  cases b
  · go_wp2_with fail
    go_ret
    exact ⟨rfl, Drawn.refl _⟩
  · go_wp2_with fail
    go_ret
    exact ⟨rfl, Drawn.refl _⟩
set_option maxRecDepth 20000 in
theorem bits_Slt (n a b : Nat) (w : World) (h1 : 1 ≤ n) (h2 : n ≤ 64) (ha : a < 18446744073709551616) (hb : b < 18446744073709551616) : Calls Tryd.prog 76 #[.int .i64 (n : Int), .int .u64 (a : Int), .int .u64 (b : Int)] w fun e w' => e = .returned (.int .u64 ((sltN n a b : Nat) : Int)) ∧ Drawn w w' := by
  have CA := Lib.hid (bits_Signed n a w h1 h2 ha)
  have CB := Lib.hid (fun W => bits_Signed n b W h1 h2 hb)
  have HE : Hid (sltN n a b = if decide (sgnN n a < sgnN n b) = true then 1 else 0) := by show _ = _; unfold sltN; simp
  generalize sgnN n a = x at *
  generalize sgnN n b = y at *
  have CF := Lib.hid (fun W => bits_flag (decide (x < y)) W)
  clear ha hb
  go_enter Tryd.func76, Tryd.ntmps76
  go_wp2_with fail
  refine CA.out.mono ?_
  rintro e w1 ⟨rfl, d1⟩
  have D1 := Lib.hid d1
  clear d1 CA
  go_wp2_with fail
  refine (CB.out w1).mono ?_
  rintro e w2 ⟨rfl, d2⟩
  have D2 := Lib.hid (D1.out.trans d2)
  clear d2 CB
  by_cases hxy : x < y
  · rw [decide_eq_true hxy] at CF HE
    go_wp2_with fail
    refine (CF.out w2).mono ?_
    rintro e w3 ⟨rfl, d3⟩
    have D3 := Lib.hid (D2.out.trans d3)
    clear d3 CF
    go_wp2_with fail
    go_ret
    exact ⟨ret_int (by rw [HE.out]; simp), D3.out⟩
  · have hd : decide (x < y) = false := decide_eq_false hxy
    rw [hd] at CF HE
    go_wp2_with fail
    refine (CF.out w2).mono ?_
    rintro e w3 ⟨rfl, d3⟩
    have D3 := Lib.hid (D2.out.trans d3)
    clear d3 CF
    go_wp2_with fail
    go_ret
    exact ⟨ret_int (by rw [HE.out]; simp), D3.out⟩
/-! ### Shifts -/
theorem shl_nat (X M n : Nat) (h : n ≤ 64) (hM : M ≤ 64) : (IntKind.u64.wrap ((X : Int) * 2 ^ M) = ((X * 2 ^ M % 18446744073709551616 : Nat) : Int)) := by
  have hc : ((2 : Int) ^ M) = ((2 ^ M : Nat) : Int) := by simp
  rw [hc, ← Int.natCast_mul, wrap_nat]
theorem shr_nat (X M : Nat) (hM : M ≤ 64) : (X : Int) / 2 ^ M = ((X / 2 ^ M : Nat) : Int) := by
  have hc : ((2 : Int) ^ M) = ((2 ^ M : Nat) : Int) := by simp
  rw [hc, ← Int.natCast_ediv]
theorem sar_nat (X M n : Nat) (h1 : 1 ≤ n) (h : n ≤ 64) (hX : X < 2 ^ n) (hM : M < n) : IntKind.u64.wrap (((X : Int) - ((2 ^ n : Nat) : Int)) / 2 ^ M) = ((18446744073709551616 + X / 2 ^ M - 2 ^ (n - M) : Nat) : Int) ∧ (18446744073709551616 + X / 2 ^ M - 2 ^ (n - M)) % 2 ^ n = X / 2 ^ M + (2 ^ n - 2 ^ (n - M)) ∧ 18446744073709551616 + X / 2 ^ M - 2 ^ (n - M) < 18446744073709551616 := by
  have hc : ((2 : Int) ^ M) = ((2 ^ M : Nat) : Int) := by simp
  have hp := pow_le64 h
  have hMp := Nat.two_pow_pos M
  have e : (2 : Nat) ^ n = 2 ^ (n - M) * 2 ^ M := by rw [← Nat.pow_add]; congr 1; omega
  have hq : X / 2 ^ M < 2 ^ (n - M) := by
    apply Nat.div_lt_of_lt_mul
    rw [Nat.mul_comm, ← e]
    exact hX
  have hle : (2 : Nat) ^ (n - M) ≤ 2 ^ n := Nat.pow_le_pow_right (by omega) (by omega)
  have e2 : ((X : Int) - ((2 ^ n : Nat) : Int)) / ((2 ^ M : Nat) : Int) = ((X / 2 ^ M : Nat) : Int) - ((2 ^ (n - M) : Nat) : Int) := by
    have h3 : (X : Int) - ((2 ^ n : Nat) : Int) = (X : Int) + (-((2 ^ (n - M) : Nat) : Int)) * ((2 ^ M : Nat) : Int) := by
      rw [e, Int.natCast_mul, Int.neg_mul]
      omega
    rw [h3, Int.add_mul_ediv_right _ _ (by omega), Int.natCast_ediv]
    omega
  obtain ⟨k, hk⟩ := pow_dvd64 h
  have hk0 : 1 ≤ k := by
    rcases Nat.eq_zero_or_pos k with h0 | h0
    · rw [h0] at hk; omega
    · exact h0
  obtain ⟨k', rfl⟩ : ∃ k', k = k' + 1 := ⟨k - 1, by omega⟩
  have hkk : 2 ^ n * (k' + 1) = 2 ^ n * k' + 2 ^ n := by rw [Nat.mul_add, Nat.mul_one]
  refine ⟨?_, ?_, by omega⟩
  · rw [hc, e2, wrap_int]
    clear e2 hc e
    generalize X / 2 ^ M = q at *
    generalize (2 : Nat) ^ (n - M) = Y at *
    omega
  · have e3 : 18446744073709551616 + X / 2 ^ M - 2 ^ (n - M) = (X / 2 ^ M + (2 ^ n - 2 ^ (n - M))) + 2 ^ n * k' := by
      clear e2 e hc
      generalize X / 2 ^ M = q at *
      generalize (2 : Nat) ^ (n - M) = Y at *
      omega
    rw [e3, Nat.add_mul_mod_self_left, Nat.mod_eq_of_lt (by omega)]
theorem bit_cut (a : Nat) {n : Nat} (h1 : 1 ≤ n) : bitN (a % 2 ^ n) (n - 1) = bitN a (n - 1) := by rw [top_bit _ h1, top_bit a h1, Nat.mod_mod]
theorem sgn_cut (a : Nat) {n : Nat} (h1 : 1 ≤ n) : sgnN n (a % 2 ^ n) = sgnN n a := by rw [sgn_word _ h1, sgn_word a h1, bit_cut a h1, Nat.mod_mod]
set_option maxRecDepth 20000 in
theorem bits_shift0 (n a b : Nat) (w : World) (h1 : 1 ≤ n) (h2 : n ≤ 64) (ha : a < 18446744073709551616) (hb : b < 18446744073709551616) : Calls Tryd.prog 79 #[.int .i64 0, .int .i64 (n : Int), .int .u64 (a : Int), .int .u64 (b : Int)] w fun e w' => e = .returned (.int .u64 ((shlN n a b : Nat) : Int)) ∧ Drawn w w' := by
  have CA := Lib.hid (bits_Cut n a w h1 h2 ha)
  have CB := Lib.hid (fun W => bits_Cut n b W h1 h2 hb)
  have CC := Lib.hid (fun W => bits_clamp n W h1 h2)
  have HE := Lib.hid (shl_word a b h1 h2)
  have hX := Nat.mod_lt a (Nat.two_pow_pos n)
  have hnw : IntKind.u64.wrap (n : Int) = (n : Int) := u64_wrap_id _ (by omega) (by omega)
  clear ha hb hX
  generalize a % 2 ^ n = X at *
  generalize b % 2 ^ n = M at *
  go_enter Tryd.func79, Tryd.ntmps79
  go_wp2_with fail
  refine CA.out.mono ?_
  rintro e w1 ⟨rfl, d1⟩
  have D1 := Lib.hid d1
  clear d1 CA
  go_wp2_with fail
  refine (CB.out w1).mono ?_
  rintro e w2 ⟨rfl, d2⟩
  have D2 := Lib.hid (D1.out.trans d2)
  clear d2 CB
  go_wp2_with fail
  refine (CC.out w2).mono ?_
  rintro e w3 ⟨rfl, d3⟩
  have D3 := Lib.hid (D2.out.trans d3)
  clear d3 CC
  by_cases hf : n ≤ M
  · have hd : decide (n ≤ M) = true := decide_eq_true hf
    rw [if_pos hf] at HE
    clear hf
    go_wp2_with fail
    go_ret
    exact ⟨ret_int (by rw [← HE.out]; rfl), D3.out⟩
  · have hd : decide (n ≤ M) = false := decide_eq_false hf
    rw [if_neg hf] at HE
    have hmn : M < n := by omega
    have HS := Lib.hid (shl_nat X M n h2 (by omega))
    have HN : Hid (X * 2 ^ M % 18446744073709551616 % 2 ^ n = shlN n a b) := by show _ = _; rw [cut64 _ h2, HE.out]
    have HL : Hid (X * 2 ^ M % 18446744073709551616 < 18446744073709551616) := Nat.mod_lt _ (by omega)
    generalize X * 2 ^ M % 18446744073709551616 = c at *
    have CD := Lib.hid (bits_Cut n c w3 h1 h2 HL.out)
    rw [HN.out] at CD
    clear hf
    have hm64 : min M 64 = M := by omega
    go_wp2_with fail
    rw [HS.out]
    refine CD.out.mono ?_
    rintro e w4 ⟨rfl, d4⟩
    have D4 := Lib.hid (D3.out.trans d4)
    clear d4 CD
    go_wp2_with fail
    go_ret
    exact ⟨rfl, D4.out⟩
set_option maxRecDepth 20000 in
theorem bits_shift1 (n a b : Nat) (w : World) (h1 : 1 ≤ n) (h2 : n ≤ 64) (ha : a < 18446744073709551616) (hb : b < 18446744073709551616) : Calls Tryd.prog 79 #[.int .i64 1, .int .i64 (n : Int), .int .u64 (a : Int), .int .u64 (b : Int)] w fun e w' => e = .returned (.int .u64 ((lshrN n a b : Nat) : Int)) ∧ Drawn w w' := by
  have CA := Lib.hid (bits_Cut n a w h1 h2 ha)
  have CB := Lib.hid (fun W => bits_Cut n b W h1 h2 hb)
  have CC := Lib.hid (fun W => bits_clamp n W h1 h2)
  have HE := Lib.hid (shr_word a b h1 h2)
  have hX := Nat.mod_lt a (Nat.two_pow_pos n)
  have hnw : IntKind.u64.wrap (n : Int) = (n : Int) := u64_wrap_id _ (by omega) (by omega)
  clear ha hb hX
  generalize a % 2 ^ n = X at *
  generalize b % 2 ^ n = M at *
  go_enter Tryd.func79, Tryd.ntmps79
  go_wp2_with fail
  refine CA.out.mono ?_
  rintro e w1 ⟨rfl, d1⟩
  have D1 := Lib.hid d1
  clear d1 CA
  go_wp2_with fail
  refine (CB.out w1).mono ?_
  rintro e w2 ⟨rfl, d2⟩
  have D2 := Lib.hid (D1.out.trans d2)
  clear d2 CB
  go_wp2_with fail
  refine (CC.out w2).mono ?_
  rintro e w3 ⟨rfl, d3⟩
  have D3 := Lib.hid (D2.out.trans d3)
  clear d3 CC
  by_cases hf : n ≤ M
  · have hd : decide (n ≤ M) = true := decide_eq_true hf
    rw [if_pos hf] at HE
    clear hf
    go_wp2_with fail
    go_ret
    exact ⟨ret_int (by rw [← HE.out]; rfl), D3.out⟩
  · have hd : decide (n ≤ M) = false := decide_eq_false hf
    rw [if_neg hf] at HE
    have hmn : M < n := by omega
    have HS := Lib.hid (shr_nat X M (by omega))
    generalize X / 2 ^ M = c at *
    clear hf
    have hm64 : min M 64 = M := by omega
    go_wp2_with fail
    go_ret
    exact ⟨ret_int (by rw [← HE.out]; exact HS.out), D3.out⟩
set_option maxRecDepth 20000 in
theorem bits_shift2 (n a b : Nat) (w : World) (h1 : 1 ≤ n) (h2 : n ≤ 64) (ha : a < 18446744073709551616) (hb : b < 18446744073709551616) : Calls Tryd.prog 79 #[.int .i64 2, .int .i64 (n : Int), .int .u64 (a : Int), .int .u64 (b : Int)] w fun e w' => e = .returned (.int .u64 ((ashrN n a b : Nat) : Int)) ∧ Drawn w w' := by
  have CA := Lib.hid (bits_Cut n a w h1 h2 ha)
  have CB := Lib.hid (fun W => bits_Cut n b W h1 h2 hb)
  have CC := Lib.hid (fun W => bits_clamp n W h1 h2)
  have HE0 := Lib.hid (fun ht => sar_word0 a b h1 h2 ht)
  have HE1 := Lib.hid (fun ht => sar_word1 a b h1 h2 ht)
  have HSG := Lib.hid (sgn_word a h1)
  have CG := Lib.hid (fun W => bits_Signed n (a % 2 ^ n) W h1 h2 (mod_u64 a h2))
  rw [sgn_cut a h1] at CG
  have CM := Lib.hid (fun W => bits_Mask (n : Int) W (by omega) (by omega))
  rw [mask_int n] at CM
  have HBI := Lib.hid (bitN_le a (n - 1))
  have hX := Nat.mod_lt a (Nat.two_pow_pos n)
  have hnw : IntKind.u64.wrap (n : Int) = (n : Int) := u64_wrap_id _ (by omega) (by omega)
  have HX := Lib.hid hX
  clear ha hb hX
  generalize a % 2 ^ n = X at *
  generalize b % 2 ^ n = M at *
  generalize sgnN n a = sg at *
  generalize bitN a (n - 1) = tb at *
  go_enter Tryd.func79, Tryd.ntmps79
  go_wp2_with fail
  refine CA.out.mono ?_
  rintro e w1 ⟨rfl, d1⟩
  have D1 := Lib.hid d1
  clear d1 CA
  go_wp2_with fail
  refine (CB.out w1).mono ?_
  rintro e w2 ⟨rfl, d2⟩
  have D2 := Lib.hid (D1.out.trans d2)
  clear d2 CB
  go_wp2_with fail
  refine (CC.out w2).mono ?_
  rintro e w3 ⟨rfl, d3⟩
  have D3 := Lib.hid (D2.out.trans d3)
  clear d3 CC
  have hp := Nat.two_pow_pos n
  by_cases ht : tb = 1
  · have HN : Hid (sg = (X : Int) - ((2 ^ n : Nat) : Int)) := by show _ = _; rw [HSG.out, if_pos ht]
    have hneg : sg < 0 := by rw [HN.out]; have := HX.out; omega
    have HE := Lib.hid (HE1.out ht)
    clear HE0 HE1 HSG ht hp
    by_cases hf : n ≤ M
    · have hd : decide (n ≤ M) = true := decide_eq_true hf
      rw [if_pos hf] at HE
      generalize 2 ^ n - 1 = mk at *
      clear hf
      go_wp2_with fail
      refine (CG.out w3).mono ?_
      rintro e w4 ⟨rfl, d4⟩
      have D4 := Lib.hid (D3.out.trans d4)
      clear d4 CG
      go_wp2_with fail
      refine (CM.out w4).mono ?_
      rintro e w5 ⟨rfl, d5⟩
      have D5 := Lib.hid (D4.out.trans d5)
      clear d5 CM
      go_wp2_with fail
      go_ret
      exact ⟨ret_int (by rw [← HE.out]), D5.out⟩
    · have hd : decide (n ≤ M) = false := decide_eq_false hf
      rw [if_neg hf] at HE
      have hmn : M < n := by omega
      have HS := Lib.hid (sar_nat X M n h1 h2 HX.out hmn)
      rw [← HN.out] at HS
      have hm64 : min M 64 = M := by omega
      obtain ⟨c, hc⟩ : ∃ c, c = 18446744073709551616 + X / 2 ^ M - 2 ^ (n - M) := ⟨_, rfl⟩
      rw [← hc] at HS
      have CD := Lib.hid (fun W => bits_Cut n c W h1 h2 HS.out.2.2)
      have HQ : Hid (c % 2 ^ n = ashrN n a b) := by show _ = _; rw [HS.out.2.1, HE.out]
      rw [HQ.out] at CD
      clear hf hc
      go_wp2_with fail
      refine (CG.out w3).mono ?_
      rintro e w4 ⟨rfl, d4⟩
      have D4 := Lib.hid (D3.out.trans d4)
      clear d4
      go_wp2_with fail
      refine (CG.out w4).mono ?_
      rintro e w5 ⟨rfl, d5⟩
      have D5 := Lib.hid (D4.out.trans d5)
      clear d5
      go_wp2_with fail
      rw [HS.out.1]
      refine (CD.out w5).mono ?_
      rintro e w6 ⟨rfl, d6⟩
      have D6 := Lib.hid (D5.out.trans d6)
      clear d6
      go_wp2_with fail
      go_ret
      exact ⟨rfl, D6.out⟩
  · have HN : Hid (sg = (X : Int)) := by show _ = _; rw [HSG.out, if_neg ht]
    have hneg : ¬ sg < 0 := by rw [HN.out]; omega
    have HE := Lib.hid (HE0.out (by have := HBI.out; omega))
    clear HE0 HE1 HSG ht hp
    by_cases hf : n ≤ M
    · have hd : decide (n ≤ M) = true := decide_eq_true hf
      rw [if_pos hf] at HE
      clear hf
      go_wp2_with fail
      refine (CG.out w3).mono ?_
      rintro e w4 ⟨rfl, d4⟩
      have D4 := Lib.hid (D3.out.trans d4)
      clear d4 CG
      go_wp2_with fail
      go_ret
      exact ⟨ret_int (by rw [← HE.out]; rfl), D4.out⟩
    · have hd : decide (n ≤ M) = false := decide_eq_false hf
      rw [if_neg hf] at HE
      have hmn : M < n := by omega
      have HS := Lib.hid (shr_nat X M (by omega))
      generalize X / 2 ^ M = c at *
      clear hf
      have hm64 : min M 64 = M := by omega
      go_wp2_with fail
      refine (CG.out w3).mono ?_
      rintro e w4 ⟨rfl, d4⟩
      have D4 := Lib.hid (D3.out.trans d4)
      clear d4 CG
      go_wp2_with fail
      go_ret
      exact ⟨ret_int (by rw [← HE.out]; exact HS.out), D4.out⟩
set_option maxRecDepth 20000 in
theorem bits_Shl (n a b : Nat) (w : World) (h1 : 1 ≤ n) (h2 : n ≤ 64) (ha : a < 18446744073709551616) (hb : b < 18446744073709551616) : Calls Tryd.prog 72 #[.int .i64 (n : Int), .int .u64 (a : Int), .int .u64 (b : Int)] w fun e w' => e = .returned (.int .u64 ((shlN n a b : Nat) : Int)) ∧ Drawn w w' := by
  have CA := Lib.hid (bits_shift0 n a b w h1 h2 ha hb)
  clear ha hb
  generalize shlN n a b = c at *
  go_enter Tryd.func72, Tryd.ntmps72
  go_wp2_with fail
  refine CA.out.mono ?_
  rintro e w1 ⟨rfl, d1⟩
  have D1 := Lib.hid d1
  clear d1
  go_wp2_with fail
  go_ret
  exact ⟨rfl, D1.out⟩
set_option maxRecDepth 20000 in
theorem bits_Lshr (n a b : Nat) (w : World) (h1 : 1 ≤ n) (h2 : n ≤ 64) (ha : a < 18446744073709551616) (hb : b < 18446744073709551616) : Calls Tryd.prog 73 #[.int .i64 (n : Int), .int .u64 (a : Int), .int .u64 (b : Int)] w fun e w' => e = .returned (.int .u64 ((lshrN n a b : Nat) : Int)) ∧ Drawn w w' := by
  have CA := Lib.hid (bits_shift1 n a b w h1 h2 ha hb)
  clear ha hb
  generalize lshrN n a b = c at *
  go_enter Tryd.func73, Tryd.ntmps73
  go_wp2_with fail
  refine CA.out.mono ?_
  rintro e w1 ⟨rfl, d1⟩
  have D1 := Lib.hid d1
  clear d1
  go_wp2_with fail
  go_ret
  exact ⟨rfl, D1.out⟩
set_option maxRecDepth 20000 in
theorem bits_Ashr (n a b : Nat) (w : World) (h1 : 1 ≤ n) (h2 : n ≤ 64) (ha : a < 18446744073709551616) (hb : b < 18446744073709551616) : Calls Tryd.prog 74 #[.int .i64 (n : Int), .int .u64 (a : Int), .int .u64 (b : Int)] w fun e w' => e = .returned (.int .u64 ((ashrN n a b : Nat) : Int)) ∧ Drawn w w' := by
  have CA := Lib.hid (bits_shift2 n a b w h1 h2 ha hb)
  clear ha hb
  generalize ashrN n a b = c at *
  go_enter Tryd.func74, Tryd.ntmps74
  go_wp2_with fail
  refine CA.out.mono ?_
  rintro e w1 ⟨rfl, d1⟩
  have D1 := Lib.hid d1
  clear d1
  go_wp2_with fail
  go_ret
  exact ⟨rfl, D1.out⟩
end Go.Proofs.Sat
