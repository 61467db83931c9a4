/- RaA, RaB, RaC, RaD, RaE, one after the other. -/
import Derived.Test.YtkomfeeimdlokaaGreatDoorIsaC
import Derived.Laws.BitsLemmas
import Derived.Lib.EndianBits
import Derived.WalkSmall
set_option linter.unusedVariables false
set_option linter.unusedSimpArgs false
/- Walks of the reference of layer 1 (bits). -/
namespace Go.Proofs.Sat
open Go Go.RowKit
def bitN (x i : Nat) : Nat := x / 2 ^ i % 2
theorem bitN_le (x i : Nat) : bitN x i ≤ 1 := by unfold bitN; omega
theorem pow_le63 {i : Nat} (hi : i ≤ 63) : 2 ^ i ≤ 9223372036854775808 := by
  have : (2 : Nat) ^ i ≤ 2 ^ 63 := Nat.pow_le_pow_right (by omega) hi
  simpa using this
theorem pow_le64 {i : Nat} (hi : i ≤ 64) : 2 ^ i ≤ 18446744073709551616 := by
  have : (2 : Nat) ^ i ≤ 2 ^ 64 := Nat.pow_le_pow_right (by omega) hi
  simpa using this
theorem bit_and (x i : Nat) (hx : x < 18446744073709551616) : bits BinOp.and IntKind.u64 ((x : Int) / 2 ^ i) 1 = ((bitN x i : Nat) : Int) := by
  have e : (x : Int) / 2 ^ i = ((x / 2 ^ i : Nat) : Int) := by simp
  have h : x / 2 ^ i ≤ x := Nat.div_le_self _ _
  unfold bitN
  rw [e]
  generalize x / 2 ^ i = q at *
  rw [and_one_u64 _ (by omega) (by omega)]
  omega
set_option maxRecDepth 20000 in
theorem ref01_Bit (x i : Nat) (w : World) (hx : x < 18446744073709551616) (hi : i ≤ 63) : Calls Tryz.prog 75 #[.int .u64 (x : Int), .int .i64 (i : Int)] w fun e w' => e = .returned (.int .u64 ((bitN x i : Nat) : Int)) ∧ Drawn w w' := by
  have HB := Lib.hid (bit_and x i hx)
  go_enter Tryz.func75, Tryz.ntmps75
  have h1 : ¬ ((i : Int) < 0) := by omega
  have h2 : ¬ ((63 : Int) < i) := by omega
  go_wp2
  go_ret
  exact ⟨ret_int HB.out, Drawn.refl _⟩
set_option maxRecDepth 20000 in
theorem ref01_W (n : Nat) (w : World) (h1 : 1 ≤ n) (h2 : n ≤ 64) : Calls Tryz.prog 74 #[.int .i64 (n : Int)] w fun e w' => e = .returned (.int .i64 (n : Int)) ∧ Drawn w w' := by
  go_enter Tryz.func74, Tryz.ntmps74
  go_wp2
  go_ret
  exact ⟨ret_int (by omega), Drawn.refl _⟩
theorem top_nat {b i : Nat} (hb : b ≤ 1) (hi : i ≤ 63) : b * 2 ^ i ≤ 9223372036854775808 := by
  have hp := pow_le63 hi
  rcases (show b = 0 ∨ b = 1 by omega) with rfl | rfl <;> omega
theorem top_int (b i : Nat) : (b : Int) * 2 ^ i = ((b * 2 ^ i : Nat) : Int) := by simp
theorem wrap_top {b i : Nat} (hb : b ≤ 1) (hi : i ≤ 63) : IntKind.u64.wrap ((b : Int) * 2 ^ i) = (b : Int) * 2 ^ i := by
  have h := top_nat hb hi
  rw [top_int]
  exact u64_wrap_id _ (by omega) (by omega)
/-- Joining a bit on top. -/
theorem or_top {y b i z : Nat} (hy : y < 2 ^ i) (hb : b ≤ 1) (hi : i ≤ 63) (hz : z = y + b * 2 ^ i) : bits BinOp.or IntKind.u64 (y : Int) ((b : Int) * 2 ^ i) = (z : Int) := by
  have hp := pow_le63 hi
  have h2 := top_nat hb hi
  have hyi : (y : Int) < 2 ^ i := by
    have h : ((y : Nat) : Int) < ((2 ^ i : Nat) : Int) := Int.ofNat_lt.2 hy
    simpa using h
  have h64 : (2 : Int) ^ 64 = 18446744073709551616 := by decide
  have hm : ((b * 2 ^ i : Nat) : Int) % 2 ^ i = 0 := by rw [← top_int]; exact Int.mul_emod_left _ _
  rw [top_int, bits_join_low .u64 64 (by decide) wraps_u64 i (y : Int) ((b * 2 ^ i : Nat) : Int) (by omega) hyi (by omega) (by omega) hm (by omega), hz]
  omega
theorem cut_succ (x i : Nat) : x % 2 ^ (i + 1) = x % 2 ^ i + bitN x i * 2 ^ i := by
  unfold bitN
  rw [Nat.pow_succ, Nat.mod_mul, Nat.mul_comm (2 ^ i)]
set_option maxRecDepth 20000 in
theorem ref01_Cut (n x : Nat) (w : World) (h1 : 1 ≤ n) (h2 : n ≤ 64) (hx : x < 18446744073709551616) : Calls Tryz.prog 48 #[.int .i64 (n : Int), .int .u64 (x : Int)] w fun e w' => e = .returned (.int .u64 ((x % 2 ^ n : Nat) : Int)) ∧ Drawn w w' := by
  have HX := Lib.hid hx
  clear hx
  go_enter Tryz.func48, Tryz.ntmps48
  go_wp2_with fail
  refine (ref01_W n w h1 h2).mono ?_
  rintro e w1 ⟨rfl, d1⟩
  have D1 := Lib.hid d1
  clear d1
  go_wp2_with fail
  go_loopw [5, 9] (fun y i wr => ∃ k : Nat, k ≤ n ∧ i = .int .i64 k ∧ (∃ Y : Nat, y = .int .u64 (Y : Int) ∧ Hid (Y = x % 2 ^ k)) ∧ Hid (Drawn w wr)) (fun _ i _ => n - (intOf i).toNat)
  case atStart => exact ⟨0, by omega, rfl, ⟨0, rfl, by show _ = _; rw [Nat.pow_zero, Nat.mod_one]⟩, D1.out⟩
  case round =>
    obtain ⟨k, hk, rfl, ⟨Y, rfl, HY⟩, HD⟩ := hrel
    by_cases hlt : k < n
    · have hk63 : k ≤ 63 := by omega
      have hkl : (k : Int) < (n : Int) := by omega
      go_wp2_with fail
      refine (ref01_Bit x k wr HX.out hk63).mono ?_
      rintro e w2 ⟨rfl, d2⟩
      have D2 := Lib.hid (HD.out.trans d2)
      clear d2
      have hb := bitN_le x k
      have hY : Y < 2 ^ k := by rw [HY.out]; exact Nat.mod_lt _ (Nat.two_pow_pos k)
      obtain ⟨Z, hZ⟩ : ∃ Z, Z = Y + bitN x k * 2 ^ k := ⟨_, rfl⟩
      have HZ : Hid (Z = x % 2 ^ (k + 1)) := by show _ = _; rw [hZ, HY.out, cut_succ]
      generalize bitN x k = b at *
      have hw := wrap_top hb hk63
      have hor := or_top hY hb hk63 hZ
      clear hZ hY
      go_wp2_with fail
      go_roundw
      case rel => exact ⟨k + 1, by omega, by go_num, ⟨Z, rfl, HZ.out⟩, D2.out⟩
      case measure => simp [intOf]; omega
    · obtain rfl : k = n := by omega
      go_wp2_with fail
      go_ret
      exact ⟨ret_int (by rw [HY.out]), HD.out⟩
end Go.Proofs.Sat
/- Walks of the reference of layer 1: Not, And, Or, Xor, Add, Neg, Sub. -/
namespace Go.Proofs.Sat
open Go Go.RowKit
def notN (n a : Nat) : Nat := 2 ^ n - 1 - a % 2 ^ n
def andN (n a b : Nat) : Nat := (a &&& b) % 2 ^ n
def orN (n a b : Nat) : Nat := notN n (andN n (notN n a) (notN n b))
def xorN (n a b : Nat) : Nat := orN n a b - andN n a b
def addN (n a b : Nat) : Nat := (a + b) % 2 ^ n
def negN (n a : Nat) : Nat := addN n (notN n a) 1
def subN (n a b : Nat) : Nat := addN n a (negN n b)
theorem mod_u64 (x : Nat) {n : Nat} (h : n ≤ 64) : x % 2 ^ n < 18446744073709551616 := Nat.lt_of_lt_of_le (Nat.mod_lt _ (Nat.two_pow_pos n)) (pow_le64 h)
theorem notN_lt (a : Nat) {n : Nat} (h : n ≤ 64) : notN n a < 18446744073709551616 := by unfold notN; have := pow_le64 h; have := Nat.two_pow_pos n; omega
theorem andN_lt (a b : Nat) {n : Nat} (h : n ≤ 64) : andN n a b < 18446744073709551616 := mod_u64 _ h
theorem orN_lt (a b : Nat) {n : Nat} (h : n ≤ 64) : orN n a b < 18446744073709551616 := notN_lt _ h
theorem addN_lt (a b : Nat) {n : Nat} (h : n ≤ 64) : addN n a b < 18446744073709551616 := mod_u64 _ h
theorem bitN_and (a b k : Nat) : bitN (a &&& b) k = if bitN a k = 1 ∧ bitN b k = 1 then 1 else 0 := by
  have h := Nat.testBit_and a b k
  rw [Nat.testBit_eq_decide_div_mod_eq, Nat.testBit_eq_decide_div_mod_eq, Nat.testBit_eq_decide_div_mod_eq] at h
  have h1 := bitN_le (a &&& b) k
  unfold bitN at *
  by_cases ha : a / 2 ^ k % 2 = 1 <;> by_cases hb : b / 2 ^ k % 2 = 1 <;> simp [ha, hb] at h ⊢ <;> omega
theorem notN_bit (n a i : Nat) : (notN n a).testBit i = (decide (i < n) && !a.testBit i) := by
  have hl : a % 2 ^ n < 2 ^ n := Nat.mod_lt _ (Nat.two_pow_pos n)
  have e : notN n a = 2 ^ n - (a % 2 ^ n + 1) := by unfold notN; omega
  rw [e, Nat.testBit_two_pow_sub_succ hl, Nat.testBit_mod_two_pow]
  cases decide (i < n) <;> simp
theorem orN_eq (n a b : Nat) : orN n a b = (a ||| b) % 2 ^ n := by
  apply Nat.eq_of_testBit_eq
  intro i
  unfold orN andN
  rw [notN_bit, Nat.testBit_mod_two_pow, Nat.testBit_mod_two_pow, Nat.testBit_and, notN_bit, notN_bit, Nat.testBit_or]
  cases decide (i < n) <;> cases a.testBit i <;> cases b.testBit i <;> rfl
theorem and_le_or (n a b : Nat) : andN n a b ≤ orN n a b := by
  rw [orN_eq]
  unfold andN
  rw [Nat.and_mod_two_pow, Nat.or_mod_two_pow]
  exact Nat.le_trans Nat.and_le_left Nat.left_le_or
set_option maxRecDepth 20000 in
theorem ref01_Not (n a : Nat) (w : World) (h1 : 1 ≤ n) (h2 : n ≤ 64) (ha : a < 18446744073709551616) : Calls Tryz.prog 128 #[.int .i64 (n : Int), .int .u64 (a : Int)] w fun e w' => e = .returned (.int .u64 ((notN n a : Nat) : Int)) ∧ Drawn w w' := by
  have HA := Lib.hid ha
  clear ha
  go_enter Tryz.func128, Tryz.ntmps128
  go_wp2_with fail
  refine (ref01_Mask (n : Int) w (by omega) (by omega)).mono ?_
  rintro e w1 ⟨rfl, d1⟩
  have hM : maskI (n : Int) = ((2 ^ n - 1 : Nat) : Int) := by
    unfold maskI
    rw [Int.toNat_natCast]
    have := Nat.two_pow_pos n
    rw [Int.ofNat_sub this]
    simp
  rw [hM]
  have D1 := Lib.hid d1
  clear d1 hM
  have HL : Hid (a % 2 ^ n ≤ 2 ^ n - 1 ∧ 2 ^ n - 1 ≤ 18446744073709551615) := by show _ ∧ _; have := Nat.mod_lt a (Nat.two_pow_pos n); have := pow_le64 h2; omega
  have HN : Hid (notN n a = (2 ^ n - 1) - a % 2 ^ n) := rfl
  have CC := Lib.hid (ref01_Cut n a w1 h1 h2 HA.out)
  generalize 2 ^ n - 1 = M at *
  go_wp2_with fail
  refine CC.out.mono ?_
  rintro e w2 ⟨rfl, d2⟩
  have D2 := Lib.hid (D1.out.trans d2)
  clear d2 CC
  generalize a % 2 ^ n = c at *
  obtain ⟨hl1, hl2⟩ := HL.out
  generalize hzz : notN n a = z at *
  have HZE := Lib.hid hzz
  clear hzz
  have hz : z = M - c := HN.out
  have hs : IntKind.u64.wrap ((M : Int) - (c : Int)) = (z : Int) := by rw [u64_wrap_id _ (by omega) (by omega)]; omega
  clear hz
  go_wp2_with fail
  go_ret
  exact ⟨ret_int (by rw [HZE.out]), D2.out⟩
set_option maxRecDepth 20000 in
theorem ref01_And (n a b : Nat) (w : World) (h1 : 1 ≤ n) (h2 : n ≤ 64) (ha : a < 18446744073709551616) (hb : b < 18446744073709551616) : Calls Tryz.prog 130 #[.int .i64 (n : Int), .int .u64 (a : Int), .int .u64 (b : Int)] w fun e w' => e = .returned (.int .u64 ((andN n a b : Nat) : Int)) ∧ Drawn w w' := by
  have HA := Lib.hid ha
  have HB := Lib.hid hb
  clear ha hb
  go_enter Tryz.func130, Tryz.ntmps130
  go_wp2_with fail
  refine (ref01_W n w h1 h2).mono ?_
  rintro e w1 ⟨rfl, d1⟩
  have D1 := Lib.hid d1
  clear d1
  go_wp2_with fail
  go_loopw [7, 11] (fun y i wr => ∃ k : Nat, k ≤ n ∧ i = .int .i64 k ∧ (∃ Y : Nat, y = .int .u64 (Y : Int) ∧ Hid (Y = (a &&& b) % 2 ^ k)) ∧ Hid (Drawn w wr)) (fun _ i _ => n - (intOf i).toNat)
  case atStart => exact ⟨0, by omega, rfl, ⟨0, rfl, by show _ = _; rw [Nat.pow_zero, Nat.mod_one]⟩, D1.out⟩
  case round =>
    obtain ⟨k, hk, rfl, ⟨Y, rfl, HY⟩, HD⟩ := hrel
    by_cases hlt : k < n
    · have hk63 : k ≤ 63 := by omega
      have hkl : (k : Int) < (n : Int) := by omega
      have HS := Lib.hid (cut_succ (a &&& b) k)
      have HBT := Lib.hid (bitN_and a b k)
      have hY : Y < 2 ^ k := by rw [HY.out]; exact Nat.mod_lt _ (Nat.two_pow_pos k)
      go_wp2_with fail
      refine (ref01_Bit a k wr HA.out hk63).mono ?_
      rintro e w2 ⟨rfl, d2⟩
      have D2 := Lib.hid (HD.out.trans d2)
      clear d2
      by_cases hba : bitN a k = 1
      · rw [hba]
        go_wp2_with fail
        refine (ref01_Bit b k w2 HB.out hk63).mono ?_
        rintro e w3 ⟨rfl, d3⟩
        have D3 := Lib.hid (D2.out.trans d3)
        clear d3
        by_cases hbb : bitN b k = 1
        · rw [hbb]
          obtain ⟨Z, hZ⟩ : ∃ Z, Z = Y + 1 * 2 ^ k := ⟨_, rfl⟩
          have HZ : Hid (Z = (a &&& b) % 2 ^ (k + 1)) := by show _ = _; rw [hZ, HY.out, HS.out, HBT.out, if_pos ⟨hba, hbb⟩]
          have hw := wrap_top (b := 1) (Nat.le_refl 1) hk63
          have hor := or_top hY (Nat.le_refl 1) hk63 hZ
          rw [show ((1 : Nat) : Int) * 2 ^ k = 2 ^ k from by simp] at hw hor
          clear hZ hY hba hbb
          go_wp2_with fail
          go_roundw
          case rel => exact ⟨k + 1, by omega, by go_num, ⟨Z, rfl, HZ.out⟩, D3.out⟩
          case measure => simp [intOf]; omega
        · have HZ : Hid (Y = (a &&& b) % 2 ^ (k + 1)) := by show _ = _; rw [HY.out, HS.out, HBT.out, if_neg (fun h => hbb h.2)]; simp
          have hb0 : bitN b k = 0 := by have := bitN_le b k; omega
          rw [hb0]
          clear hY hba hbb hb0
          go_wp2_with fail
          go_roundw
          case rel => exact ⟨k + 1, by omega, by go_num, ⟨Y, rfl, HZ.out⟩, D3.out⟩
          case measure => simp [intOf]; omega
      · have HZ : Hid (Y = (a &&& b) % 2 ^ (k + 1)) := by show _ = _; rw [HY.out, HS.out, HBT.out, if_neg (fun h => hba h.1)]; simp
        have hb0 : bitN a k = 0 := by have := bitN_le a k; omega
        rw [hb0]
        clear hY hba hb0
        go_wp2_with fail
        go_roundw
        case rel => exact ⟨k + 1, by omega, by go_num, ⟨Y, rfl, HZ.out⟩, D2.out⟩
        case measure => simp [intOf]; omega
    · obtain rfl : k = n := by omega
      go_wp2_with fail
      go_ret
      exact ⟨ret_int (by rw [HY.out]; rfl), HD.out⟩
set_option maxRecDepth 20000 in
theorem ref01_Or (n a b : Nat) (w : World) (h1 : 1 ≤ n) (h2 : n ≤ 64) (ha : a < 18446744073709551616) (hb : b < 18446744073709551616) : Calls Tryz.prog 131 #[.int .i64 (n : Int), .int .u64 (a : Int), .int .u64 (b : Int)] w fun e w' => e = .returned (.int .u64 ((orN n a b : Nat) : Int)) ∧ Drawn w w' := by
  have HO : Hid (orN n a b = notN n (andN n (notN n a) (notN n b))) := rfl
  have HA := Lib.hid ha
  have HB := Lib.hid hb
  have HN1 := Lib.hid (notN_lt a h2)
  have HN2 := Lib.hid (notN_lt b h2)
  have HN3 := Lib.hid (andN_lt (notN n a) (notN n b) h2)
  clear ha hb
  go_enter Tryz.func131, Tryz.ntmps131
  go_wp2_with fail
  refine (ref01_Not n a w h1 h2 HA.out).mono ?_
  rintro e w1 ⟨rfl, d1⟩
  have D1 := Lib.hid d1
  go_wp2_with fail
  refine (ref01_Not n b w1 h1 h2 HB.out).mono ?_
  rintro e w2 ⟨rfl, d2⟩
  have D2 := Lib.hid (D1.out.trans d2)
  go_wp2_with fail
  refine (ref01_And n (notN n a) (notN n b) w2 h1 h2 HN1.out HN2.out).mono ?_
  rintro e w3 ⟨rfl, d3⟩
  have D3 := Lib.hid (D2.out.trans d3)
  go_wp2_with fail
  refine (ref01_Not n _ w3 h1 h2 HN3.out).mono ?_
  rintro e w4 ⟨rfl, d4⟩
  have D4 := Lib.hid (D3.out.trans d4)
  go_wp2_with fail
  go_ret
  exact ⟨ret_int (by rw [HO.out]), D4.out⟩
set_option maxRecDepth 20000 in
theorem ref01_Xor (n a b : Nat) (w : World) (h1 : 1 ≤ n) (h2 : n ≤ 64) (ha : a < 18446744073709551616) (hb : b < 18446744073709551616) : Calls Tryz.prog 132 #[.int .i64 (n : Int), .int .u64 (a : Int), .int .u64 (b : Int)] w fun e w' => e = .returned (.int .u64 ((xorN n a b : Nat) : Int)) ∧ Drawn w w' := by
  have HO : Hid (xorN n a b = orN n a b - andN n a b) := rfl
  have HA := Lib.hid ha
  have HB := Lib.hid hb
  have HL := Lib.hid (and_le_or n a b)
  have HN1 := Lib.hid (orN_lt a b h2)
  clear ha hb
  go_enter Tryz.func132, Tryz.ntmps132
  go_wp2_with fail
  refine (ref01_Or n a b w h1 h2 HA.out HB.out).mono ?_
  rintro e w1 ⟨rfl, d1⟩
  have D1 := Lib.hid d1
  go_wp2_with fail
  refine (ref01_And n a b w1 h1 h2 HA.out HB.out).mono ?_
  rintro e w2 ⟨rfl, d2⟩
  have D2 := Lib.hid (D1.out.trans d2)
  clear d1 d2
  generalize hzz : xorN n a b = z at *
  have HZE := Lib.hid hzz
  clear hzz
  generalize orN n a b = p at *
  generalize andN n a b = q at *
  have hs : IntKind.u64.wrap ((p : Int) - (q : Int)) = (z : Int) := by
    have h3 := HL.out
    have h4 := HN1.out
    have h5 := HO.out
    rw [u64_wrap_id _ (by omega) (by omega)]
    omega
  go_wp2_with fail
  go_ret
  exact ⟨ret_int (by rw [HZE.out]), D2.out⟩
theorem add_end (n a b : Nat) : (a % 2 ^ n + b % 2 ^ n) % 2 ^ n = addN n a b := by unfold addN; rw [← Nat.add_mod]
set_option maxRecDepth 20000 in
theorem ref01_Add (n a b : Nat) (w : World) (h1 : 1 ≤ n) (h2 : n ≤ 64) (ha : a < 18446744073709551616) (hb : b < 18446744073709551616) : Calls Tryz.prog 133 #[.int .i64 (n : Int), .int .u64 (a : Int), .int .u64 (b : Int)] w fun e w' => e = .returned (.int .u64 ((addN n a b : Nat) : Int)) ∧ Drawn w w' := by
  have HA := Lib.hid ha
  have HB := Lib.hid hb
  clear ha hb
  go_enter Tryz.func133, Tryz.ntmps133
  go_wp2_with fail
  refine (ref01_W n w h1 h2).mono ?_
  rintro e w1 ⟨rfl, d1⟩
  have D1 := Lib.hid d1
  clear d1
  go_wp2_with fail
  go_loopw [7, 8, 13] (fun y c i wr => ∃ k : Nat, k ≤ n ∧ i = .int .i64 k ∧ (∃ Y C : Nat, y = .int .u64 (Y : Int) ∧ c = .int .u64 (C : Int) ∧ Hid (Y < 2 ^ k ∧ C ≤ 1 ∧ Y + C * 2 ^ k = a % 2 ^ k + b % 2 ^ k)) ∧ Hid (Drawn w wr)) (fun _ _ i _ => n - (intOf i).toNat)
  case atStart => exact ⟨0, by omega, rfl, ⟨0, 0, rfl, rfl, by show _ ∧ _; simp [Nat.mod_one]⟩, D1.out⟩
  case round =>
    obtain ⟨k, hk, rfl, ⟨Y, C, rfl, rfl, HY⟩, HD⟩ := hrel
    by_cases hlt : k < n
    · have hk63 : k ≤ 63 := by omega
      have hkl : (k : Int) < (n : Int) := by omega
      have HSA := Lib.hid (cut_succ a k)
      have HSB := Lib.hid (cut_succ b k)
      have hba := bitN_le a k
      have hbb := bitN_le b k
      have CA := Lib.hid (ref01_Bit a k wr HA.out hk63)
      have CB := Lib.hid (fun W => ref01_Bit b k W HB.out hk63)
      generalize bitN a k = p at *
      generalize bitN b k = q at *
      obtain ⟨hY, hC, HE'⟩ := HY.out
      have HE := Lib.hid HE'
      clear HE'
      obtain ⟨t, htd⟩ : ∃ t, t = p + q := ⟨_, rfl⟩
      obtain ⟨s, hsd⟩ : ∃ s, s = t + C := ⟨_, rfl⟩
      obtain ⟨r, hrd⟩ : ∃ r, r = s % 2 := ⟨_, rfl⟩
      obtain ⟨C', hcd⟩ : ∃ C', C' = s / 2 := ⟨_, rfl⟩
      have hsum1 : IntKind.u64.wrap ((p : Int) + (q : Int)) = (t : Int) := by rw [u64_wrap_id _ (by omega) (by omega)]; omega
      have hsum2 : IntKind.u64.wrap ((t : Int) + (C : Int)) = (s : Int) := by rw [u64_wrap_id _ (by omega) (by omega)]; omega
      have hrem : (s : Int) % 2 = (r : Int) := by omega
      have hquo : (s : Int) / 2 = (C' : Int) := by omega
      have hrem' : (s : Int).tmod 2 = (r : Int) := by rw [Int.tmod_eq_emod_of_nonneg (by omega)]; exact hrem
      have hquo' : (s : Int).tdiv 2 = (C' : Int) := by rw [Int.tdiv_eq_ediv_of_nonneg (by omega)]; exact hquo
      have hr1 : r ≤ 1 := by omega
      have hwc : IntKind.u64.wrap (C' : Int) = (C' : Int) := u64_wrap_id _ (by omega) (by omega)
      obtain ⟨Z, hZ⟩ : ∃ Z, Z = Y + r * 2 ^ k := ⟨_, rfl⟩
      have hw := wrap_top hr1 hk63
      have hor := or_top hY hr1 hk63 hZ
      have HR : Hid (Z < 2 ^ (k + 1) ∧ C' ≤ 1 ∧ Z + C' * 2 ^ (k + 1) = a % 2 ^ (k + 1) + b % 2 ^ (k + 1)) := by
        show _ ∧ _ ∧ _
        have e1 := HSA.out
        have e2 := HSB.out
        have e3 := HE.out
        rw [e1, e2, Nat.pow_succ]
        have h4 : r * 2 ^ k + C' * (2 ^ k * 2) = s * 2 ^ k := by
          have : s = r + C' * 2 := by omega
          rw [this, Nat.add_mul, Nat.mul_assoc, Nat.mul_comm 2]
        have h5 : s * 2 ^ k = p * 2 ^ k + q * 2 ^ k + C * 2 ^ k := by rw [hsd, htd, Nat.add_mul, Nat.add_mul]
        have h6 : r * 2 ^ k ≤ 2 ^ k := by rcases (show r = 0 ∨ r = 1 by omega) with h | h <;> rw [h] <;> omega
        generalize p * 2 ^ k = P at *
        generalize q * 2 ^ k = Q at *
        generalize C * 2 ^ k = CC at *
        generalize r * 2 ^ k = RR at *
        generalize C' * (2 ^ k * 2) = C2 at *
        omega
      clear htd hsd hrd hcd hZ hY hC hr1 hba hbb
      go_wp2_with fail
      refine CA.out.mono ?_
      rintro e w2 ⟨rfl, d2⟩
      have D2 := Lib.hid (HD.out.trans d2)
      clear d2
      go_wp2_with fail
      refine (CB.out w2).mono ?_
      rintro e w3 ⟨rfl, d3⟩
      have D3 := Lib.hid (D2.out.trans d3)
      clear d3
      go_wp2_with fail
      go_roundw
      case rel => exact ⟨k + 1, by omega, by go_num, ⟨Z, C', rfl, rfl, HR.out⟩, D3.out⟩
      case measure => simp [intOf]; omega
    · obtain rfl : k = n := by omega
      have HE : Hid (Y = addN k a b) := by
        show _ = _
        have h := HY.out
        rw [← add_end, ← h.2.2, Nat.add_mul_mod_self_right, Nat.mod_eq_of_lt h.1]
      go_wp2_with fail
      go_ret
      exact ⟨ret_int (by rw [HE.out]), HD.out⟩
set_option maxRecDepth 20000 in
theorem ref01_Neg (n a : Nat) (w : World) (h1 : 1 ≤ n) (h2 : n ≤ 64) (ha : a < 18446744073709551616) : Calls Tryz.prog 129 #[.int .i64 (n : Int), .int .u64 (a : Int)] w fun e w' => e = .returned (.int .u64 ((negN n a : Nat) : Int)) ∧ Drawn w w' := by
  have HO : Hid (negN n a = addN n (notN n a) 1) := rfl
  have HA := Lib.hid ha
  have HN1 := Lib.hid (notN_lt a h2)
  clear ha
  go_enter Tryz.func129, Tryz.ntmps129
  go_wp2_with fail
  refine (ref01_Not n a w h1 h2 HA.out).mono ?_
  rintro e w1 ⟨rfl, d1⟩
  have D1 := Lib.hid d1
  have CA := Lib.hid (ref01_Add n (notN n a) 1 w1 h1 h2 HN1.out (by omega))
  go_wp2_with fail
  refine CA.out.mono ?_
  rintro e w2 ⟨rfl, d2⟩
  have D2 := Lib.hid (D1.out.trans d2)
  go_wp2_with fail
  go_ret
  exact ⟨ret_int (by rw [HO.out]), D2.out⟩
theorem negN_lt (a : Nat) {n : Nat} (h : n ≤ 64) : negN n a < 18446744073709551616 := addN_lt _ _ h
set_option maxRecDepth 20000 in
theorem ref01_Sub (n a b : Nat) (w : World) (h1 : 1 ≤ n) (h2 : n ≤ 64) (ha : a < 18446744073709551616) (hb : b < 18446744073709551616) : Calls Tryz.prog 134 #[.int .i64 (n : Int), .int .u64 (a : Int), .int .u64 (b : Int)] w fun e w' => e = .returned (.int .u64 ((subN n a b : Nat) : Int)) ∧ Drawn w w' := by
  have HO : Hid (subN n a b = addN n a (negN n b)) := rfl
  have HA := Lib.hid ha
  have HB := Lib.hid hb
  have HN1 := Lib.hid (negN_lt b h2)
  clear ha hb
  go_enter Tryz.func134, Tryz.ntmps134
  go_wp2_with fail
  refine (ref01_Neg n b w h1 h2 HB.out).mono ?_
  rintro e w1 ⟨rfl, d1⟩
  have D1 := Lib.hid d1
  go_wp2_with fail
  refine (ref01_Add n a (negN n b) w1 h1 h2 HA.out HN1.out).mono ?_
  rintro e w2 ⟨rfl, d2⟩
  have D2 := Lib.hid (D1.out.trans d2)
  go_wp2_with fail
  go_ret
  exact ⟨ret_int (by rw [HO.out]), D2.out⟩
end Go.Proofs.Sat
/- Walks of the reference of layer 1: Mul, divide, Udiv, Urem. -/
namespace Go.Proofs.Sat
open Go Go.RowKit
def mulN (n a b : Nat) : Nat := a * (b % 2 ^ n) % 2 ^ n
def mulR (n a b j : Nat) : Nat := a * (b % 2 ^ n / 2 ^ j) % 2 ^ n
theorem half_step (x j : Nat) : x / 2 ^ j = 2 * (x / 2 ^ (j + 1)) + bitN x j := by
  unfold bitN
  rw [Nat.pow_succ, ← Nat.div_div_eq_div_mul]
  omega
theorem bitN_mod (b n j : Nat) (h : j < n) : bitN (b % 2 ^ n) j = bitN b j := by
  have h1 := Nat.testBit_mod_two_pow b n j
  rw [Nat.testBit_eq_decide_div_mod_eq, Nat.testBit_eq_decide_div_mod_eq, decide_eq_true h, Bool.true_and] at h1
  have h2 := bitN_le (b % 2 ^ n) j
  have h3 := bitN_le b j
  unfold bitN at *
  by_cases h4 : b / 2 ^ j % 2 = 1
  · rw [decide_eq_true h4] at h1
    have := of_decide_eq_true h1
    omega
  · rw [decide_eq_false h4] at h1
    have := of_decide_eq_false h1
    omega
theorem mul_step (n a b j : Nat) (h : j < n) : mulR n a b j = if bitN b j = 1 then addN n (addN n (mulR n a b (j + 1)) (mulR n a b (j + 1))) a else addN n (mulR n a b (j + 1)) (mulR n a b (j + 1)) := by
  unfold mulR addN
  rw [half_step (b % 2 ^ n) j, bitN_mod b n j h]
  generalize b % 2 ^ n / 2 ^ (j + 1) = q
  by_cases hb : bitN b j = 1
  · rw [if_pos hb, hb]
    have e : a * (2 * q + 1) = a * q + a * q + a := by rw [Nat.mul_add, Nat.mul_one]; congr 1; rw [Nat.two_mul, Nat.mul_add]
    rw [e, ← Nat.add_mod, Nat.mod_add_mod]
  · have h0 : bitN b j = 0 := by have := bitN_le b j; omega
    rw [if_neg hb, h0, Nat.add_zero, ← Nat.add_mod]
    congr 1
    rw [Nat.two_mul, Nat.mul_add]
theorem mulR_lt (n a b j : Nat) (h : n ≤ 64) : mulR n a b j < 18446744073709551616 := mod_u64 _ h
set_option maxRecDepth 20000 in
theorem ref01_Mul (n a b : Nat) (w : World) (h1 : 1 ≤ n) (h2 : n ≤ 64) (ha : a < 18446744073709551616) (hb : b < 18446744073709551616) : Calls Tryz.prog 135 #[.int .i64 (n : Int), .int .u64 (a : Int), .int .u64 (b : Int)] w fun e w' => e = .returned (.int .u64 ((mulN n a b : Nat) : Int)) ∧ Drawn w w' := by
  have HA := Lib.hid ha
  have HB := Lib.hid hb
  have HE : Hid (mulR n a b 0 = mulN n a b) := by show _ = _; unfold mulR mulN; rw [Nat.pow_zero, Nat.div_one]
  have HS : Hid (mulR n a b n = 0) := by show _ = _; unfold mulR; rw [Nat.div_eq_of_lt (Nat.mod_lt _ (Nat.two_pow_pos n))]; simp
  clear ha hb
  go_enter Tryz.func135, Tryz.ntmps135
  go_wp2_with fail
  refine (ref01_W n w h1 h2).mono ?_
  rintro e w1 ⟨rfl, d1⟩
  have D1 := Lib.hid d1
  clear d1
  go_wp2_with fail
  go_loopw [7, 8] (fun y i wr => ∃ k : Nat, k ≤ n ∧ i = .int .i64 ((k : Int) - 1) ∧ (∃ Y : Nat, y = .int .u64 (Y : Int) ∧ Hid (Y = mulR n a b k)) ∧ Hid (Drawn w wr)) (fun _ i _ => (intOf i + 1).toNat)
  case atStart => exact ⟨n, by omega, rfl, ⟨0, rfl, HS.out.symm⟩, D1.out⟩
  case round =>
    obtain ⟨k, hk, rfl, ⟨Y, rfl, HY⟩, HD⟩ := hrel
    by_cases hlt : 0 < k
    · obtain ⟨j, rfl⟩ : ∃ j, k = j + 1 := ⟨k - 1, by omega⟩
      have hj63 : j ≤ 63 := by omega
      rw [show ((j + 1 : Nat) : Int) - 1 = (j : Int) from by omega]
      have hj0 : (0 : Int) ≤ (j : Int) := by omega
      have HST := Lib.hid (mul_step n a b j (by omega))
      have HYL : Hid (Y < 18446744073709551616) := by show _ < _; rw [HY.out]; exact mulR_lt n a b _ h2
      go_wp2_with fail
      refine (ref01_Add n Y Y wr h1 h2 HYL.out HYL.out).mono ?_
      rintro e w2 ⟨rfl, d2⟩
      have D2 := Lib.hid (HD.out.trans d2)
      have HZL := Lib.hid (addN_lt Y Y h2)
      rw [← HY.out] at HST
      clear d2
      generalize addN n Y Y = Z at *
      go_wp2_with fail
      refine (ref01_Bit b j w2 HB.out hj63).mono ?_
      rintro e w3 ⟨rfl, d3⟩
      have D3 := Lib.hid (D2.out.trans d3)
      clear d3
      by_cases hbb : bitN b j = 1
      · have HX : Hid (mulR n a b j = addN n Z a) := by show _ = _; rw [HST.out, if_pos hbb]
        rw [hbb]
        clear hbb
        go_wp2_with fail
        refine (ref01_Add n Z a w3 h1 h2 HZL.out HA.out).mono ?_
        rintro e w4 ⟨rfl, d4⟩
        have D4 := Lib.hid (D3.out.trans d4)
        clear d4
        go_wp2_with fail
        go_roundw
        case rel => exact ⟨j, by omega, by go_num, ⟨_, rfl, HX.out.symm⟩, D4.out⟩
        case measure => simp [intOf] <;> omega
      · have hb0 : bitN b j = 0 := by have := bitN_le b j; omega
        have HX : Hid (mulR n a b j = Z) := by show _ = _; rw [HST.out, if_neg hbb]
        rw [hb0]
        clear hbb hb0
        go_wp2_with fail
        go_roundw
        case rel => exact ⟨j, by omega, by go_num, ⟨_, rfl, HX.out.symm⟩, D3.out⟩
        case measure => simp [intOf] <;> omega
    · obtain rfl : k = 0 := by omega
      go_wp2_with fail
      go_ret
      exact ⟨ret_int (by rw [HY.out, HE.out]), HD.out⟩
theorem or_low {q i z : Nat} (hq : q % 2 ^ (i + 1) = 0) (hql : q < 18446744073709551616) (hi : i ≤ 63) (hz : z = q + 2 ^ i) : bits BinOp.or IntKind.u64 (q : Int) (2 ^ i) = (z : Int) := by
  have hp := pow_le63 hi
  have h64 : (2 : Int) ^ 64 = 18446744073709551616 := by decide
  have e : (2 : Int) ^ i = ((2 ^ i : Nat) : Int) := by simp
  have e1 : (2 : Int) ^ (i + 1) = ((2 ^ (i + 1) : Nat) : Int) := by simp
  have hlt : 2 ^ i < 2 ^ (i + 1) := Nat.pow_lt_pow_right (by omega) (by omega)
  rw [e, bits_join .u64 64 (by decide) wraps_u64 (i + 1) (q : Int) ((2 ^ i : Nat) : Int) (by omega) (by rw [e1]; omega) (by omega) (by omega) (by rw [e1]; omega) (by omega), hz]
  omega
theorem div_step (a b j : Nat) (hb : 0 < b) : a / 2 ^ j / b = (if b ≤ 2 * (a / 2 ^ (j + 1) % b) + bitN a j then 2 * (a / 2 ^ (j + 1) / b) + 1 else 2 * (a / 2 ^ (j + 1) / b)) ∧ a / 2 ^ j % b = (if b ≤ 2 * (a / 2 ^ (j + 1) % b) + bitN a j then 2 * (a / 2 ^ (j + 1) % b) + bitN a j - b else 2 * (a / 2 ^ (j + 1) % b) + bitN a j) := by
  rw [half_step a j]
  have ht := bitN_le a j
  generalize bitN a j = t at *
  generalize a / 2 ^ (j + 1) = A at *
  have hr := Nat.mod_lt A hb
  have hA := Nat.div_add_mod A b
  generalize A / b = d at *
  generalize A % b = r at *
  by_cases h : b ≤ 2 * r + t
  · rw [if_pos h, if_pos h]
    have e : 2 * A + t = (2 * r + t - b) + b * (2 * d + 1) := by rw [← hA, Nat.mul_add, Nat.mul_add, Nat.mul_left_comm]; omega
    have hl : 2 * r + t - b < b := by omega
    rw [e, Nat.add_mul_div_left _ _ hb, Nat.add_mul_mod_self_left, Nat.div_eq_of_lt hl, Nat.mod_eq_of_lt hl]
    omega
  · rw [if_neg h, if_neg h]
    have e : 2 * A + t = (2 * r + t) + b * (2 * d) := by rw [← hA, Nat.mul_add, Nat.mul_left_comm]; omega
    have hl : 2 * r + t < b := by omega
    rw [e, Nat.add_mul_div_left _ _ hb, Nat.add_mul_mod_self_left, Nat.div_eq_of_lt hl, Nat.mod_eq_of_lt hl]
    omega
theorem over_iff {r : Nat} (h : r < 18446744073709551616) : bitN r 63 = if 9223372036854775808 ≤ r then 1 else 0 := by
  unfold bitN
  have : (2 : Nat) ^ 63 = 9223372036854775808 := by decide
  rw [this]
  split <;> omega
set_option maxRecDepth 20000 in
set_option maxHeartbeats 1000000 in
theorem ref01_divide (a b : Nat) (w : World) (ha : a < 18446744073709551616) (hb : b < 18446744073709551616) (hb0 : 0 < b) : Calls Tryz.prog 145 #[.int .u64 (a : Int), .int .u64 (b : Int)] w fun e w' => e = .returned (.tuple #[.int .u64 ((a / b : Nat) : Int), .int .u64 ((a % b : Nat) : Int)]) ∧ Drawn w w' := by
  have HA := Lib.hid ha
  have h64 : a / 2 ^ 64 = 0 := Nat.div_eq_of_lt (by simpa using ha)
  have HS : Hid (0 = a / 2 ^ 64 / b * 2 ^ 64 ∧ 0 = a / 2 ^ 64 % b) := by show _ ∧ _; rw [h64]; simp
  clear ha h64
  go_enter Tryz.func145, Tryz.ntmps145
  go_wp2_with fail
  go_loopw [6, 7, 8] (fun q r i wr => ∃ k : Nat, k ≤ 64 ∧ i = .int .i64 ((k : Int) - 1) ∧ (∃ Q R : Nat, q = .int .u64 (Q : Int) ∧ r = .int .u64 (R : Int) ∧ Hid (Q = a / 2 ^ k / b * 2 ^ k ∧ R = a / 2 ^ k % b)) ∧ Hid (Drawn w wr)) (fun _ _ i _ => (intOf i + 1).toNat)
  case atStart => exact ⟨64, by omega, rfl, ⟨0, 0, rfl, rfl, HS.out⟩, Drawn.refl _⟩
  case round =>
    obtain ⟨k, hk, rfl, ⟨Q, R, rfl, rfl, HQ⟩, HD⟩ := hrel
    by_cases hlt : 0 < k
    · obtain ⟨j, rfl⟩ : ∃ j, k = j + 1 := ⟨k - 1, by omega⟩
      have hj63 : j ≤ 63 := by omega
      rw [show ((j + 1 : Nat) : Int) - 1 = (j : Int) from by omega]
      have hj0 : (0 : Int) ≤ (j : Int) := by omega
      have HST := Lib.hid (div_step a b j hb0)
      have hRb : R < b := by rw [HQ.out.2]; exact Nat.mod_lt _ hb0
      have HRL : Hid (R < 18446744073709551616) := by show _ < _; omega
      have HQL : Hid (Q < 18446744073709551616) := by
        show _ < _
        rw [HQ.out.1]
        exact Nat.lt_of_le_of_lt (Nat.le_trans (Nat.mul_le_mul_right _ (Nat.div_le_self _ _)) (Nat.div_mul_le_self _ _)) HA.out
      have HQM : Hid (Q % 2 ^ (j + 1) = 0) := by show _ = _; rw [HQ.out.1]; exact Nat.mul_mod_left _ _
      have ht := bitN_le a j
      have HOV := Lib.hid (over_iff HRL.out)
      have CA := Lib.hid (fun W => ref01_Bit a j W HA.out hj63)
      rw [← HQ.out.2] at HST
      generalize bitN a j = t at *
      go_wp2_with fail
      refine (ref01_Bit R 63 wr HRL.out (by omega)).mono ?_
      rintro e w2 ⟨rfl, d2⟩
      have D2 := Lib.hid (HD.out.trans d2)
      clear d2
      obtain ⟨T1, hT1⟩ : ∃ T1, T1 = R * 2 % 18446744073709551616 := ⟨_, rfl⟩
      obtain ⟨T2, hT2⟩ : ∃ T2, T2 = T1 + t := ⟨_, rfl⟩
      have hm1 : IntKind.u64.wrap ((R : Int) * 2) = (T1 : Int) := by rw [IntKind.wrap_u64]; omega
      have hm2 : IntKind.u64.wrap ((T1 : Int) + (t : Int)) = (T2 : Int) := by rw [IntKind.wrap_u64]; omega
      have hRL := HRL.out
      by_cases hov : 9223372036854775808 ≤ R
      · rw [HOV.out, if_pos hov]
        have hle : b ≤ 2 * R + t := by omega
        obtain ⟨R', hR'⟩ : ∃ R', R' = 2 * R + t - b := ⟨_, rfl⟩
        obtain ⟨Z, hZ⟩ : ∃ Z, Z = Q + 2 ^ j := ⟨_, rfl⟩
        have HN : Hid (Z = a / 2 ^ j / b * 2 ^ j ∧ R' = a / 2 ^ j % b) := by
          have h := HST.out
          rw [if_pos hle, if_pos hle] at h
          show _ ∧ _
          refine ⟨?_, by rw [h.2]; exact hR'⟩
          rw [hZ, HQ.out.1, h.1, Nat.pow_succ, Nat.add_mul, Nat.one_mul, Nat.mul_comm (2 ^ j) 2, ← Nat.mul_assoc, Nat.mul_comm _ 2]
        have hor := or_low HQM.out HQL.out hj63 hZ
        have hw := wrap_top (b := 1) (Nat.le_refl 1) hj63
        rw [show ((1 : Nat) : Int) * 2 ^ j = 2 ^ j from by simp] at hw
        have hsub : IntKind.u64.wrap ((T2 : Int) - (b : Int)) = (R' : Int) := by rw [IntKind.wrap_u64]; omega
        clear hov hle hR' hZ hT1 hT2 ht
        go_wp2_with fail
        refine (CA.out w2).mono ?_
        rintro e w3 ⟨rfl, d3⟩
        have D3 := Lib.hid (D2.out.trans d3)
        clear d3
        go_wp2_with fail
        go_roundw
        case rel => exact ⟨j, by omega, by go_num, ⟨Z, R', rfl, rfl, HN.out⟩, D3.out⟩
        case measure => simp [intOf] <;> omega
      · rw [HOV.out, if_neg hov]
        have hT3 : T2 = 2 * R + t := by omega
        by_cases hge : b ≤ T2
        · have hge' : (b : Int) ≤ (T2 : Int) := by omega
          have hle : b ≤ 2 * R + t := by omega
          obtain ⟨R', hR'⟩ : ∃ R', R' = 2 * R + t - b := ⟨_, rfl⟩
          obtain ⟨Z, hZ⟩ : ∃ Z, Z = Q + 2 ^ j := ⟨_, rfl⟩
          have HN : Hid (Z = a / 2 ^ j / b * 2 ^ j ∧ R' = a / 2 ^ j % b) := by
            have h := HST.out
            rw [if_pos hle, if_pos hle] at h
            show _ ∧ _
            refine ⟨?_, by rw [h.2]; exact hR'⟩
            rw [hZ, HQ.out.1, h.1, Nat.pow_succ, Nat.add_mul, Nat.one_mul, Nat.mul_comm (2 ^ j) 2, ← Nat.mul_assoc, Nat.mul_comm _ 2]
          have hor := or_low HQM.out HQL.out hj63 hZ
          have hw := wrap_top (b := 1) (Nat.le_refl 1) hj63
          rw [show ((1 : Nat) : Int) * 2 ^ j = 2 ^ j from by simp] at hw
          have hsub : IntKind.u64.wrap ((T2 : Int) - (b : Int)) = (R' : Int) := by rw [IntKind.wrap_u64]; omega
          clear hov hle hR' hZ hT1 hT2 hT3 hge ht
          go_wp2_with fail
          refine (CA.out w2).mono ?_
          rintro e w3 ⟨rfl, d3⟩
          have D3 := Lib.hid (D2.out.trans d3)
          clear d3
          go_wp2_with fail
          go_roundw
          case rel => exact ⟨j, by omega, by go_num, ⟨Z, R', rfl, rfl, HN.out⟩, D3.out⟩
          case measure => simp [intOf] <;> omega
        · have hge' : ¬ (b : Int) ≤ (T2 : Int) := by omega
          have hle : ¬ b ≤ 2 * R + t := by omega
          have HN : Hid (Q = a / 2 ^ j / b * 2 ^ j ∧ T2 = a / 2 ^ j % b) := by
            have h := HST.out
            rw [if_neg hle, if_neg hle] at h
            show _ ∧ _
            refine ⟨?_, by rw [h.2]; exact hT3⟩
            rw [HQ.out.1, h.1, Nat.pow_succ, Nat.mul_comm (2 ^ j) 2, ← Nat.mul_assoc, Nat.mul_comm _ 2]
          clear hov hle hT1 hT2 hT3 hge ht
          go_wp2_with fail
          refine (CA.out w2).mono ?_
          rintro e w3 ⟨rfl, d3⟩
          have D3 := Lib.hid (D2.out.trans d3)
          clear d3
          go_wp2_with fail
          go_roundw
          case rel => exact ⟨j, by omega, by go_num, ⟨Q, T2, rfl, rfl, HN.out⟩, D3.out⟩
          case measure => simp [intOf] <;> omega
    · obtain rfl : k = 0 := by omega
      have HE : Hid (Q = a / b ∧ R = a % b) := by
        have h := HQ.out
        rw [Nat.pow_zero, Nat.div_one, Nat.mul_one] at h
        exact h
      go_wp2_with fail
      go_ret2
      exact ⟨by rw [HE.out.1, HE.out.2]; rfl, HD.out⟩
def udivN (n a b : Nat) : Nat := if b % 2 ^ n = 0 then 2 ^ n - 1 else a % 2 ^ n / (b % 2 ^ n)
def uremN (n a b : Nat) : Nat := if b % 2 ^ n = 0 then a % 2 ^ n else a % 2 ^ n % (b % 2 ^ n)
theorem mask_int (n : Nat) : maskI (n : Int) = ((2 ^ n - 1 : Nat) : Int) := by
  unfold maskI
  rw [Int.toNat_natCast]
  have := Nat.two_pow_pos n
  rw [Int.ofNat_sub this]
  simp
set_option maxRecDepth 20000 in
theorem ref01_Udiv (n a b : Nat) (w : World) (h1 : 1 ≤ n) (h2 : n ≤ 64) (ha : a < 18446744073709551616) (hb : b < 18446744073709551616) : Calls Tryz.prog 136 #[.int .i64 (n : Int), .int .u64 (a : Int), .int .u64 (b : Int)] w fun e w' => e = .returned (.int .u64 ((udivN n a b : Nat) : Int)) ∧ Drawn w w' := by
  have HA := Lib.hid ha
  have HB := Lib.hid hb
  have HLA := Lib.hid (mod_u64 a h2)
  have HLB := Lib.hid (mod_u64 b h2)
  have HMN := Lib.hid (mask_int n)
  clear ha hb
  go_enter Tryz.func136, Tryz.ntmps136
  have C1 := Lib.hid (ref01_Cut n b w h1 h2 HB.out)
  have C2 := Lib.hid (fun W => ref01_Cut n b W h1 h2 HB.out)
  have C3 := Lib.hid (fun W => ref01_Cut n a W h1 h2 HA.out)
  have HU : Hid (udivN n a b = if b % 2 ^ n = 0 then 2 ^ n - 1 else a % 2 ^ n / (b % 2 ^ n)) := rfl
  generalize b % 2 ^ n = y at *
  generalize a % 2 ^ n = x at *
  go_wp2_with fail
  refine C1.out.mono ?_
  rintro e w1 ⟨rfl, d1⟩
  have D1 := Lib.hid d1
  clear d1 C1
  by_cases hy : y = 0
  · have HX : Hid (udivN n a b = 2 ^ n - 1) := by show _ = _; rw [HU.out, if_pos hy]
    rw [hy]
    go_wp2_with fail
    refine (ref01_Mask (n : Int) w1 (by omega) (by omega)).mono ?_
    rintro e w2 ⟨rfl, d2⟩
    have D2 := Lib.hid (D1.out.trans d2)
    clear d2
    go_wp2_with fail
    go_ret
    exact ⟨ret_int (by rw [HX.out, HMN.out]), D2.out⟩
  · have HX : Hid (udivN n a b = x / y) := by show _ = _; rw [HU.out, if_neg hy]
    have hy0 : ((y : Int) == 0) = false := by simpa using hy
    have HY0 : Hid (0 < y) := by show _ < _; omega
    clear hy
    go_wp2_with fail
    refine (C3.out w1).mono ?_
    rintro e w2 ⟨rfl, d2⟩
    have D2 := Lib.hid (D1.out.trans d2)
    clear d2
    go_wp2_with fail
    refine (C2.out w2).mono ?_
    rintro e w3 ⟨rfl, d3⟩
    have D3 := Lib.hid (D2.out.trans d3)
    clear d3
    have CD := Lib.hid (ref01_divide x y w3 HLA.out HLB.out HY0.out)
    generalize x / y = z at *
    generalize x % y = z2 at *
    go_wp2_with fail
    refine CD.out.mono ?_
    rintro e w4 ⟨rfl, d4⟩
    have D4 := Lib.hid (D3.out.trans d4)
    clear d4
    go_wp2_with fail
    go_ret
    exact ⟨ret_int (by rw [HX.out]), D4.out⟩
set_option maxRecDepth 20000 in
theorem ref01_Urem (n a b : Nat) (w : World) (h1 : 1 ≤ n) (h2 : n ≤ 64) (ha : a < 18446744073709551616) (hb : b < 18446744073709551616) : Calls Tryz.prog 137 #[.int .i64 (n : Int), .int .u64 (a : Int), .int .u64 (b : Int)] w fun e w' => e = .returned (.int .u64 ((uremN n a b : Nat) : Int)) ∧ Drawn w w' := by
  have HA := Lib.hid ha
  have HB := Lib.hid hb
  have HLA := Lib.hid (mod_u64 a h2)
  have HLB := Lib.hid (mod_u64 b h2)
  have HMN := Lib.hid (mask_int n)
  clear ha hb
  go_enter Tryz.func137, Tryz.ntmps137
  have C1 := Lib.hid (ref01_Cut n b w h1 h2 HB.out)
  have C2 := Lib.hid (fun W => ref01_Cut n b W h1 h2 HB.out)
  have C3 := Lib.hid (fun W => ref01_Cut n a W h1 h2 HA.out)
  have HU : Hid (uremN n a b = if b % 2 ^ n = 0 then a % 2 ^ n else a % 2 ^ n % (b % 2 ^ n)) := rfl
  generalize b % 2 ^ n = y at *
  generalize a % 2 ^ n = x at *
  go_wp2_with fail
  refine C1.out.mono ?_
  rintro e w1 ⟨rfl, d1⟩
  have D1 := Lib.hid d1
  clear d1 C1
  by_cases hy : y = 0
  · have HX : Hid (uremN n a b = x) := by show _ = _; rw [HU.out, if_pos hy]
    rw [hy]
    go_wp2_with fail
    refine (C3.out w1).mono ?_
    rintro e w2 ⟨rfl, d2⟩
    have D2 := Lib.hid (D1.out.trans d2)
    clear d2
    go_wp2_with fail
    go_ret
    exact ⟨ret_int (by rw [HX.out]), D2.out⟩
  · have HX : Hid (uremN n a b = x % y) := by show _ = _; rw [HU.out, if_neg hy]
    have hy0 : ((y : Int) == 0) = false := by simpa using hy
    have HY0 : Hid (0 < y) := by show _ < _; omega
    clear hy
    go_wp2_with fail
    refine (C3.out w1).mono ?_
    rintro e w2 ⟨rfl, d2⟩
    have D2 := Lib.hid (D1.out.trans d2)
    clear d2
    go_wp2_with fail
    refine (C2.out w2).mono ?_
    rintro e w3 ⟨rfl, d3⟩
    have D3 := Lib.hid (D2.out.trans d3)
    clear d3
    have CD := Lib.hid (ref01_divide x y w3 HLA.out HLB.out HY0.out)
    generalize x / y = z at *
    generalize x % y = z2 at *
    go_wp2_with fail
    refine CD.out.mono ?_
    rintro e w4 ⟨rfl, d4⟩
    have D4 := Lib.hid (D3.out.trans d4)
    clear d4
    go_wp2_with fail
    go_ret
    exact ⟨ret_int (by rw [HX.out]), D4.out⟩
end Go.Proofs.Sat
/- Walks of the reference of layer 1: shift, by, Shl, Lshr, Ashr, truth, Eq, Ult, Negative, Signed, Slt. -/
namespace Go.Proofs.Sat
open Go Go.RowKit
/-- Bit i of a value that is moved by b. -/
def shBit (n a : Nat) (b : Int) (fill i : Nat) : Nat := if (i : Int) + b < n then (if 0 ≤ (i : Int) + b then bitN a ((i : Int) + b).toNat else 0) else fill
def shSum (n a : Nat) (b : Int) (fill : Nat) : Nat → Nat
  | 0 => 0
  | i + 1 => shSum n a b fill i + shBit n a b fill i * 2 ^ i
def shiftN (n a : Nat) (b : Int) (fill : Nat) : Nat := shSum n a b fill n
theorem shBit_le {n a : Nat} {b : Int} {fill i : Nat} (h : fill ≤ 1) : shBit n a b fill i ≤ 1 := by unfold shBit; split; (· split; (· exact bitN_le _ _); (· omega)); (· exact h)
theorem shSum_lt {n a : Nat} {b : Int} {fill : Nat} (h : fill ≤ 1) (i : Nat) : shSum n a b fill i < 2 ^ i := by
  induction i with
  | zero => simp [shSum]
  | succ i ih =>
    have := @shBit_le n a b fill i h
    rw [Nat.pow_succ]
    unfold shSum
    rcases (show shBit n a b fill i = 0 ∨ shBit n a b fill i = 1 by omega) with e | e <;> rw [e] <;> omega
set_option maxRecDepth 20000 in
theorem ref01_BitZ (x : Nat) (i : Int) (w : World) (hx : x < 18446744073709551616) (hi : i < 0) : Calls Tryz.prog 75 #[.int .u64 (x : Int), .int .i64 i] w fun e w' => e = .returned (.int .u64 0) ∧ Drawn w w' := by
  go_enter Tryz.func75, Tryz.ntmps75
  go_wp2
  go_ret
  exact ⟨rfl, Drawn.refl _⟩
set_option maxRecDepth 20000 in
theorem ref01_truth (b : Bool) (w : World) : Calls Tryz.prog 155 #[.bool b] w fun e w' => e = .returned (.int .u64 (if b = true then 1 else 0)) ∧ Drawn w w' := by
  go_enter Tryz.func155, Tryz.ntmps155
  cases b
  all_goals
    go_wp2
    go_ret
    exact ⟨rfl, Drawn.refl _⟩
set_option maxRecDepth 20000 in
theorem ref01_by (n b : Nat) (w : World) (h1 : 1 ≤ n) (h2 : n ≤ 64) (hb : b < 18446744073709551616) : Calls Tryz.prog 154 #[.int .i64 (n : Int), .int .u64 (b : Int)] w fun e w' => e = .returned (.int .i64 ((min (b % 2 ^ n) 64 : Nat) : Int)) ∧ Drawn w w' := by
  have HB := Lib.hid hb
  have HL := Lib.hid (mod_u64 b h2)
  clear hb
  go_enter Tryz.func154, Tryz.ntmps154
  go_wp2_with fail
  refine (ref01_Cut n b w h1 h2 HB.out).mono ?_
  rintro e w1 ⟨rfl, d1⟩
  have D1 := Lib.hid d1
  clear d1
  generalize hyy : b % 2 ^ n = y at *
  have HYY := Lib.hid hyy
  clear hyy
  have hyl := HL.out
  go_wp2_with fail
  all_goals
    go_ret
    exact ⟨ret_int (by rw [HYY.out]; omega), D1.out⟩
set_option maxRecDepth 20000 in
set_option maxHeartbeats 1000000 in
theorem ref01_shift (n a : Nat) (b : Int) (fill : Nat) (w : World) (h1 : 1 ≤ n) (h2 : n ≤ 64) (ha : a < 18446744073709551616) (hb1 : -64 ≤ b) (hb2 : b ≤ 64) (hf : fill ≤ 1) : Calls Tryz.prog 153 #[.int .i64 (n : Int), .int .u64 (a : Int), .int .i64 b, .int .u64 (fill : Int)] w fun e w' => e = .returned (.int .u64 ((shiftN n a b fill : Nat) : Int)) ∧ Drawn w w' := by
  have HA := Lib.hid ha
  have HF := Lib.hid hf
  clear ha hf
  go_enter Tryz.func153, Tryz.ntmps153
  go_wp2_with fail
  refine (ref01_W n w h1 h2).mono ?_
  rintro e w1 ⟨rfl, d1⟩
  have D1 := Lib.hid d1
  clear d1
  go_wp2_with fail
  go_loopw [9, 14] (fun y i wr => ∃ k : Nat, k ≤ n ∧ i = .int .i64 k ∧ (∃ Y : Nat, y = .int .u64 (Y : Int) ∧ Hid (Y = shSum n a b fill k)) ∧ Hid (Drawn w wr)) (fun _ i _ => n - (intOf i).toNat)
  case atStart => exact ⟨0, by omega, rfl, ⟨0, rfl, rfl⟩, D1.out⟩
  case round =>
    obtain ⟨k, hk, rfl, ⟨Y, rfl, HY⟩, HD⟩ := hrel
    by_cases hlt : k < n
    · have hk63 : k ≤ 63 := by omega
      have hkl : (k : Int) < (n : Int) := by omega
      have hY : Y < 2 ^ k := by rw [HY.out]; exact shSum_lt HF.out k
      have hb := @shBit_le n a b fill k HF.out
      obtain ⟨Z, hZ⟩ : ∃ Z, Z = Y + shBit n a b fill k * 2 ^ k := ⟨_, rfl⟩
      have HZ : Hid (Z = shSum n a b fill (k + 1)) := by show _ = _; rw [hZ, HY.out]; rfl
      have hsum : IntKind.i64.wrap ((k : Int) + b) = (k : Int) + b := IntWalk.i64_in _ (by omega)
      have HSB : Hid (shBit n a b fill k = if (k : Int) + b < n then (if 0 ≤ (k : Int) + b then bitN a ((k : Int) + b).toNat else 0) else fill) := rfl
      generalize shBit n a b fill k = p at *
      have hw := wrap_top hb hk63
      have hor := or_top hY hb hk63 hZ
      have CW := Lib.hid (fun W => ref01_W n W h1 h2)
      clear hZ hY hb
      by_cases hin : (k : Int) + b < n
      · have HP : Hid (p = if 0 ≤ (k : Int) + b then bitN a ((k : Int) + b).toNat else 0) := by have := HSB.out; rwa [if_pos hin] at this
        have CB : Hid (∀ W, Calls Tryz.prog 75 #[.int .u64 (a : Int), .int .i64 ((k : Int) + b)] W fun e w' => e = .returned (.int .u64 (p : Int)) ∧ Drawn W w') := by
          show ∀ W, _
          intro W
          by_cases h0 : 0 ≤ (k : Int) + b
          · have e := HP.out
            rw [if_pos h0] at e
            obtain ⟨q, hq⟩ := Int.eq_ofNat_of_zero_le h0
            rw [hq, Int.toNat_natCast] at e
            rw [hq, e]
            exact ref01_Bit a q W HA.out (by omega)
          · have e := HP.out
            rw [if_neg h0] at e
            rw [e]
            exact ref01_BitZ a _ W HA.out (by omega)
        go_wp2_with fail
        refine (CW.out wr).mono ?_
        rintro e w2 ⟨rfl, d2⟩
        have D2 := Lib.hid (HD.out.trans d2)
        clear d2
        go_wp2_with fail
        refine (CB.out w2).mono ?_
        rintro e w3 ⟨rfl, d3⟩
        have D3 := Lib.hid (D2.out.trans d3)
        clear d3
        go_wp2_with fail
        go_roundw
        case rel => exact ⟨k + 1, by omega, by go_num, ⟨Z, rfl, HZ.out⟩, D3.out⟩
        case measure => simp [intOf]; omega
      · have HP : Hid (p = fill) := by have := HSB.out; rwa [if_neg hin] at this
        rw [HP.out] at hw hor
        go_wp2_with fail
        refine (CW.out wr).mono ?_
        rintro e w2 ⟨rfl, d2⟩
        have D2 := Lib.hid (HD.out.trans d2)
        clear d2
        go_wp2_with fail
        go_roundw
        case rel => exact ⟨k + 1, by omega, by go_num, ⟨Z, rfl, HZ.out⟩, D2.out⟩
        case measure => simp [intOf]; omega
    · obtain rfl : k = n := by omega
      go_wp2_with fail
      go_ret
      exact ⟨ret_int (by rw [HY.out]; rfl), HD.out⟩
def byN (n b : Nat) : Nat := min (b % 2 ^ n) 64
theorem byN_le (n b : Nat) : byN n b ≤ 64 := Nat.min_le_right _ _
def shlN (n a b : Nat) : Nat := shiftN n a (0 - (byN n b : Int)) 0
def lshrN (n a b : Nat) : Nat := shiftN n a (byN n b : Int) 0
def ashrN (n a b : Nat) : Nat := shiftN n a (byN n b : Int) (bitN a (n - 1))
def eqN (n a b : Nat) : Nat := if a % 2 ^ n = b % 2 ^ n then 1 else 0
def ultN (n a b : Nat) : Nat := if a % 2 ^ n < b % 2 ^ n then 1 else 0
set_option maxRecDepth 20000 in
theorem ref01_Shl (n a b : Nat) (w : World) (h1 : 1 ≤ n) (h2 : n ≤ 64) (ha : a < 18446744073709551616) (hb : b < 18446744073709551616) : Calls Tryz.prog 146 #[.int .i64 (n : Int), .int .u64 (a : Int), .int .u64 (b : Int)] w fun e w' => e = .returned (.int .u64 ((shlN n a b : Nat) : Int)) ∧ Drawn w w' := by
  have HA := Lib.hid ha
  have HB := Lib.hid hb
  clear ha hb
  go_enter Tryz.func146, Tryz.ntmps146
  have CY := Lib.hid (ref01_by n b w h1 h2 HB.out)
  have HU : Hid (shlN n a b = shiftN n a (0 - (byN n b : Int)) 0) := rfl
  have hyl := byN_le n b
  have e0 : Hid (min (b % 2 ^ n) 64 = byN n b) := rfl
  rw [e0.out] at CY
  generalize byN n b = y at *
  have hs : IntKind.i64.wrap (0 - (y : Int)) = -(y : Int) := by rw [IntWalk.i64_in _ (by omega)]; omega
  have hs' : IntKind.i64.wrap (-(y : Int)) = -(y : Int) := IntWalk.i64_in _ (by omega)
  go_wp2_with fail
  refine CY.out.mono ?_
  rintro e w1 ⟨rfl, d1⟩
  have D1 := Lib.hid d1
  clear d1
  have CS := Lib.hid (ref01_shift n a (-(y : Int)) 0 w1 h1 h2 HA.out (by omega) (by omega) (by omega))
  go_wp2_with fail
  refine CS.out.mono ?_
  rintro e w2 ⟨rfl, d2⟩
  have D2 := Lib.hid (D1.out.trans d2)
  clear d2
  go_wp2_with fail
  go_ret
  exact ⟨ret_int (by rw [HU.out, Int.zero_sub]), D2.out⟩
set_option maxRecDepth 20000 in
theorem ref01_Lshr (n a b : Nat) (w : World) (h1 : 1 ≤ n) (h2 : n ≤ 64) (ha : a < 18446744073709551616) (hb : b < 18446744073709551616) : Calls Tryz.prog 147 #[.int .i64 (n : Int), .int .u64 (a : Int), .int .u64 (b : Int)] w fun e w' => e = .returned (.int .u64 ((lshrN n a b : Nat) : Int)) ∧ Drawn w w' := by
  have HA := Lib.hid ha
  have HB := Lib.hid hb
  clear ha hb
  go_enter Tryz.func147, Tryz.ntmps147
  have CY := Lib.hid (ref01_by n b w h1 h2 HB.out)
  have HU : Hid (lshrN n a b = shiftN n a (byN n b : Int) 0) := rfl
  have hyl := byN_le n b
  have e0 : Hid (min (b % 2 ^ n) 64 = byN n b) := rfl
  rw [e0.out] at CY
  generalize byN n b = y at *
  go_wp2_with fail
  refine CY.out.mono ?_
  rintro e w1 ⟨rfl, d1⟩
  have D1 := Lib.hid d1
  clear d1
  have CS := Lib.hid (ref01_shift n a (y : Int) 0 w1 h1 h2 HA.out (by omega) (by omega) (by omega))
  go_wp2_with fail
  refine CS.out.mono ?_
  rintro e w2 ⟨rfl, d2⟩
  have D2 := Lib.hid (D1.out.trans d2)
  clear d2
  go_wp2_with fail
  go_ret
  exact ⟨ret_int (by rw [HU.out]), D2.out⟩
set_option maxRecDepth 20000 in
theorem ref01_Eq (n a b : Nat) (w : World) (h1 : 1 ≤ n) (h2 : n ≤ 64) (ha : a < 18446744073709551616) (hb : b < 18446744073709551616) : Calls Tryz.prog 149 #[.int .i64 (n : Int), .int .u64 (a : Int), .int .u64 (b : Int)] w fun e w' => e = .returned (.int .u64 ((eqN n a b : Nat) : Int)) ∧ Drawn w w' := by
  have HA := Lib.hid ha
  have HB := Lib.hid hb
  clear ha hb
  go_enter Tryz.func149, Tryz.ntmps149
  have C1 := Lib.hid (ref01_Cut n a w h1 h2 HA.out)
  have C2 := Lib.hid (fun W => ref01_Cut n b W h1 h2 HB.out)
  have HU : Hid (eqN n a b = if a % 2 ^ n = b % 2 ^ n then 1 else 0) := rfl
  have hl1 := mod_u64 a h2
  have hl2 := mod_u64 b h2
  generalize a % 2 ^ n = x at *
  generalize b % 2 ^ n = y at *
  go_wp2_with fail
  refine C1.out.mono ?_
  rintro e w1 ⟨rfl, d1⟩
  have D1 := Lib.hid d1
  clear d1
  go_wp2_with fail
  refine (C2.out w1).mono ?_
  rintro e w2 ⟨rfl, d2⟩
  have D2 := Lib.hid (D1.out.trans d2)
  clear d2
  by_cases h : x = y
  · have HH := Lib.hid h
    have h' : (x : Int) = (y : Int) := by omega
    clear h
    go_wp2_with fail
    refine (ref01_truth true w2).mono ?_
    rintro e w3 ⟨rfl, d3⟩
    have D3 := Lib.hid (D2.out.trans d3)
    clear d3
    go_wp2_with fail
    go_ret
    exact ⟨ret_int (by rw [HU.out, if_pos HH.out]; rfl), D3.out⟩
  · have HH := Lib.hid h
    have h' : ((x : Int) == (y : Int)) = false := by rw [beq_eq_false_iff_ne]; omega
    clear h
    go_wp2_with fail
    refine (ref01_truth false w2).mono ?_
    rintro e w3 ⟨rfl, d3⟩
    have D3 := Lib.hid (D2.out.trans d3)
    clear d3
    go_wp2_with fail
    go_ret
    exact ⟨ret_int (by rw [HU.out, if_neg HH.out]; rfl), D3.out⟩
set_option maxRecDepth 20000 in
theorem ref01_Ult (n a b : Nat) (w : World) (h1 : 1 ≤ n) (h2 : n ≤ 64) (ha : a < 18446744073709551616) (hb : b < 18446744073709551616) : Calls Tryz.prog 150 #[.int .i64 (n : Int), .int .u64 (a : Int), .int .u64 (b : Int)] w fun e w' => e = .returned (.int .u64 ((ultN n a b : Nat) : Int)) ∧ Drawn w w' := by
  have HA := Lib.hid ha
  have HB := Lib.hid hb
  clear ha hb
  go_enter Tryz.func150, Tryz.ntmps150
  have C1 := Lib.hid (ref01_Cut n a w h1 h2 HA.out)
  have C2 := Lib.hid (fun W => ref01_Cut n b W h1 h2 HB.out)
  have HU : Hid (ultN n a b = if a % 2 ^ n < b % 2 ^ n then 1 else 0) := rfl
  have hl1 := mod_u64 a h2
  have hl2 := mod_u64 b h2
  generalize a % 2 ^ n = x at *
  generalize b % 2 ^ n = y at *
  go_wp2_with fail
  refine C1.out.mono ?_
  rintro e w1 ⟨rfl, d1⟩
  have D1 := Lib.hid d1
  clear d1
  go_wp2_with fail
  refine (C2.out w1).mono ?_
  rintro e w2 ⟨rfl, d2⟩
  have D2 := Lib.hid (D1.out.trans d2)
  clear d2
  by_cases h : x < y
  · have HH := Lib.hid h
    have h' : (x : Int) < (y : Int) := by omega
    clear h
    go_wp2_with fail
    refine (ref01_truth true w2).mono ?_
    rintro e w3 ⟨rfl, d3⟩
    have D3 := Lib.hid (D2.out.trans d3)
    clear d3
    go_wp2_with fail
    go_ret
    exact ⟨ret_int (by rw [HU.out, if_pos HH.out]; rfl), D3.out⟩
  · have HH := Lib.hid h
    have h' : decide (x < y) = false := decide_eq_false HH.out
    clear h
    go_wp2_with fail
    refine (ref01_truth false w2).mono ?_
    rintro e w3 ⟨rfl, d3⟩
    have D3 := Lib.hid (D2.out.trans d3)
    clear d3
    go_wp2_with fail
    go_ret
    exact ⟨ret_int (by rw [HU.out, if_neg HH.out]; rfl), D3.out⟩
set_option maxRecDepth 20000 in
theorem ref01_Ashr (n a b : Nat) (w : World) (h1 : 1 ≤ n) (h2 : n ≤ 64) (ha : a < 18446744073709551616) (hb : b < 18446744073709551616) : Calls Tryz.prog 148 #[.int .i64 (n : Int), .int .u64 (a : Int), .int .u64 (b : Int)] w fun e w' => e = .returned (.int .u64 ((ashrN n a b : Nat) : Int)) ∧ Drawn w w' := by
  have HA := Lib.hid ha
  have HB := Lib.hid hb
  clear ha hb
  go_enter Tryz.func148, Tryz.ntmps148
  have CY := Lib.hid (ref01_by n b w h1 h2 HB.out)
  have HU : Hid (ashrN n a b = shiftN n a (byN n b : Int) (bitN a (n - 1))) := rfl
  have hyl := byN_le n b
  have e0 : Hid (min (b % 2 ^ n) 64 = byN n b) := rfl
  rw [e0.out] at CY
  have hbl := bitN_le a (n - 1)
  have CB := Lib.hid (fun W => ref01_Bit a (n - 1) W HA.out (by omega))
  generalize byN n b = y at *
  generalize bitN a (n - 1) = q at *
  have hn1 : IntKind.i64.wrap ((n : Int) - 1) = ((n - 1 : Nat) : Int) := by rw [IntWalk.i64_in _ (by omega)]; omega
  obtain ⟨k, rfl⟩ : ∃ k, n = k + 1 := ⟨n - 1, by omega⟩
  have CB2 : Hid (∀ W, Calls Tryz.prog 75 #[.int .u64 (a : Int), .int .i64 (k : Int)] W fun e w' => e = .returned (.int .u64 (q : Int)) ∧ Drawn W w') := CB.out
  clear hn1 CB
  go_wp2_with fail
  refine CY.out.mono ?_
  rintro e w1 ⟨rfl, d1⟩
  have D1 := Lib.hid d1
  clear d1
  go_wp2_with fail
  refine (ref01_W (k + 1) w1 h1 h2).mono ?_
  rintro e w2 ⟨rfl, d2⟩
  have D2 := Lib.hid (D1.out.trans d2)
  clear d2
  go_wp2_with fail
  refine (CB2.out w2).mono ?_
  rintro e w3 ⟨rfl, d3⟩
  have D3 := Lib.hid (D2.out.trans d3)
  clear d3
  have CS := Lib.hid (ref01_shift (k + 1) a (y : Int) q w3 h1 h2 HA.out (by omega) (by omega) hbl)
  go_wp2_with fail
  refine CS.out.mono ?_
  rintro e w4 ⟨rfl, d4⟩
  have D4 := Lib.hid (D3.out.trans d4)
  clear d4
  go_wp2_with fail
  go_ret
  exact ⟨ret_int (by rw [HU.out]), D4.out⟩
def sgnN (n a : Nat) : Int := if bitN a (n - 1) = 1 then -((2 ^ n - 1 - a % 2 ^ n : Nat) : Int) - 1 else ((a % 2 ^ n : Nat) : Int)
def sltN (n a b : Nat) : Nat := if sgnN n a < sgnN n b then 1 else 0
set_option maxRecDepth 20000 in
theorem ref01_Negative (n a : Nat) (w : World) (h1 : 1 ≤ n) (h2 : n ≤ 64) (ha : a < 18446744073709551616) : Calls Tryz.prog 157 #[.int .i64 (n : Int), .int .u64 (a : Int)] w fun e w' => e = .returned (.bool (decide (bitN a (n - 1) = 1))) ∧ Drawn w w' := by
  have HA := Lib.hid ha
  clear ha
  go_enter Tryz.func157, Tryz.ntmps157
  have hbl := bitN_le a (n - 1)
  have CB := Lib.hid (fun W => ref01_Bit a (n - 1) W HA.out (by omega))
  generalize bitN a (n - 1) = q at *
  obtain ⟨k, rfl⟩ : ∃ k, n = k + 1 := ⟨n - 1, by omega⟩
  have CB2 : Hid (∀ W, Calls Tryz.prog 75 #[.int .u64 (a : Int), .int .i64 (k : Int)] W fun e w' => e = .returned (.int .u64 (q : Int)) ∧ Drawn W w') := CB.out
  clear CB
  go_wp2_with fail
  refine (ref01_W (k + 1) w h1 h2).mono ?_
  rintro e w2 ⟨rfl, d2⟩
  have D2 := Lib.hid d2
  clear d2
  go_wp2_with fail
  refine (CB2.out w2).mono ?_
  rintro e w3 ⟨rfl, d3⟩
  have D3 := Lib.hid (D2.out.trans d3)
  clear d3
  rcases (show q = 0 ∨ q = 1 by omega) with rfl | rfl
  all_goals
    go_wp2_with fail
    go_ret
    exact ⟨rfl, D3.out⟩
set_option maxRecDepth 20000 in
theorem ref01_Signed (n a : Nat) (w : World) (h1 : 1 ≤ n) (h2 : n ≤ 64) (ha : a < 18446744073709551616) : Calls Tryz.prog 156 #[.int .i64 (n : Int), .int .u64 (a : Int)] w fun e w' => e = .returned (.int .i64 (sgnN n a)) ∧ Drawn w w' := by
  have HA := Lib.hid ha
  obtain ⟨k, rfl⟩ : ∃ k, n = k + 1 := ⟨n - 1, by omega⟩
  have hp := pow_le63 (show k ≤ 63 by omega)
  have hc := cut_succ a k
  have hm := Nat.mod_lt a (Nat.two_pow_pos k)
  have hbl := bitN_le a k
  have hp2 : 2 ^ (k + 1) = 2 ^ k * 2 := Nat.pow_succ 2 k
  have HU : Hid (sgnN (k + 1) a = if bitN a k = 1 then -((2 ^ (k + 1) - 1 - a % 2 ^ (k + 1) : Nat) : Int) - 1 else ((a % 2 ^ (k + 1) : Nat) : Int)) := rfl
  have HM : Hid (maskI ((k + 1 : Nat) : Int) = ((2 ^ (k + 1) - 1 : Nat) : Int)) := mask_int (k + 1)
  have HNEG := Lib.hid (fun W => ref01_Negative (k + 1) a W h1 h2 HA.out)
  have HCUT := Lib.hid (ref01_Cut (k + 1) a w h1 h2 HA.out)
  have e1 : Hid (k + 1 - 1 = k) := rfl
  rw [e1.out] at HNEG
  have HB1 : Hid (bitN a k = 1 → 2 ^ (k + 1) - 1 - a % 2 ^ (k + 1) ≤ 9223372036854775807 ∧ a % 2 ^ (k + 1) ≤ 2 ^ (k + 1) - 1 ∧ 2 ^ (k + 1) - 1 ≤ 18446744073709551615) := by
    show _ → _
    intro hb
    rw [hb] at hc
    omega
  have HB0 : Hid (bitN a k ≠ 1 → a % 2 ^ (k + 1) ≤ 9223372036854775807) := by
    show _ → _
    intro hb
    have h0 : bitN a k = 0 := by omega
    rw [h0] at hc
    omega
  clear ha hp hc hm hbl hp2
  go_enter Tryz.func156, Tryz.ntmps156
  generalize 2 ^ (k + 1) - 1 = M at *
  generalize a % 2 ^ (k + 1) = y at *
  go_wp2_with fail
  refine HCUT.out.mono ?_
  rintro e w1 ⟨rfl, d1⟩
  have D1 := Lib.hid d1
  clear d1
  go_wp2_with fail
  refine (HNEG.out w1).mono ?_
  rintro e w2 ⟨rfl, d2⟩
  have D2 := Lib.hid (D1.out.trans d2)
  clear d2
  by_cases hb : bitN a k = 1
  · obtain ⟨q1, q2, q3⟩ := HB1.out hb
    have HX : Hid (sgnN (k + 1) a = -((M - y : Nat) : Int) - 1) := by show _ = _; rw [HU.out, if_pos hb]
    rw [decide_eq_true hb]
    clear hb
    obtain ⟨z, hz⟩ : ∃ z, z = M - y := ⟨_, rfl⟩
    have hs : IntKind.u64.wrap ((M : Int) - (y : Int)) = (z : Int) := by rw [u64_wrap_id _ (by omega) (by omega)]; omega
    have hz1 : z ≤ 9223372036854775807 := by omega
    rw [← hz] at HX
    clear hz q1
    go_wp2_with fail
    refine (ref01_Mask ((k + 1 : Nat) : Int) w2 (by omega) (by omega)).mono ?_
    rintro e w3 ⟨rfl, d3⟩
    have D3 := Lib.hid (D2.out.trans d3)
    clear d3
    rw [HM.out]
    go_wp2_with fail
    go_ret
    exact ⟨ret_int (by rw [HX.out]), D3.out⟩
  · have q1 := HB0.out hb
    have HX : Hid (sgnN (k + 1) a = (y : Int)) := by show _ = _; rw [HU.out, if_neg hb]
    rw [decide_eq_false hb]
    clear hb
    go_wp2_with fail
    go_ret
    exact ⟨ret_int (by rw [HX.out]), D2.out⟩
set_option maxRecDepth 20000 in
theorem ref01_Slt (n a b : Nat) (w : World) (h1 : 1 ≤ n) (h2 : n ≤ 64) (ha : a < 18446744073709551616) (hb : b < 18446744073709551616) : Calls Tryz.prog 151 #[.int .i64 (n : Int), .int .u64 (a : Int), .int .u64 (b : Int)] w fun e w' => e = .returned (.int .u64 ((sltN n a b : Nat) : Int)) ∧ Drawn w w' := by
  have HA := Lib.hid ha
  have HB := Lib.hid hb
  clear ha hb
  go_enter Tryz.func151, Tryz.ntmps151
  have C1 := Lib.hid (ref01_Signed n a w h1 h2 HA.out)
  have C2 := Lib.hid (fun W => ref01_Signed n b W h1 h2 HB.out)
  have HU : Hid (sltN n a b = if sgnN n a < sgnN n b then 1 else 0) := rfl
  generalize sgnN n a = x at *
  generalize sgnN n b = y at *
  go_wp2_with fail
  refine C1.out.mono ?_
  rintro e w1 ⟨rfl, d1⟩
  have D1 := Lib.hid d1
  clear d1
  go_wp2_with fail
  refine (C2.out w1).mono ?_
  rintro e w2 ⟨rfl, d2⟩
  have D2 := Lib.hid (D1.out.trans d2)
  clear d2
  by_cases h : x < y
  · have HX : Hid (sltN n a b = 1) := by show _ = _; rw [HU.out, if_pos h]
    go_wp2_with fail
    refine (ref01_truth true w2).mono ?_
    rintro e w3 ⟨rfl, d3⟩
    have D3 := Lib.hid (D2.out.trans d3)
    clear d3
    go_wp2_with fail
    go_ret
    exact ⟨ret_int (by rw [HX.out]; rfl), D3.out⟩
  · have HX : Hid (sltN n a b = 0) := by show _ = _; rw [HU.out, if_neg h]
    have h' : decide (x < y) = false := decide_eq_false h
    clear h
    go_wp2_with fail
    refine (ref01_truth false w2).mono ?_
    rintro e w3 ⟨rfl, d3⟩
    have D3 := Lib.hid (D2.out.trans d3)
    clear d3
    go_wp2_with fail
    go_ret
    exact ⟨ret_int (by rw [HX.out]; rfl), D3.out⟩
end Go.Proofs.Sat
/- The walk of the reference's value. -/
namespace Go.Proofs.Sat
open Go Go.RowKit
/-- What an operation computes. -/
def valN (op : Int) (n a b : Nat) : Nat :=
  if op = 2 then a else if op = 3 then notN n a else if op = 4 then negN n a else if op = 5 then andN n a b else if op = 6 then orN n a b else if op = 7 then xorN n a b else if op = 8 then addN n a b else if op = 9 then subN n a b else if op = 10 then mulN n a b
  else if op = 11 then udivN n a b else if op = 12 then uremN n a b else if op = 13 then shlN n a b else if op = 14 then lshrN n a b else if op = 15 then ashrN n a b else if op = 16 then eqN n a b else if op = 17 then ultN n a b else sltN n a b
end Go.Proofs.Sat
