/- The reference of ch. 02: write. -/
import Derived.Test.YtiepphjpfjfkmaaGreatDoorShelf2
import Derived.Test.YtiepphjpfjfkmaaGreatDoorOps2
import Derived.BigQuiet
import Derived.Laws.DeepStrings4
import Derived.Lib.Hide
import Derived.Lib.ItoaNum
import Derived.IntWalk
set_option linter.unusedVariables false
set_option linter.unusedSimpArgs false
namespace Go.Proofs.Sat
open Go Go.RowKit
def strOf (l : List UInt8) : ByteArray := ⟨l.toArray⟩
theorem strOf_size (l : List UInt8) : (strOf l).size = l.length := by simp [strOf, ByteArray.size]
theorem strOf_append (l m : List UInt8) : strOf l ++ strOf m = strOf (l ++ m) := by
  unfold strOf
  rw [← List.append_toArray]
  apply ByteArray.ext
  simp
def digC (d : Nat) : UInt8 := if d < 10 then UInt8.ofNat (48 + d) else UInt8.ofNat (87 + d)
def wrL (b x : Nat) : List UInt8 := if h : x < b ∨ b < 2 then [digC x] else wrL b (x / b) ++ [digC (x % b)]
termination_by x
decreasing_by exact Nat.div_lt_self (by omega) (by omega)
theorem wrL_small {b x : Nat} (h : x < b) : wrL b x = [digC x] := by rw [wrL, dif_pos (.inl h)]
theorem wrL_big {b x : Nat} (hb : 2 ≤ b) (h : b ≤ x) : wrL b x = wrL b (x / b) ++ [digC (x % b)] := by rw [wrL, dif_neg (by omega)]
theorem wrL_length {b : Nat} (hb : 2 ≤ b) : ∀ (k x : Nat), x < 2 ^ k → (wrL b x).length ≤ k + 1
  | 0, x, h => by
    have : x = 0 := by simpa using h
    rw [wrL_small (by omega)]
    simp
  | k + 1, x, h => by
    by_cases hx : x < b
    · rw [wrL_small hx]; simp
    · rw [wrL_big hb (by omega), List.length_append]
      have h1 : x / b < 2 ^ k := by
        rw [Nat.div_lt_iff_lt_mul (by omega)]
        have h2 : 2 ^ k * 2 ≤ 2 ^ k * b := Nat.mul_le_mul (Nat.le_refl _) hb
        rw [Nat.pow_succ] at h
        omega
      have := wrL_length hb k (x / b) h1
      simp
      omega
abbrev hexS : ByteArray := { data := #[48, 49, 50, 51, 52, 53, 54, 55, 56, 57, 97, 98, 99, 100, 101, 102] }
theorem hex_at {d : Nat} (h : d < 16) : hexS.extract d (d + 1) = strOf [digC d] := by
  rcases (show d = 0 ∨ d = 1 ∨ d = 2 ∨ d = 3 ∨ d = 4 ∨ d = 5 ∨ d = 6 ∨ d = 7 ∨ d = 8 ∨ d = 9 ∨ d = 10 ∨ d = 11 ∨ d = 12 ∨ d = 13 ∨ d = 14 ∨ d = 15 by omega) with rfl | rfl | rfl | rfl | rfl | rfl | rfl | rfl | rfl | rfl | rfl | rfl | rfl | rfl | rfl | rfl <;> decide +kernel
set_option maxRecDepth 20000 in
set_option maxHeartbeats 1000000 in
theorem ref02_write10 (x : Nat) (w : World) (hx : x < 18446744073709551616) : Calls Tryz.prog 92 #[.int .u64 (x : Int), .int .u64 10] w fun e w' => e = .returned (.string (strOf (wrL 10 x))) ∧ Drawn w w' := by
  have hlen := wrL_length (b := 10) (by omega) 64 x (by simpa using hx)
  obtain ⟨d, hd⟩ : ∃ d : Nat, d = x % 10 := ⟨_, rfl⟩
  obtain ⟨a, ha⟩ : ∃ a : Int, a = (x : Int) := ⟨_, rfl⟩
  have hrem : a.tmod 10 = (d : Int) := by rw [Int.tmod_eq_emod_of_nonneg (by omega)]; omega
  have hd1 : IntKind.u64.wrap ((d : Int) + 1) = (d : Int) + 1 := by rw [IntKind.wrap_u64]; omega
  have hd10 : d < 16 := by omega
  have hext := hex_at hd10
  rw [← ha]
  have HA := Lib.hid ha
  have HX := Lib.hid hx
  have HD := Lib.hid hd
  have HLEN := Lib.hid hlen
  clear ha hx hd hlen
  go_enter Tryz.func92, Tryz.ntmps92
  go_wp2_with fail
  go_quiet (fail)
  go_wp2_with fail
  have H0 : Hid ((if x < 10 then [] else wrL 10 (x / 10)) ++ [digC d] = wrL 10 x) := by
    show _ = _
    have hd := HD.out
    by_cases h : x < 10
    · rw [if_pos h, wrL_small h, hd, Nat.mod_eq_of_lt h]; rfl
    · rw [if_neg h, wrL_big (b := 10) (x := x) (by omega) (by omega), hd]
  clear hrem hd1 hext
  go_loopw [0, 5] (fun xs ss wr => ∃ (y : Nat) (c : Int) (l : List UInt8), xs = .int .u64 c ∧ ss = .string (strOf l) ∧ Hid (c = (y : Int)) ∧ Hid (y ≤ x) ∧ Hid ((if y < 10 then [] else wrL 10 (y / 10)) ++ l = wrL 10 x) ∧ Hid (Drawn w wr)) (fun xs _ _ => (intOf xs).toNat)
  case atStart => exact ⟨x, a, [digC d], rfl, rfl, HA.out, Nat.le_refl _, H0.out, Drawn.of _ _⟩
  case round =>
    obtain ⟨y, c, l, rfl, rfl, HC, HY, HL, HDR⟩ := hrel
    by_cases h10 : 10 ≤ c
    · have t0 : decide (10 ≤ c) = true := decide_eq_true h10
      have HY10 : Hid (10 ≤ y) := by show _ ≤ _; have := HC.out; omega
      obtain ⟨q, hq⟩ : ∃ q : Nat, q = y / 10 := ⟨_, rfl⟩
      obtain ⟨e, he⟩ : ∃ e : Nat, e = q % 10 := ⟨_, rfl⟩
      obtain ⟨c2, hc2⟩ : ∃ c2 : Int, c2 = (q : Int) := ⟨_, rfl⟩
      have hquo : c.tdiv 10 = c2 := by rw [Int.tdiv_eq_ediv_of_nonneg (by omega), HC.out, hc2, hq]; omega
      have hwc : IntKind.u64.wrap c2 = c2 := by rw [IntKind.wrap_u64]; have := HX.out; have := HY.out; omega
      have hrem : c2.tmod 10 = (e : Int) := by rw [Int.tmod_eq_emod_of_nonneg (by omega)]; omega
      have hd1 : IntKind.u64.wrap ((e : Int) + 1) = (e : Int) + 1 := by rw [IntKind.wrap_u64]; omega
      have he16 : e < 16 := by omega
      have hext := hex_at he16
      have HL2 : Hid ((if q < 10 then [] else wrL 10 (q / 10)) ++ (digC e :: l) = wrL 10 x) := by
        show _ = _
        have h1 := HL.out
        have h2 := HY10.out
        rw [if_neg (by omega), ← hq] at h1
        rw [← h1]
        by_cases h : q < 10
        · rw [if_pos h, wrL_small h, he, Nat.mod_eq_of_lt h]; rfl
        · rw [if_neg h, wrL_big (b := 10) (x := q) (by omega) (by omega), he, List.append_assoc]; rfl
      have hll : l.length ≤ 65 := by
        have h1 := congrArg List.length HL.out
        rw [List.length_append] at h1
        have := HLEN.out
        omega
      have hsm : ∀ W : World, (Op.stringOp .add (strOf [digC e]) (strOf l)).run Tryz.prog W = .ok (.string (strOf (digC e :: l))) W := fun W => by
        rw [run_string_add_sum W _ _ (by rw [strOf_size, strOf_size]; simp; omega), strOf_append]; rfl
      have HQ := Lib.hid hq
      have HC2 := Lib.hid hc2
      have hmeas : c2.toNat < c.toNat := by have := HC.out; have := HY10.out; omega
      have HYQ : Hid (q ≤ x) := by show _ ≤ _; have := HY.out; omega
      clear hq he hc2 h10
      go_wp2_with fail
      go_quiet (fail)
      go_wp2_with fail
      go_roundw
      case rel => exact ⟨q, c2, digC e :: l, rfl, rfl, HC2.out, HYQ.out, HL2.out, HDR.out.trans (Drawn.of _ _)⟩
      case measure => simp [intOf]; omega
    · have t0 : decide (10 ≤ c) = false := decide_eq_false h10
      have HE : Hid (l = wrL 10 x) := by
        show _ = _
        have h1 := HL.out
        rw [if_pos (by have := HC.out; omega)] at h1
        exact h1
      clear h10
      go_wp2_with fail
      go_ret
      exact ⟨by rw [HE.out]; rfl, HDR.out⟩
set_option maxRecDepth 20000 in
set_option maxHeartbeats 1000000 in
theorem ref02_write16 (x : Nat) (w : World) (hx : x < 18446744073709551616) : Calls Tryz.prog 92 #[.int .u64 (x : Int), .int .u64 16] w fun e w' => e = .returned (.string (strOf (wrL 16 x))) ∧ Drawn w w' := by
  have hlen := wrL_length (b := 16) (by omega) 64 x (by simpa using hx)
  obtain ⟨d, hd⟩ : ∃ d : Nat, d = x % 16 := ⟨_, rfl⟩
  obtain ⟨a, ha⟩ : ∃ a : Int, a = (x : Int) := ⟨_, rfl⟩
  have hrem : a.tmod 16 = (d : Int) := by rw [Int.tmod_eq_emod_of_nonneg (by omega)]; omega
  have hd1 : IntKind.u64.wrap ((d : Int) + 1) = (d : Int) + 1 := by rw [IntKind.wrap_u64]; omega
  have hd10 : d < 16 := by omega
  have hext := hex_at hd10
  rw [← ha]
  have HA := Lib.hid ha
  have HX := Lib.hid hx
  have HD := Lib.hid hd
  have HLEN := Lib.hid hlen
  clear ha hx hd hlen
  go_enter Tryz.func92, Tryz.ntmps92
  go_wp2_with fail
  go_quiet (fail)
  go_wp2_with fail
  have H0 : Hid ((if x < 16 then [] else wrL 16 (x / 16)) ++ [digC d] = wrL 16 x) := by
    show _ = _
    have hd := HD.out
    by_cases h : x < 16
    · rw [if_pos h, wrL_small h, hd, Nat.mod_eq_of_lt h]; rfl
    · rw [if_neg h, wrL_big (b := 16) (x := x) (by omega) (by omega), hd]
  clear hrem hd1 hext
  go_loopw [0, 5] (fun xs ss wr => ∃ (y : Nat) (c : Int) (l : List UInt8), xs = .int .u64 c ∧ ss = .string (strOf l) ∧ Hid (c = (y : Int)) ∧ Hid (y ≤ x) ∧ Hid ((if y < 16 then [] else wrL 16 (y / 16)) ++ l = wrL 16 x) ∧ Hid (Drawn w wr)) (fun xs _ _ => (intOf xs).toNat)
  case atStart => exact ⟨x, a, [digC d], rfl, rfl, HA.out, Nat.le_refl _, H0.out, Drawn.of _ _⟩
  case round =>
    obtain ⟨y, c, l, rfl, rfl, HC, HY, HL, HDR⟩ := hrel
    by_cases h10 : 16 ≤ c
    · have t0 : decide (16 ≤ c) = true := decide_eq_true h10
      have HY10 : Hid (16 ≤ y) := by show _ ≤ _; have := HC.out; omega
      obtain ⟨q, hq⟩ : ∃ q : Nat, q = y / 16 := ⟨_, rfl⟩
      obtain ⟨e, he⟩ : ∃ e : Nat, e = q % 16 := ⟨_, rfl⟩
      obtain ⟨c2, hc2⟩ : ∃ c2 : Int, c2 = (q : Int) := ⟨_, rfl⟩
      have hquo : c.tdiv 16 = c2 := by rw [Int.tdiv_eq_ediv_of_nonneg (by omega), HC.out, hc2, hq]; omega
      have hwc : IntKind.u64.wrap c2 = c2 := by rw [IntKind.wrap_u64]; have := HX.out; have := HY.out; omega
      have hrem : c2.tmod 16 = (e : Int) := by rw [Int.tmod_eq_emod_of_nonneg (by omega)]; omega
      have hd1 : IntKind.u64.wrap ((e : Int) + 1) = (e : Int) + 1 := by rw [IntKind.wrap_u64]; omega
      have he16 : e < 16 := by omega
      have hext := hex_at he16
      have HL2 : Hid ((if q < 16 then [] else wrL 16 (q / 16)) ++ (digC e :: l) = wrL 16 x) := by
        show _ = _
        have h1 := HL.out
        have h2 := HY10.out
        rw [if_neg (by omega), ← hq] at h1
        rw [← h1]
        by_cases h : q < 16
        · rw [if_pos h, wrL_small h, he, Nat.mod_eq_of_lt h]; rfl
        · rw [if_neg h, wrL_big (b := 16) (x := q) (by omega) (by omega), he, List.append_assoc]; rfl
      have hll : l.length ≤ 65 := by
        have h1 := congrArg List.length HL.out
        rw [List.length_append] at h1
        have := HLEN.out
        omega
      have hsm : ∀ W : World, (Op.stringOp .add (strOf [digC e]) (strOf l)).run Tryz.prog W = .ok (.string (strOf (digC e :: l))) W := fun W => by
        rw [run_string_add_sum W _ _ (by rw [strOf_size, strOf_size]; simp; omega), strOf_append]; rfl
      have HQ := Lib.hid hq
      have HC2 := Lib.hid hc2
      have hmeas : c2.toNat < c.toNat := by have := HC.out; have := HY10.out; omega
      have HYQ : Hid (q ≤ x) := by show _ ≤ _; have := HY.out; omega
      clear hq he hc2 h10
      go_wp2_with fail
      go_quiet (fail)
      go_wp2_with fail
      go_roundw
      case rel => exact ⟨q, c2, digC e :: l, rfl, rfl, HC2.out, HYQ.out, HL2.out, HDR.out.trans (Drawn.of _ _)⟩
      case measure => simp [intOf]; omega
    · have t0 : decide (16 ≤ c) = false := decide_eq_false h10
      have HE : Hid (l = wrL 16 x) := by
        show _ = _
        have h1 := HL.out
        rw [if_pos (by have := HC.out; omega)] at h1
        exact h1
      clear h10
      go_wp2_with fail
      go_ret
      exact ⟨by rw [HE.out]; rfl, HDR.out⟩
theorem ret_str {a b : ByteArray} (h : a = b) : Ending.returned (.string a) = .returned (.string b) := by rw [h]
theorem ref02_Dec (x : Nat) (w : World) (hx : x < 18446744073709551616) : Calls Tryz.prog 76 #[.int .u64 (x : Int)] w fun e w' => e = .returned (.string (strOf (wrL 10 x))) ∧ Drawn w w' := by
  have C := Lib.hid (ref02_write10 x w hx)
  obtain ⟨a, ha⟩ : ∃ a : Int, a = (x : Int) := ⟨_, rfl⟩
  rw [← ha] at C
  rw [← ha]
  clear ha hx
  generalize wrL 10 x = l at *
  go_enter Tryz.func76, Tryz.ntmps76
  go_wp2_with fail
  refine C.out.mono ?_
  rintro e w1 ⟨rfl, d1⟩
  have D1 := Lib.hid d1
  clear d1
  go_wp2_with fail
  go_ret
  exact ⟨rfl, D1.out⟩
/-- A hexadecimal numeral. -/
def hexL (x : Nat) : List UInt8 := 48 :: 120 :: wrL 16 x
theorem wr_len64 {b x : Nat} (hb : 2 ≤ b) (hx : x < 18446744073709551616) : (wrL b x).length ≤ 65 := wrL_length hb 64 x (by simpa using hx)
theorem dec_eq (u : Nat) : Lib.decDigits u = wrL 10 u := by
  induction u using Nat.strongRecOn with
  | _ u ih =>
    rw [Lib.decDigits]
    by_cases h : u < 10
    · rw [dif_pos h, wrL_small h]
      unfold digC
      rw [if_pos h]
    · rw [dif_neg h, wrL_big (by omega) (by omega), ih (u / 10) (by omega)]
      unfold digC
      rw [if_pos (by omega)]
theorem ref02_Int (n : Int) (w : World) (h0 : -9223372036854775808 ≤ n) (h1 : n ≤ 9223372036854775807) : Calls Tryz.prog 52 #[.int .i64 n] w fun e w' => e = .returned (.string (strOf (Lib.itoa n))) ∧ Drawn w w' := by
  by_cases hn : 0 ≤ n
  · have HE : Hid (Lib.itoa n = wrL 10 n.toNat) := by show _ = _; unfold Lib.itoa; rw [if_neg (by omega), dec_eq]
    have C := ref02_Dec n.toNat w (by omega)
    rw [Int.toNat_of_nonneg hn] at C
    rw [HE.out]
    replace C := Lib.hid C
    generalize wrL 10 n.toNat = l at *
    have hw : IntKind.u64.wrap n = n := by rw [IntKind.wrap_u64]; omega
    have t0 : decide (0 ≤ n) = true := decide_eq_true hn
    clear h0 h1
    go_enter Tryz.func52, Tryz.ntmps52
    go_wp2_with fail
    refine C.out.mono ?_
    rintro e w1 ⟨rfl, d1⟩
    have D1 := Lib.hid d1
    clear d1
    go_wp2_with fail
    go_ret
    exact ⟨rfl, D1.out⟩
  · have HE : Hid (Lib.itoa n = [45] ++ wrL 10 n.natAbs) := by show _ = _; unfold Lib.itoa; rw [if_pos (by omega), dec_eq]; rfl
    have C := ref02_Dec n.natAbs w (by omega)
    have hl := wr_len64 (b := 10) (x := n.natAbs) (by omega) (by omega)
    obtain ⟨m, hm⟩ : ∃ m : Int, m = -n := ⟨_, rfl⟩
    rw [show ((n.natAbs : Nat) : Int) = m by omega] at C
    rw [HE.out]
    replace C := Lib.hid C
    generalize wrL 10 n.natAbs = l at *
    have hw1 : IntKind.i64.wrap (n + 1) = n + 1 := IntWalk.i64_in _ (by omega)
    have hw2 : IntKind.i64.wrap (-(n + 1)) = -(n + 1) := IntWalk.i64_in _ (by omega)
    have hw3 : IntKind.u64.wrap (-(n + 1)) = -(n + 1) := by rw [IntKind.wrap_u64]; omega
    have hw4 : IntKind.u64.wrap (-(n + 1) + 1) = m := by rw [IntKind.wrap_u64]; omega
    have t0 : decide (0 ≤ n) = false := decide_eq_false hn
    have hsm : ∀ W : World, (Op.stringOp .add { data := #[45] } (strOf l)).run Tryz.prog W = .ok (.string (strOf ([45] ++ l))) W := fun W => by
      rw [run_string_add_sum W _ _ (by rw [strOf_size]; show 1 + _ ≤ _; omega)]
      exact congrArg (fun s => Result.ok (Value.string s) W) (strOf_append [45] l)
    clear h0 h1 hm
    go_enter Tryz.func52, Tryz.ntmps52
    go_wp2_with fail
    refine C.out.mono ?_
    rintro e w1 ⟨rfl, d1⟩
    have D1 := Lib.hid d1
    clear d1
    go_wp2_with fail
    go_ret
    exact ⟨rfl, D1.out⟩
end Go.Proofs.Sat
