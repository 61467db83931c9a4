/- strconv.ParseUint at base 16, where every byte is a digit. -/
import Derived.Test.YtiepphjpfjfkmaaDoorDgB2
import Derived.Lib.ConvBytes
import Derived.Lib.AtoiErrMem
set_option linter.unusedVariables false
set_option linter.unusedSimpArgs false
namespace Go.Proofs.Sat
open Go Go.RowKit
theorem lower_af (c : Nat) (h : 97 ≤ c ∧ c ≤ 102) (w : World) : Calls Tryd.prog 88 #[.int .u8 (c : Int)] w fun e w' => e = .returned (.int .u8 (c : Int)) ∧ w' = w := by
  have hb : bits .or .u8 (c : Int) 32 = (c : Int) := by
    rcases (show c = 97 ∨ c = 98 ∨ c = 99 ∨ c = 100 ∨ c = 101 ∨ c = 102 by omega) with rfl | rfl | rfl | rfl | rfl | rfl <;> decide
  clear h
  go_enter Tryd.func88, Tryd.ntmps88
  go_wp2_with fail
  go_ret
  exact ⟨rfl, rfl⟩
theorem valL_append_le (b : Nat) (hb : 1 ≤ b) (l m : List UInt8) : valL b l ≤ valL b (l ++ m) := by
  induction m generalizing l with
  | nil => simp
  | cons c m ih =>
    have h1 := ih (l ++ [c])
    rw [valL_snoc, List.append_assoc] at h1
    have h2 := Nat.mul_le_mul hb (Nat.le_refl (valL b l))
    simp only [List.singleton_append] at h1
    omega
theorem valL_take_le (b : Nat) (hb : 1 ≤ b) (l : List UInt8) (k : Nat) : valL b (l.take k) ≤ valL b l := by
  have := valL_append_le b hb (l.take k) (l.drop k)
  rwa [List.take_append_drop] at this
def pu16 (l : List UInt8) : Value := if valL 16 l < 18446744073709551616 then .tuple #[.int .u64 (valL 16 l : Int), .nilIface] else .tuple #[.int .u64 18446744073709551615, .iface 123 (.int .i64 1)]
set_option maxRecDepth 100000 in
set_option maxHeartbeats 4000000 in
theorem inner_ParseUint16 (l : List UInt8) (hne : l ≠ []) (hl : l.length ≤ 1099511627776) (hd : ∀ c ∈ l, 0 ≤ digI 16 c.toNat) (w : World) :
    Calls Tryd.prog 77 #[.string (strOf l), .int .i64 16, .int .i64 64] w fun e w' => e = .returned (pu16 l) ∧ Below w.heap.size w w' := by
  have hemp : (strOf l).toList.isEmpty = false := by rw [toList_strOf]; cases l <;> simp_all
  have hcv := Lib.run_convert_string_bytes (P := Tryd.prog) w 9 33 5 (strOf l) (u := .string) Tryd.underlying9 Tryd.underlying33 Tryd.underlying5
  have hB : ∀ j (hj : j < l.length), (Lib.bytesWorld w 5 (strOf l)).cell? ⟨w.heap.size, j, none⟩ = some (.int .u8 (l[j].toNat : Int)) := fun j hj => by
    have := Lib.bytesWorld_cell w 5 (strOf l) j (by rw [strOf_size]; exact hj)
    rw [this]
    simp [strOf, hj]
  have hbl := Lib.bytesWorld_below w 5 (strOf l)
  rw [strOf_size] at hcv
  obtain ⟨W1, hW1⟩ : ∃ W1, W1 = Lib.bytesWorld w 5 (strOf l) := ⟨_, rfl⟩
  rw [← hW1] at hcv hB hbl
  have HBL := Lib.hid hbl
  have HB := Lib.hid hB
  have HD := Lib.hid hd
  obtain ⟨n, hn⟩ : ∃ n, n = l.length := ⟨_, rfl⟩
  rw [← hn] at hcv hl
  have HN := Lib.hid hn
  have hmv : IntKind.u64.wrap (IntKind.u64.wrap 18446744073709551616 - 1) = 18446744073709551615 := by
    rw [IntKind.wrap_u64, IntKind.wrap_u64]
    decide
  clear hbl hB hd hW1 hne hn
  go_enter Tryd.func77, Tryd.ntmps77
  go_wp2_with fail
  go_loopw [12, 13, 101] (fun vu vn vi wr => ∃ (k : Nat) (a : Int), vu = .bool false ∧ vn = .int .u64 a ∧ vi = .int .i64 k ∧ k ≤ n ∧ Hid (a = (valL 16 (l.take k) : Int)) ∧ Hid (a < 18446744073709551616) ∧ wr = W1)
    (fun _ _ vi _ => n - (intOf vi).toNat)
  case atStart => exact ⟨0, 0, rfl, rfl, rfl, by omega, by show _ = _; rw [List.take_zero]; rfl, by show _ < _; decide, rfl⟩
  case round =>
    obtain ⟨k, a, rfl, rfl, rfl, hk, HA, HLT, rfl⟩ := hrel
    by_cases hkn : k < n
    · have hkl : k < l.length := by have := HN.out; omega
      have hc := HB.out k hkl
      have hd := HD.out _ (List.getElem_mem hkl)
      have HV : Hid (valL 16 (l.take (k + 1)) = 16 * valL 16 (l.take k) + (digI 16 (l[k]'hkl).toNat).toNat) := by show _ = _; rw [List.take_succ_eq_append_getElem hkl, valL_snoc]
      have hc256 : (l[k]'hkl).toNat < 256 := UInt8.toNat_lt _
      generalize (l[k]'hkl).toNat = c at *
      obtain ⟨d, hdd⟩ : ∃ d, d = (digI 16 c).toNat := ⟨_, rfl⟩
      have hdc : (48 ≤ c ∧ c ≤ 57 ∧ d + 48 = c) ∨ (97 ≤ c ∧ c ≤ 102 ∧ d + 87 = c) := by
        unfold digI at hd hdd
        split at hd
        · rename_i h; rw [if_pos h] at hdd; left; omega
        · rename_i h
          rw [if_neg h] at hdd
          split at hd
          · rename_i h2; rw [if_pos h2] at hdd; right; omega
          · omega
      rw [← hdd] at HV
      have hd16 : d < 16 := by omega
      clear hkl hd hdd
      have ha0 : 0 ≤ a := by rw [HA.out]; exact Int.natCast_nonneg _
      by_cases hcut : 1152921504606846976 ≤ a
      · have HE : Hid (pu16 l = .tuple #[.int .u64 18446744073709551615, .iface 123 (.int .i64 1)]) := by
          show _ = _
          unfold pu16
          rw [if_neg]
          have h1 := valL_take_le 16 (by omega) l (k + 1)
          have h2 := HV.out
          have h3 := HA.out
          omega
        have t9 : decide (1152921504606846976 ≤ a) = true := decide_eq_true hcut
        clear HV HLT HA hcut
        rcases hdc with ⟨h1, h2, h3⟩ | ⟨h1, h2, h3⟩
        · have t1 : decide ((48 : Int) ≤ (c : Int)) = true := decide_eq_true (by omega)
          have t2 : decide ((c : Int) ≤ (57 : Int)) = true := decide_eq_true (by omega)
          have hw : IntKind.u8.wrap ((c : Int) - 48) = (d : Int) := by rw [IntKind.wrap_u8]; omega
          have t3 : decide ((16 : Int) ≤ (d : Int)) = false := decide_eq_false (by omega)
          have t0 : ((c : Int) == 95) = false := by rw [beq_eq_false_iff_ne]; omega
          clear h1 h2 h3 hc256 ha0
          go_wp2_with fail
          go_ret2
          exact ⟨by rw [HE.out]; rfl, HBL.out⟩
        · have t1 : decide ((48 : Int) ≤ (c : Int)) = true := decide_eq_true (by omega)
          have t2 : decide ((c : Int) ≤ (57 : Int)) = false := decide_eq_false (by omega)
          have CL := Lib.hid (fun W => lower_af c ⟨h1, h2⟩ W)
          have t4 : decide ((97 : Int) ≤ (c : Int)) = true := decide_eq_true (by omega)
          have t5 : decide ((c : Int) ≤ (122 : Int)) = true := decide_eq_true (by omega)
          have hw0 : IntKind.u8.wrap ((c : Int) - 97) = (c : Int) - 97 := by rw [IntKind.wrap_u8]; omega
          have hw : IntKind.u8.wrap ((c : Int) - 97 + 10) = (d : Int) := by rw [IntKind.wrap_u8]; omega
          have t3 : decide ((16 : Int) ≤ (d : Int)) = false := decide_eq_false (by omega)
          have t0 : ((c : Int) == 95) = false := by rw [beq_eq_false_iff_ne]; omega
          clear h1 h2 h3 hc256 ha0
          go_wp2_with (first | (go_at_call 88; refine (CL.out _).mono ?_; rintro e w5 ⟨rfl, rfl⟩) | fail)
          go_ret2
          exact ⟨by rw [HE.out]; rfl, HBL.out⟩
      · have t9 : decide (1152921504606846976 ≤ a) = false := decide_eq_false hcut
        obtain ⟨a1, ha1⟩ : ∃ a1, a1 = a * 16 := ⟨_, rfl⟩
        obtain ⟨a2, ha2⟩ : ∃ a2, a2 = a1 + (d : Int) := ⟨_, rfl⟩
        have hw1 : IntKind.u64.wrap (a * 16) = a1 := by rw [IntKind.wrap_u64]; omega
        have hw2 : IntKind.u64.wrap (a1 + (d : Int)) = a2 := by rw [IntKind.wrap_u64]; omega
        have hwd : IntKind.u64.wrap (d : Int) = (d : Int) := by rw [IntKind.wrap_u64]; omega
        have t6 : decide (a2 < a1) = false := decide_eq_false (by omega)
        have t7 : decide (18446744073709551615 < a2) = false := decide_eq_false (by omega)
        have HA2 : Hid (a2 = (valL 16 (l.take (k + 1)) : Int)) := by show _ = _; have h2 := HV.out; have h3 := HA.out; omega
        have HLT2 : Hid (a2 < 18446744073709551616) := by show _ < _; omega
        clear HV HLT HA hcut ha1 ha2 ha0
        rcases hdc with ⟨h1, h2, h3⟩ | ⟨h1, h2, h3⟩
        · have t1 : decide ((48 : Int) ≤ (c : Int)) = true := decide_eq_true (by omega)
          have t2 : decide ((c : Int) ≤ (57 : Int)) = true := decide_eq_true (by omega)
          have hw : IntKind.u8.wrap ((c : Int) - 48) = (d : Int) := by rw [IntKind.wrap_u8]; omega
          have t3 : decide ((16 : Int) ≤ (d : Int)) = false := decide_eq_false (by omega)
          have t0 : ((c : Int) == 95) = false := by rw [beq_eq_false_iff_ne]; omega
          clear h1 h2 h3 hc256
          go_wp2_with fail
          go_roundw
          case rel => exact ⟨k + 1, a2, rfl, rfl, by go_num, by omega, HA2.out, HLT2.out, trivial⟩
          case measure => simp [intOf]; omega
        · have t1 : decide ((48 : Int) ≤ (c : Int)) = true := decide_eq_true (by omega)
          have t2 : decide ((c : Int) ≤ (57 : Int)) = false := decide_eq_false (by omega)
          have CL := Lib.hid (fun W => lower_af c ⟨h1, h2⟩ W)
          have t4 : decide ((97 : Int) ≤ (c : Int)) = true := decide_eq_true (by omega)
          have t5 : decide ((c : Int) ≤ (122 : Int)) = true := decide_eq_true (by omega)
          have hw0 : IntKind.u8.wrap ((c : Int) - 97) = (c : Int) - 97 := by rw [IntKind.wrap_u8]; omega
          have hw : IntKind.u8.wrap ((c : Int) - 97 + 10) = (d : Int) := by rw [IntKind.wrap_u8]; omega
          have t3 : decide ((16 : Int) ≤ (d : Int)) = false := decide_eq_false (by omega)
          have t0 : ((c : Int) == 95) = false := by rw [beq_eq_false_iff_ne]; omega
          clear h1 h2 h3 hc256
          go_wp2_with (first | (go_at_call 88; refine (CL.out _).mono ?_; rintro e w5 ⟨rfl, rfl⟩) | fail)
          go_roundw
          case rel => exact ⟨k + 1, a2, rfl, rfl, by go_num, by omega, HA2.out, HLT2.out, trivial⟩
          case measure => simp [intOf]; omega
    · have hnl : ¬ ((k : Int) < (n : Int)) := by omega
      have HE : Hid (pu16 l = .tuple #[.int .u64 a, .nilIface]) := by
        show _ = _
        have h1 : l.take k = l := List.take_of_length_le (by have := HN.out; omega)
        have h2 := HA.out
        have h3 := HLT.out
        rw [h1] at h2
        unfold pu16
        rw [if_pos (by omega), h2]
      clear hkn
      go_wp2_with fail
      go_ret2
      exact ⟨by rw [HE.out]; rfl, HBL.out⟩
end Go.Proofs.Sat
