/- The reference of ch. 02: Parse and ParseInt. -/
import Derived.Test.YtiepphjpfjfkmaaDoorDgB2
import Derived.Laws.Strings2
import Derived.Lib.Strings
set_option linter.unusedVariables false
set_option linter.unusedSimpArgs false
namespace Go.Proofs.Sat
open Go Go.RowKit
theorem strOf_extract (l : List UInt8) (a b : Nat) : (strOf l).extract a b = strOf ((l.drop a).take (b - a)) := ByteArray.extract_mk l a b
theorem ret_ii {k k' : IntKind} {a a' b b' : Int} (h1 : a = a') (h2 : b = b') : Ending.returned (.tuple #[.int k a, .int k' b]) = .returned (.tuple #[.int k a', .int k' b']) := by rw [h1, h2]
theorem str_to (t : TypeId) (ht : Tryd.prog.underlying t = some .string) (l : List UInt8) (k : Nat) (hk : k ≤ l.length) (W : World) : (Instr.slice t (.string (strOf l)) none (some (.int .i64 (k : Int))) none).run Tryd.prog W = .ok (.string (strOf (l.take k))) W := by
  rw [run_slice_string_to_if W t _ _ _ ht, if_pos (by rw [strOf_size]; omega), strOf_extract]
  simp
theorem str_from (t : TypeId) (ht : Tryd.prog.underlying t = some .string) (l : List UInt8) (k : Nat) (hk : k ≤ l.length) (W : World) : (Instr.slice t (.string (strOf l)) (some (.int .i64 (k : Int))) none none).run Tryd.prog W = .ok (.string (strOf (l.drop k))) W := by
  rw [run_slice_string_from_if W t _ _ _ ht, if_pos (by rw [strOf_size]; omega), strOf_extract]
  rw [List.take_of_length_le (by rw [List.length_drop, strOf_size]; omega)]
  simp
theorem str_cut (t : TypeId) (ht : Tryd.prog.underlying t = some .string) (l : List UInt8) (j k : Nat) (hj : j ≤ k) (hk : k ≤ l.length) (W : World) : (Instr.slice t (.string (strOf l)) (some (.int .i64 (j : Int))) (some (.int .i64 (k : Int))) none).run Tryd.prog W = .ok (.string (strOf ((l.take k).drop j))) W := by
  rw [run_slice_string W t _ _ _ _ _ ht (by omega) (by omega) (by rw [strOf_size]; omega), strOf_extract, List.drop_take]
  simp
/-- The beginning of a hexadecimal numeral. -/
def parP (l : List UInt8) : Bool := Lib.hasPrefix l [48, 120]
def parV (l : List UInt8) : Nat := if parP l = true then numV 16 (l.drop 2) else numV 10 l
def parE (l : List UInt8) : Int := if parP l = true then numE 16 (l.drop 2) else numE 10 l
theorem parP_long {l : List UInt8} (h : 2 < l.length) : parP l = (l.take 2 == [48, 120]) := by
  match l, h with
  | a :: b :: c :: r, _ =>
    unfold parP Lib.hasPrefix
    simp only [List.isPrefixOf, List.take, Bool.and_true]
    rw [Bool.eq_iff_iff]
    simp only [List.isPrefixOf, Bool.and_true, Bool.and_eq_true, beq_iff_eq, List.cons.injEq, and_true]
    exact ⟨fun h => ⟨h.1.symm, h.2.symm⟩, fun h => ⟨h.1.symm, h.2.symm⟩⟩
theorem parP_short {l : List UInt8} (h : ¬ 2 < l.length) : parV l = numV 10 l ∧ parE l = numE 10 l := by
  match l, h with
  | [], _ => exact ⟨rfl, rfl⟩
  | [a], _ =>
    have : parP [a] = false := by unfold parP Lib.hasPrefix; simp [List.isPrefixOf]
    unfold parV parE
    rw [this]
    exact ⟨rfl, rfl⟩
  | [a, b], _ =>
    by_cases hp : parP [a, b] = true
    · have : a = 48 ∧ b = 120 := by
        unfold parP Lib.hasPrefix at hp
        simp [List.isPrefixOf] at hp
        exact ⟨hp.1.symm, hp.2.symm⟩
      obtain ⟨rfl, rfl⟩ := this
      exact ⟨by decide +kernel, by decide +kernel⟩
    · unfold parV parE
      rw [if_neg hp, if_neg hp]
      exact ⟨rfl, rfl⟩
  | a :: b :: c :: r, h => exact absurd (by simp) h
theorem lit_0x : ({ data := #[48, 120] } : ByteArray).toList = [48, 120] := toList_strOf [48, 120]
/-- ParseInt: the error and the number. -/
def pinE (l : List UInt8) : Int :=
  if l.head? = some 45 then (if numE 10 l.tail = 0 then (if valL 10 l.tail = 0 then 6 else if 9223372036854775808 < valL 10 l.tail then 2 else 0) else numE 10 l.tail)
  else if numE 10 l = 0 then (if 9223372036854775807 < valL 10 l then 2 else 0) else numE 10 l
def pinV (l : List UInt8) : Int := if pinE l = 0 then (if l.head? = some 45 then -(valL 10 l.tail : Int) else (valL 10 l : Int)) else 0
theorem numV_lt (b : Nat) (l : List UInt8) : numV b l < 18446744073709551616 := by
  unfold numV
  split
  · rename_i h
    unfold numE at h
    split at h
    · cases h
    · split at h
      · cases h
      · omega
  · omega
theorem numE_cases (b : Nat) (l : List UInt8) : numE b l = 0 ∨ numE b l = 2 ∨ numE b l = 6 := by
  unfold numE
  split
  · simp
  · split <;> simp
theorem numV_zero {b : Nat} {l : List UInt8} (h : numE b l ≠ 0) : numV b l = 0 := by unfold numV; rw [if_neg h]
theorem numV_val {b : Nat} {l : List UInt8} (h : numE b l = 0) : numV b l = valL b l := by unfold numV; rw [if_pos h]
end Go.Proofs.Sat
