/- The reference of ch. 02: digit and number. -/
import Derived.Test.YtiepphjpfjfkmaaDoorDgA
set_option linter.unusedVariables false
set_option linter.unusedSimpArgs false
namespace Go.Proofs.Sat
open Go Go.RowKit
/-- The value of a digit; -1 for other bytes. -/
def digI (b : Nat) (c : Nat) : Int := if 48 ≤ c ∧ c ≤ 57 then (c : Int) - 48 else if b = 16 ∧ 97 ≤ c ∧ c ≤ 102 then (c : Int) - 87 else -1
theorem str_index (t : TypeId) (ht : Tryd.prog.underlying t = some .string) (l : List UInt8) (k : Nat) (hk : k < l.length) (W : World) : (Instr.index t (.string (strOf l)) (.int .i64 (k : Int))).run Tryd.prog W = .ok (.int .u8 ((l[k].toNat : Nat) : Int)) W := by
  have hi : (0 : Int) ≤ (k : Int) ∧ (k : Int) < ((strOf l).size : Int) := by rw [strOf_size]; omega
  rw [run_index_string W t _ _ _ ht, dif_pos hi]
  rfl
/-- The number that digits spell. -/
def valL (b : Nat) (l : List UInt8) : Nat := l.foldl (fun x c => b * x + (digI b c.toNat).toNat) 0
theorem valL_snoc (b : Nat) (l : List UInt8) (c : UInt8) : valL b (l ++ [c]) = b * valL b l + (digI b c.toNat).toNat := by unfold valL; rw [List.foldl_append]; rfl
def badL (b : Nat) (l : List UInt8) : Bool := l.isEmpty || (decide (l.head? = some 48) && decide (1 < l.length)) || l.any (fun c => decide (digI b c.toNat < 0))
def numE (b : Nat) (l : List UInt8) : Int := if badL b l = true then 6 else if 18446744073709551616 ≤ valL b l then 2 else 0
def numV (b : Nat) (l : List UInt8) : Nat := if numE b l = 0 then valL b l else 0
theorem digI_lt (b c : Nat) (hc : c < 256) : digI b c < 16 ∧ -1 ≤ digI b c := by
  unfold digI
  split
  · omega
  · split <;> omega
theorem ret_ui {k k' : IntKind} {a a' b b' : Int} (h1 : a = a') (h2 : b = b') : Ending.returned (.tuple #[.int k a, .int k' b]) = .returned (.tuple #[.int k a', .int k' b']) := by rw [h1, h2]
theorem toList_strOf (l : List UInt8) : (strOf l).toList = l := ByteArray.toList_mk l
end Go.Proofs.Sat
