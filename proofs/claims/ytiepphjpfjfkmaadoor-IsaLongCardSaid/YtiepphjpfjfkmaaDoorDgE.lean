/- strconv.FormatUint at bases 10 and 16. -/
import Derived.Test.YtiepphjpfjfkmaaDoorDgD
import Derived.Lib.AppendIntMem
set_option linter.unusedVariables false
set_option linter.unusedSimpArgs false
namespace Go.Proofs.Sat
open Go Go.RowKit Go.Sort Go.Lib
theorem inner_FormatUint16 (x : Nat) (w : World) (hx : x < 18446744073709551616) (hT : DebT w) : Calls Tryd.prog 68 #[.int .u64 (x : Int), .int .i64 16] w fun e w' => e = .returned (.string (strOf (wrL 16 x))) ∧ Below w.heap.size w w' := by
  have C := Lib.hid (fun W => inner_bits16 x W hx)
  obtain ⟨a, ha⟩ : ∃ a : Int, a = (x : Int) := ⟨_, rfl⟩
  rw [← ha] at C
  rw [← ha]
  have HT := Lib.hid hT
  clear hx ha hT
  generalize wrL 16 x = l at *
  go_enter Tryd.func68, Tryd.ntmps68
  go_wp2_with fail
  refine (C.out _ HT.out).mono ?_
  rintro e w1 ⟨rfl, b1⟩
  have B1 := Lib.hid b1
  clear b1
  go_wp2_with fail
  go_ret
  exact ⟨rfl, B1.out⟩
theorem FormatUint16 (x : Nat) (w : World) (hx : x < 18446744073709551616) (hT : DebT w) : Calls Tryd.prog 55 #[.int .u64 (x : Int), .int .i64 16] w fun e w' => e = .returned (.string (strOf (wrL 16 x))) ∧ Below w.heap.size w w' := by
  have C := Lib.hid (fun W => inner_FormatUint16 x W hx)
  obtain ⟨a, ha⟩ : ∃ a : Int, a = (x : Int) := ⟨_, rfl⟩
  rw [← ha] at C
  rw [← ha]
  have HT := Lib.hid hT
  clear hx ha hT
  generalize wrL 16 x = l at *
  go_enter Tryd.func55, Tryd.ntmps55
  go_wp2_with fail
  refine (C.out _ HT.out).mono ?_
  rintro e w1 ⟨rfl, b1⟩
  have B1 := Lib.hid b1
  clear b1
  go_wp2_with fail
  go_ret
  exact ⟨rfl, B1.out⟩
theorem FormatUint10 (x : Nat) (w : World) (hx : x < 18446744073709551616) (hT : PowTab w) : Calls Tryd.prog 55 #[.int .u64 (x : Int), .int .i64 10] w fun e w' => e = .returned (.string (strOf (wrL 10 x))) ∧ Below w.heap.size w w' := by
  have C := Lib.hid (fun W => inner_FormatUint10 x W hx)
  rw [← dec_eq x]
  obtain ⟨a, ha⟩ : ∃ a : Int, a = (x : Int) := ⟨_, rfl⟩
  rw [← ha] at C
  rw [← ha]
  have HT := Lib.hid hT
  clear hx ha hT
  generalize Lib.decDigits x = l at *
  go_enter Tryd.func55, Tryd.ntmps55
  go_wp2_with fail
  refine (C.out _ HT.out).mono ?_
  rintro e w1 ⟨rfl, k, os, rfl⟩
  have B1 := Lib.hid (Lib.below_grow w.heap.size w (Nat.le_refl _) k os)
  generalize grow (w.drewN k) os = w1 at *
  go_wp2_with fail
  go_ret
  exact ⟨rfl, B1.out⟩
theorem digits_Dec (x : Nat) (w : World) (hx : x < 18446744073709551616) (hT : PowTab w) : Calls Tryd.prog 40 #[.int .u64 (x : Int)] w fun e w' => e = .returned (.string (strOf (wrL 10 x))) ∧ Below w.heap.size w w' := by
  have C := Lib.hid (fun W => FormatUint10 x W hx)
  obtain ⟨a, ha⟩ : ∃ a : Int, a = (x : Int) := ⟨_, rfl⟩
  rw [← ha] at C
  rw [← ha]
  have HT := Lib.hid hT
  clear hx ha hT
  generalize wrL 10 x = l at *
  go_enter Tryd.func40, Tryd.ntmps40
  go_wp2_with fail
  refine (C.out _ HT.out).mono ?_
  rintro e w1 ⟨rfl, b1⟩
  have B1 := Lib.hid b1
  clear b1
  go_wp2_with fail
  go_ret
  exact ⟨rfl, B1.out⟩
end Go.Proofs.Sat
