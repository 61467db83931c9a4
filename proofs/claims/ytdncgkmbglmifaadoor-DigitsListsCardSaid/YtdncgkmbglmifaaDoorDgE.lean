/- strconv.FormatUint at bases 10 and 16. -/
import Derived.Test.YtdncgkmbglmifaaDoorDgD
import Derived.Lib.AppendIntMem
set_option linter.unusedVariables false
set_option linter.unusedSimpArgs false
namespace Go.Proofs.Sat
open Go Go.RowKit Go.Sort Go.Lib
theorem inner_FormatUint16 (x : Nat) (w : World) (hx : x < 18446744073709551616) (hT : DebT w) : Calls Tryd.prog 45 #[.int .u64 (x : Int), .int .i64 16] w fun e w' => e = .returned (.string (strOf (wrL 16 x))) ∧ Below w.heap.size w w' := by
  have C := Lib.hid (fun W => inner_bits16 x W hx)
  obtain ⟨a, ha⟩ : ∃ a : Int, a = (x : Int) := ⟨_, rfl⟩
  rw [← ha] at C
  rw [← ha]
  have HT := Lib.hid hT
  clear hx ha hT
  generalize wrL 16 x = l at *
  go_enter Tryd.func45, Tryd.ntmps45
  go_wp2_with fail
  refine (C.out _ HT.out).mono ?_
  rintro e w1 ⟨rfl, b1⟩
  have B1 := Lib.hid b1
  clear b1
  go_wp2_with fail
  go_ret
  exact ⟨rfl, B1.out⟩
theorem FormatUint16 (x : Nat) (w : World) (hx : x < 18446744073709551616) (hT : DebT w) : Calls Tryd.prog 32 #[.int .u64 (x : Int), .int .i64 16] w fun e w' => e = .returned (.string (strOf (wrL 16 x))) ∧ Below w.heap.size w w' := by
  have C := Lib.hid (fun W => inner_FormatUint16 x W hx)
  obtain ⟨a, ha⟩ : ∃ a : Int, a = (x : Int) := ⟨_, rfl⟩
  rw [← ha] at C
  rw [← ha]
  have HT := Lib.hid hT
  clear hx ha hT
  generalize wrL 16 x = l at *
  go_enter Tryd.func32, Tryd.ntmps32
  go_wp2_with fail
  refine (C.out _ HT.out).mono ?_
  rintro e w1 ⟨rfl, b1⟩
  have B1 := Lib.hid b1
  clear b1
  go_wp2_with fail
  go_ret
  exact ⟨rfl, B1.out⟩
theorem FormatUint10 (x : Nat) (w : World) (hx : x < 18446744073709551616) (hT : PowTab w) : Calls Tryd.prog 32 #[.int .u64 (x : Int), .int .i64 10] w fun e w' => e = .returned (.string (strOf (wrL 10 x))) ∧ Below w.heap.size w w' := by
  have C := Lib.hid (fun W => inner_FormatUint10 x W hx)
  rw [← dec_eq x]
  obtain ⟨a, ha⟩ : ∃ a : Int, a = (x : Int) := ⟨_, rfl⟩
  rw [← ha] at C
  rw [← ha]
  have HT := Lib.hid hT
  clear hx ha hT
  generalize Lib.decDigits x = l at *
  go_enter Tryd.func32, Tryd.ntmps32
  go_wp2_with fail
  refine (C.out _ HT.out).mono ?_
  rintro e w1 ⟨rfl, k, os, rfl⟩
  have B1 := Lib.hid (Lib.below_grow w.heap.size w (Nat.le_refl _) k os)
  generalize grow (w.drewN k) os = w1 at *
  go_wp2_with fail
  go_ret
  exact ⟨rfl, B1.out⟩
theorem digits_Dec (x : Nat) (w : World) (hx : x < 18446744073709551616) (hT : PowTab w) : Calls Tryd.prog 19 #[.int .u64 (x : Int)] w fun e w' => e = .returned (.string (strOf (wrL 10 x))) ∧ Below w.heap.size w w' := by
  have C := Lib.hid (fun W => FormatUint10 x W hx)
  obtain ⟨a, ha⟩ : ∃ a : Int, a = (x : Int) := ⟨_, rfl⟩
  rw [← ha] at C
  rw [← ha]
  have HT := Lib.hid hT
  clear hx ha hT
  generalize wrL 10 x = l at *
  go_enter Tryd.func19, Tryd.ntmps19
  go_wp2_with fail
  refine (C.out _ HT.out).mono ?_
  rintro e w1 ⟨rfl, b1⟩
  have B1 := Lib.hid b1
  clear b1
  go_wp2_with fail
  go_ret
  exact ⟨rfl, B1.out⟩
theorem digits_Hex (x : Nat) (w : World) (hx : x < 18446744073709551616) (hT : DebT w) : Calls Tryd.prog 21 #[.int .u64 (x : Int)] w fun e w' => e = .returned (.string (strOf (hexL x))) ∧ Below w.heap.size w w' := by
  have C := Lib.hid (fun W => FormatUint16 x W hx)
  have hl := wr_len64 (b := 16) (by omega) hx
  obtain ⟨a, ha⟩ : ∃ a : Int, a = (x : Int) := ⟨_, rfl⟩
  rw [← ha] at C
  rw [← ha]
  have HE : Hid (hexL x = [48, 120] ++ wrL 16 x) := rfl
  have HT := Lib.hid hT
  clear hx ha hT
  generalize wrL 16 x = l at *
  have hsm : ∀ W : World, (Op.stringOp .add { data := #[48, 120] } (strOf l)).run Tryd.prog W = .ok (.string (strOf ([48, 120] ++ l))) W := fun W => by
    rw [run_string_add_sum W _ _ (by rw [strOf_size]; show 2 + _ ≤ _; omega)]
    exact congrArg (fun s => Result.ok (Value.string s) W) (strOf_append [48, 120] l)
  go_enter Tryd.func21, Tryd.ntmps21
  go_wp2_with fail
  refine (C.out _ HT.out).mono ?_
  rintro e w1 ⟨rfl, b1⟩
  have B1 := Lib.hid b1
  clear b1
  go_wp2_with fail
  go_ret
  exact ⟨ret_str (by rw [HE.out]; rfl), B1.out⟩
end Go.Proofs.Sat
