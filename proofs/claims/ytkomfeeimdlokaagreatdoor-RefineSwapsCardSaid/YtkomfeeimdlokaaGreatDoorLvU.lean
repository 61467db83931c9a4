/- Walks of the reference's Uses and Defines. -/
import Derived.Test.YtkomfeeimdlokaaGreatDoorLvR
import Derived.Test.YtkomfeeimdlokaaGreatDoorIsaT
set_option linter.unusedVariables false
set_option linter.unusedSimpArgs false
namespace Go.Proofs.Sat
open Go Go.RowKit
set_option maxHeartbeats 1000000 in
theorem ref50_Uses (x : In) (w : World) : Calls Tryz.prog 91 #[inVal x] w fun e w' => ∃ a c, e = .returned (.slice a (usesI x).length c) ∧ Rd (Kd.int .i64) (fun b => w.heap.size ≤ b) w' a c (usesI x) ∧ Below w.heap.size w w' := by
  have BW := Lib.hid (below_alloc (below_alloc (Below.refl w.heap.size w) (.cells #[.int .i64 x.op, .int .i64 x.dst, .int .i64 x.a, .int .i64 x.b, .int .i64 x.c, .int .u64 x.imm] 50)) (.cells #[.int .i64 x.a, .int .i64 x.b, .int .i64 x.c] 3))
  have KX := Lib.hid (block_alloc (heap_alloc_new w (.cells #[.int .i64 x.op, .int .i64 x.dst, .int .i64 x.a, .int .i64 x.b, .int .i64 x.c, .int .u64 x.imm] 50)) (.cells #[.int .i64 x.a, .int .i64 x.b, .int .i64 x.c] 3))
  have KL := Lib.hid (block_at1 w (.cells #[.int .i64 x.op, .int .i64 x.dst, .int .i64 x.a, .int .i64 x.b, .int .i64 x.c, .int .u64 x.imm] 50) (.cells #[.int .i64 x.a, .int .i64 x.b, .int .i64 x.c] 3))
  unfold inVal
  go_enter Tryz.func91, Tryz.ntmps91
  go_wp2_with fail
  refine (ref50_Sources x.op _).mono ?_
  rintro e w1 ⟨rfl, d1⟩
  have hs := srcN_le x.op
  have HLN : Hid ((usesI x).length = (srcN x.op).toNat) := by
    show _ = _
    unfold usesI
    rw [List.length_take]
    simp
    omega
  have HB := Lib.hid (BW.out.trans (d1.below _))
  have HR : Hid (Rd (Kd.int .i64) (fun b => w.heap.size ≤ b) w1 (some ⟨w.heap.size + 1, 0, none⟩) 3 (usesI x)) := by
    have h3 : Rd (Kd.int .i64) (fun b => w.heap.size ≤ b) w1 (some ⟨w.heap.size + 1, 0, none⟩) 3 [x.a, x.b, x.c] := rd_block (d1.heap KL.out) (elems_vals [x.a, x.b, x.c]) (by show w.heap.size ≤ w.heap.size + 1; omega) 3 (by simp) (by simp)
    exact h3.take _ (by simp; omega)
  clear d1
  by_cases hn : srcN x.op < 0
  · have hz : (srcN x.op).toNat = 0 := by omega
    have hu : usesI x = [] := List.eq_nil_of_length_eq_zero (HLN.out.trans hz)
    have HU := Lib.hid hu
    clear hz hu
    go_wp2
    all_goals go_ret
    all_goals exact ⟨none, 0, by rw [HU.out]; rfl, by rw [HU.out]; exact Rd.nil _ _ _ _ _ (by simp), HB.out⟩
  · go_wp2
    all_goals go_ret
    all_goals refine ⟨some ⟨w.heap.size + 1, 0, none⟩, 3, ?_, HR.out, HB.out⟩
    all_goals rw [HLN.out]
    all_goals first
      | rfl
      | (have hz : (srcN x.op).toNat = 0 := by omega
         rw [hz]
         rfl)
set_option maxHeartbeats 1000000 in
theorem ref50_Defines (x : In) (r : Int) (w : World) : Calls Tryz.prog 92 #[inVal x, .int .i64 r] w fun e w' => e = .returned (.bool (defsI x && (x.dst == r))) ∧ Below w.heap.size w w' := by
  have BW := Lib.hid (below_alloc (Below.refl w.heap.size w) (.cells #[.int .i64 x.op, .int .i64 x.dst, .int .i64 x.a, .int .i64 x.b, .int .i64 x.c, .int .u64 x.imm] 50))
  unfold inVal
  go_enter Tryz.func92, Tryz.ntmps92
  by_cases h1 : 1 ≤ x.op
  · by_cases h2 : x.op ≤ 19
    · have HE : Hid (defsI x = true) := decide_eq_true ⟨h1, h2⟩
      go_wp2
      all_goals go_ret
      all_goals exact ⟨ret_bool (by rw [HE.out]; simp), by first | exact BW.out | exact below_drewN BW.out _⟩
    · have HE : Hid (defsI x = false) := decide_eq_false (by omega)
      go_wp2
      all_goals go_ret
      all_goals exact ⟨ret_bool (by rw [HE.out]; simp), by first | exact BW.out | exact below_drewN BW.out _⟩
  · have HE : Hid (defsI x = false) := decide_eq_false (by omega)
    go_wp2
    all_goals go_ret
    all_goals exact ⟨ret_bool (by rw [HE.out]; simp), by first | exact BW.out | exact below_drewN BW.out _⟩
end Go.Proofs.Sat
