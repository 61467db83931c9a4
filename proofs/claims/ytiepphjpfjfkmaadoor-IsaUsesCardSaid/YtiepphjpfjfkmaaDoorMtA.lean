/- The walk of the law IsaUses. -/
import Derived.Test.YtiepphjpfjfkmaaDoorMsP
import Derived.Test.YtiepphjpfjfkmaaDoorR3
set_option linter.unusedVariables false
set_option linter.unusedSimpArgs false
namespace Go.Proofs.Sat
open Go Go.RowKit
set_option maxRecDepth 20000 in
set_option maxHeartbeats 4000000 in
theorem law48_Uses (x : In) (w : World) (hT : MsT w) : Calls Tryd.prog 3 #[inVal x] w fun e w' => e = .returned (.bool true) ∧ Below w.heap.size w w' := by
  have BW := Lib.hid (below_alloc (Below.refl w.heap.size w) (.cells #[.int .i64 x.op, .int .i64 x.dst, .int .i64 x.a, .int .i64 x.b, .int .i64 x.c, .int .u64 x.imm] 25))
  have KX := Lib.hid (heap_alloc_new w (.cells #[.int .i64 x.op, .int .i64 x.dst, .int .i64 x.a, .int .i64 x.b, .int .i64 x.c, .int .u64 x.imm] 25))
  have HT := Lib.hid hT
  have CL := Lib.hid (fun W (h : MsT W) => law48_lives W h)
  have CD : Hid (∀ W, Calls Tryd.prog 5 #[inVal x] W fun e w' => e = .returned (.tuple #[.int .i64 (defD x), .bool (defsI x)]) ∧ Below W.heap.size W w') := fun W => isa_Def x W
  have CE : Hid (∀ W, Calls Tryd.prog 6 #[inVal x] W fun e w' => e = .returned (.tuple #[.int .i64 (defD x), .bool (defsI x)]) ∧ Below W.heap.size W w') := fun W => ref48_Def x W
  have CU := Lib.hid (fun W (h : MsT W) => isa_Uses x W h.isa)
  have CV := Lib.hid (fun W => ref48_Uses x W)
  have C3 := Lib.hid (fun S1 S2 a1 a2 c1 c2 W h1 h2 => ref03_Same S1 S2 a1 a2 c1 c2 (usesI x) (usesI x) W h1 h2)
  generalize defD x = dv at *
  generalize defsI x = db at *
  generalize usesI x = us at *
  clear hT
  unfold inVal
  go_enter Tryd.func3, Tryd.ntmps3
  obtain ⟨x0, x1, x2, x3, x4, x5⟩ := in_block KX.out
  go_wp2_with fail
  refine (CD.out _).mono ?_
  rintro e w1 ⟨rfl, b1⟩
  have B1 := Lib.hid (below_both BW.out b1)
  have K1 := Lib.hid (block_below b1 KX.out)
  clear b1 x0 x1 x2 x3 x4 x5 KX BW CD
  obtain ⟨x0, x1, x2, x3, x4, x5⟩ := in_block K1.out
  go_wp2_with fail
  refine (CE.out _).mono ?_
  rintro e w2 ⟨rfl, b2⟩
  have B2 : Hid (Below w.heap.size w w2.drew) := (below_both B1.out b2).drew
  have K2 : Hid (w2.drew.heap[w.heap.size]? = some (.cells #[.int .i64 x.op, .int .i64 x.dst, .int .i64 x.a, .int .i64 x.b, .int .i64 x.c, .int .u64 x.imm] 25 (0, 0))) := (block_below b2 K1.out : w2.heap[w.heap.size]? = _)
  clear b2 x0 x1 x2 x3 x4 x5 K1 B1 CE
  go_wp2_with fail
  go_region_held3 (fun w' => w'.cell? ⟨w.heap.size, 0, none⟩ = some (.int .i64 x.op) ∧ w'.cell? ⟨w.heap.size, 1, none⟩ = some (.int .i64 x.dst) ∧ w'.cell? ⟨w.heap.size, 2, none⟩ = some (.int .i64 x.a) ∧ w'.cell? ⟨w.heap.size, 3, none⟩ = some (.int .i64 x.b) ∧ w'.cell? ⟨w.heap.size, 4, none⟩ = some (.int .i64 x.c) ∧ w'.cell? ⟨w.heap.size, 5, none⟩ = some (.int .u64 x.imm))
      (first | with_reducible exact in_block K6.out | with_reducible exact in_block K5.out | with_reducible exact in_block K4.out | with_reducible exact in_block K3.out | with_reducible exact in_block K2.out)
      (first
      | (go_at_call 8
         refine (CU.out _ (HT.out.below B2.out)).mono ?_
         rintro e w3 ⟨a3, c3, rfl, r3, b3⟩
         have R3 := Lib.hid r3
         have B3 := Lib.hid (below_both B2.out b3)
         have K3 := Lib.hid (block_below b3 K2.out)
         clear b3 r3)
      | (go_at_call 9
         refine (CV.out _).mono ?_
         rintro e w4 ⟨a4, c4, rfl, r4, b4⟩
         have R4 := Lib.hid r4
         have R34 := Lib.hid (R3.out.frame (same_all b4))
         have B4 := Lib.hid (below_both B3.out b4)
         have K4 := Lib.hid (block_below b4 K3.out)
         clear b4 r4)
      | (go_at_call 7
         refine (C3.out _ _ _ _ _ _ _ R34.out R4.out).mono ?_
         rintro e w5 ⟨rfl, d5⟩
         have B5 := Lib.hid (B4.out.trans (d5.below _))
         have K5 := Lib.hid (d5.heap K4.out)
         simp only [decide_true]
         clear d5)
      | (go_at_call 10
         refine (CL.out _ (HT.out.below B5.out)).mono ?_
         rintro e w6 ⟨rfl, b6⟩
         have B6 := Lib.hid (below_both B5.out b6)
         have K6 := Lib.hid (block_below b6 K5.out)
         clear b6)
      | fail)
  go_wp2_with fail
  go_ret
  exact ⟨rfl, B6.out⟩
end Go.Proofs.Sat
