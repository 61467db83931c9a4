/- The walks of the laws IdsetForms, IdsetPairs and IdsetLaws. Printed by wip/gen_idslaws.py. -/
import Derived.Test.YtgjdpjefoaohkaaIdsLives
set_option linter.unusedVariables false
set_option linter.unusedSimpArgs false
namespace Go.Proofs.Sat
open Go Go.RowKit

set_option maxHeartbeats 400000 in
theorem law03_short (a1 a2 : Option Addr) (n1 n2 c1 c2 : Nat) (w : World) :
    Calls Try.prog 20 #[.slice a1 n1 c1, .slice a2 n2 c2] w fun e w' => e = .returned (.bool (decide (n1 ≤ 300 ∧ n2 ≤ 300))) ∧ Drawn w w' := by
  go_enter Try.func20, Try.ntmps20
  by_cases h1 : n1 ≤ 300
  · have d1 : decide ((n1 : Int) ≤ 300) = true := by simp; omega
    go_wp2
    go_ret
    exact ⟨ret_bool (by simp [h1]; omega), Drawn.refl _⟩
  · have d1 : decide ((n1 : Int) ≤ 300) = false := by simp; omega
    go_wp2
    go_ret
    exact ⟨ret_bool (by simp [h1]), Drawn.refl _⟩

set_option maxHeartbeats 4000000 in
theorem law_IdsetForms (S : Nat → Prop) (a : Option Addr) (c : Nat) (l : List Int) (x : Int) (w : World) (r0 : Rd (Kd.int .i64) S w a c l) :
    Calls Try.prog 6 #[.slice a l.length c, .int .i64 x] w fun e w' => e = .returned (.bool true) ∧ Below w.heap.size w w' := by
  go_enter Try.func6, Try.ntmps6
  by_cases hn : l.length ≤ 300
  · have hS : l.length ≤ 549755813888 := by omega
    have hT : l.length ≤ 1099511627776 := by omega
    go_wp2_with fail
    have c1 := law03_short a none l.length 0 c 0 w
    rw [show (decide (l.length ≤ 300 ∧ 0 ≤ 300)) = true from by simp; omega] at c1
    refine c1.mono ?_
    clear c1
    rintro e w1_ ⟨rfl, b1⟩
    replace r0 := r0.frame (Same.drawn _ b1)
    have B1 := Lib.hid (show Below w.heap.size w w1_ from b1.below _)
    clear b1
    go_wp2_with fail
    have c2 := idset_Of _ a c l w1_ r0 (by omega)
    refine c2.mono ?_
    clear c2
    rintro e w2_ ⟨v2, rfl, o2, b2⟩
    replace r0 := r0.frame (Same.below b2)
    obtain ⟨m1, hm1⟩ : ∃ m, m = ofL l := ⟨_, rfl⟩
    rw [← hm1] at o2
    replace hm1 := Lib.hid hm1
    obtain ⟨p1, q1, rfl, r1⟩ := o2.rd
    clear o2
    have B2 := Lib.hid (show Below w.heap.size w w2_ from below_both B1.out b2)
    clear b2
    go_wp2_with fail
    have c3 := ref03_Of _ a c l w2_ r0 hT
    refine c3.mono ?_
    clear c3
    rintro e w3_ ⟨v3, rfl, o3, b3⟩
    replace r0 := r0.frame (Same.below b3)
    replace r1 := r1.frame (Same.below b3)
    obtain ⟨m2, hm2⟩ : ∃ m, m = ofL l := ⟨_, rfl⟩
    rw [← hm2] at o3
    replace hm2 := Lib.hid hm2
    obtain ⟨p2, q2, rfl, r2⟩ := o3.rd
    clear o3
    have B3 := Lib.hid (show Below w.heap.size w w3_ from below_both B2.out b3)
    clear b3
    go_wp2_with fail
    have c4 := ref03_Same _ _ p1 p2 q1 q2 m1 m2 w3_ r1 r2
    rw [show (decide (m1 = m2)) = true from by simp [hm1.out, hm2.out]] at c4
    refine c4.mono ?_
    clear c4
    rintro e w4_ ⟨rfl, b4⟩
    replace r0 := r0.frame (Same.drawn _ b4)
    replace r1 := r1.frame (Same.drawn _ b4)
    replace r2 := r2.frame (Same.drawn _ b4)
    have B4 := Lib.hid (show Below w.heap.size w w4_ from (B3.out).trans (b4.below _))
    clear b4
    go_wp2_with fail
    have c5 := idset_Valid _ a c l w4_ r0
    refine c5.mono ?_
    clear c5
    rintro e w5_ ⟨rfl, b5⟩
    replace r0 := r0.frame (Same.drawn _ b5)
    have B5 := Lib.hid (show Below w.heap.size w w5_ from (B4.out).trans (b5.below _))
    clear b5
    go_wp2_with fail
    have c6 := ref03_Valid _ a c l w5_ r0
    refine c6.mono ?_
    clear c6
    rintro e w6_ ⟨rfl, b6⟩
    replace r0 := r0.frame (Same.drawn _ b6)
    have B6 := Lib.hid (show Below w.heap.size w w6_ from (B5.out).trans (b6.below _))
    clear b6
    go_wp2_with fail
    have c7 := idset_Has _ a c l x w6_ r0 (by omega)
    refine c7.mono ?_
    clear c7
    rintro e w7_ ⟨rfl, b7⟩
    replace r0 := r0.frame (Same.below b7)
    have B7 := Lib.hid (show Below w.heap.size w w7_ from below_both B6.out b7)
    clear b7
    go_wp2_with fail
    have c8 := ref03_Has _ a c l x w7_ r0
    refine c8.mono ?_
    clear c8
    rintro e w8_ ⟨rfl, b8⟩
    replace r0 := r0.frame (Same.drawn _ b8)
    have B8 := Lib.hid (show Below w.heap.size w w8_ from (B7.out).trans (b8.below _))
    clear b8
    go_wp2_with fail
    have c9 := idset_Index _ a c l x w8_ r0 (by omega)
    refine c9.mono ?_
    clear c9
    rintro e w9_ ⟨rfl, b9⟩
    replace r0 := r0.frame (Same.below b9)
    have B9 := Lib.hid (show Below w.heap.size w w9_ from below_both B8.out b9)
    clear b9
    go_wp2_with fail
    have c10 := ref03_Of _ a c l w9_ r0 hT
    refine c10.mono ?_
    clear c10
    rintro e w10_ ⟨v10, rfl, o10, b10⟩
    replace r0 := r0.frame (Same.below b10)
    obtain ⟨p3, q3, rfl, r3⟩ := o10.rd
    clear o10
    have B10 := Lib.hid (show Below w.heap.size w w10_ from below_both B9.out b10)
    clear b10
    go_wp2_with fail
    have c11 := ref03_Index _ p3 q3 (ofL l) x w10_ r3
    refine c11.mono ?_
    clear c11
    rintro e w11_ ⟨rfl, b11⟩
    replace r0 := r0.frame (Same.drawn _ b11)
    replace r3 := r3.frame (Same.drawn _ b11)
    have B11 := Lib.hid (show Below w.heap.size w w11_ from (B10.out).trans (b11.below _))
    clear b11
    go_wp2_with fail
    have c12 := idset_Add _ a c l x w11_ r0 hS
    refine c12.mono ?_
    clear c12
    rintro e w12_ ⟨v12, rfl, o12, b12⟩
    replace r0 := r0.frame (Same.below b12)
    obtain ⟨m4, hm4⟩ : ∃ m, m = ofL (l ++ [x]) := ⟨_, rfl⟩
    rw [← hm4] at o12
    replace hm4 := Lib.hid hm4
    obtain ⟨p4, q4, rfl, r4⟩ := o12.rd
    clear o12
    have B12 := Lib.hid (show Below w.heap.size w w12_ from below_both B11.out b12)
    clear b12
    go_wp2_with fail
    have c13 := ref03_Add _ a c l x w12_ r0 hS
    refine c13.mono ?_
    clear c13
    rintro e w13_ ⟨v13, rfl, o13, b13⟩
    replace r0 := r0.frame (Same.below b13)
    replace r4 := r4.frame (Same.below b13)
    obtain ⟨m5, hm5⟩ : ∃ m, m = ofL (l ++ [x]) := ⟨_, rfl⟩
    rw [← hm5] at o13
    replace hm5 := Lib.hid hm5
    obtain ⟨p5, q5, rfl, r5⟩ := o13.rd
    clear o13
    have B13 := Lib.hid (show Below w.heap.size w w13_ from below_both B12.out b13)
    clear b13
    go_wp2_with fail
    have c14 := ref03_Same _ _ p4 p5 q4 q5 m4 m5 w13_ r4 r5
    rw [show (decide (m4 = m5)) = true from by simp [hm4.out, hm5.out]] at c14
    refine c14.mono ?_
    clear c14
    rintro e w14_ ⟨rfl, b14⟩
    replace r0 := r0.frame (Same.drawn _ b14)
    replace r4 := r4.frame (Same.drawn _ b14)
    replace r5 := r5.frame (Same.drawn _ b14)
    have B14 := Lib.hid (show Below w.heap.size w w14_ from (B13.out).trans (b14.below _))
    clear b14
    go_wp2_with fail
    have c15 := idset_Remove _ a c l x w14_ r0 hS
    refine c15.mono ?_
    clear c15
    rintro e w15_ ⟨v15, rfl, o15, b15⟩
    replace r0 := r0.frame (Same.below b15)
    obtain ⟨m6, hm6⟩ : ∃ m, m = ((ofL l).filter fun z => z != x) := ⟨_, rfl⟩
    rw [← hm6] at o15
    replace hm6 := Lib.hid hm6
    obtain ⟨p6, q6, rfl, r6⟩ := o15.rd
    clear o15
    have B15 := Lib.hid (show Below w.heap.size w w15_ from below_both B14.out b15)
    clear b15
    go_wp2_with fail
    have c16 := ref03_Remove _ a c l x w15_ r0 hS
    refine c16.mono ?_
    clear c16
    rintro e w16_ ⟨v16, rfl, o16, b16⟩
    replace r0 := r0.frame (Same.below b16)
    replace r6 := r6.frame (Same.below b16)
    obtain ⟨m7, hm7⟩ : ∃ m, m = ((ofL l).filter fun z => z != x) := ⟨_, rfl⟩
    rw [← hm7] at o16
    replace hm7 := Lib.hid hm7
    obtain ⟨p7, q7, rfl, r7⟩ := o16.rd
    clear o16
    have B16 := Lib.hid (show Below w.heap.size w w16_ from below_both B15.out b16)
    clear b16
    go_wp2_with fail
    have c17 := ref03_Same _ _ p6 p7 q6 q7 m6 m7 w16_ r6 r7
    rw [show (decide (m6 = m7)) = true from by simp [hm6.out, hm7.out]] at c17
    refine c17.mono ?_
    clear c17
    rintro e w17_ ⟨rfl, b17⟩
    replace r0 := r0.frame (Same.drawn _ b17)
    replace r6 := r6.frame (Same.drawn _ b17)
    replace r7 := r7.frame (Same.drawn _ b17)
    have B17 := Lib.hid (show Below w.heap.size w w17_ from (B16.out).trans (b17.below _))
    clear b17
    go_wp2_with fail
    have c18 := law03_lives w17_
    refine c18.mono ?_
    clear c18
    rintro e w18_ ⟨rfl, b18⟩
    replace r0 := r0.frame (Same.below b18)
    have B18 := Lib.hid (show Below w.heap.size w w18_ from below_both B17.out b18)
    clear b18
    go_wp2_with fail
    go_ret
    exact ⟨rfl, B18.out⟩
  · go_wp2_with fail
    have c1 := law03_short a none l.length 0 c 0 w
    rw [show (decide (l.length ≤ 300 ∧ 0 ≤ 300)) = false from by simp; omega] at c1
    refine c1.mono ?_
    clear c1
    rintro e w1_ ⟨rfl, b1⟩
    have B1 := Lib.hid (show Below w.heap.size w w1_ from b1.below _)
    clear b1
    go_wp2_with fail
    have c2 := law03_lives w1_
    refine c2.mono ?_
    clear c2
    rintro e w2_ ⟨rfl, b2⟩
    have B2 := Lib.hid (show Below w.heap.size w w2_ from below_both B1.out b2)
    clear b2
    go_wp2_with fail
    go_ret
    exact ⟨rfl, B2.out⟩

set_option maxHeartbeats 4000000 in
theorem law_IdsetPairs (S1 S2 : Nat → Prop) (a1 a2 : Option Addr) (c1 c2 : Nat) (l1 l2 : List Int) (w : World) (ra : Rd (Kd.int .i64) S1 w a1 c1 l1) (rb : Rd (Kd.int .i64) S2 w a2 c2 l2) :
    Calls Try.prog 7 #[.slice a1 l1.length c1, .slice a2 l2.length c2] w fun e w' => e = .returned (.bool true) ∧ Below w.heap.size w w' := by
  go_enter Try.func7, Try.ntmps7
  by_cases hn : l1.length ≤ 300 ∧ l2.length ≤ 300
  · have hS1 : l1.length ≤ 549755813888 := by omega
    have hS2 : l2.length ≤ 549755813888 := by omega
    have hT1 : l1.length ≤ 1099511627776 := by omega
    have hT2 : l2.length ≤ 1099511627776 := by omega
    have HN := Lib.hid hn
    clear hn
    go_wp2_with fail
    have c1 := law03_short a1 a2 l1.length l2.length c1 c2 w
    rw [show (decide (l1.length ≤ 300 ∧ l2.length ≤ 300)) = true from by simpa using HN.out] at c1
    refine c1.mono ?_
    clear c1
    rintro e w1_ ⟨rfl, b1⟩
    replace ra := ra.frame (Same.drawn _ b1)
    replace rb := rb.frame (Same.drawn _ b1)
    have B1 := Lib.hid (show Below w.heap.size w w1_ from b1.below _)
    clear b1
    go_wp2_with fail
    have c2 := idset_Union _ _ a1 a2 c1 c2 l1 l2 w1_ ra rb hT1 hT2
    refine c2.mono ?_
    clear c2
    rintro e w2_ ⟨v2, rfl, o2, b2⟩
    replace ra := ra.frame (Same.below b2)
    replace rb := rb.frame (Same.below b2)
    obtain ⟨m1, hm1⟩ : ∃ m, m = ofL (l1 ++ l2) := ⟨_, rfl⟩
    rw [← hm1] at o2
    replace hm1 := Lib.hid hm1
    obtain ⟨p1, q1, rfl, r1⟩ := o2.rd
    clear o2
    have B2 := Lib.hid (show Below w.heap.size w w2_ from below_both B1.out b2)
    clear b2
    go_wp2_with fail
    have c3 := ref03_Union _ _ a1 a2 c1 c2 l1 l2 w2_ ra rb hS1 hS2
    refine c3.mono ?_
    clear c3
    rintro e w3_ ⟨v3, rfl, o3, b3⟩
    replace ra := ra.frame (Same.below b3)
    replace rb := rb.frame (Same.below b3)
    replace r1 := r1.frame (Same.below b3)
    obtain ⟨m2, hm2⟩ : ∃ m, m = ofL (l1 ++ l2) := ⟨_, rfl⟩
    rw [← hm2] at o3
    replace hm2 := Lib.hid hm2
    obtain ⟨p2, q2, rfl, r2⟩ := o3.rd
    clear o3
    have B3 := Lib.hid (show Below w.heap.size w w3_ from below_both B2.out b3)
    clear b3
    go_wp2_with fail
    have c4 := ref03_Same _ _ p1 p2 q1 q2 m1 m2 w3_ r1 r2
    rw [show (decide (m1 = m2)) = true from by simp [hm1.out, hm2.out]] at c4
    refine c4.mono ?_
    clear c4
    rintro e w4_ ⟨rfl, b4⟩
    replace ra := ra.frame (Same.drawn _ b4)
    replace rb := rb.frame (Same.drawn _ b4)
    replace r1 := r1.frame (Same.drawn _ b4)
    replace r2 := r2.frame (Same.drawn _ b4)
    have B4 := Lib.hid (show Below w.heap.size w w4_ from (B3.out).trans (b4.below _))
    clear b4
    go_wp2_with fail
    have c5 := idset_Meet _ _ a1 a2 c1 c2 l1 l2 w4_ ra rb hT1 hT2
    refine c5.mono ?_
    clear c5
    rintro e w5_ ⟨v5, rfl, o5, b5⟩
    replace ra := ra.frame (Same.below b5)
    replace rb := rb.frame (Same.below b5)
    obtain ⟨m3, hm3⟩ : ∃ m, m = ((ofL l1).filter fun z => decide (z ∈ l2)) := ⟨_, rfl⟩
    rw [← hm3] at o5
    replace hm3 := Lib.hid hm3
    obtain ⟨p3, q3, rfl, r3⟩ := o5.rd
    clear o5
    have B5 := Lib.hid (show Below w.heap.size w w5_ from below_both B4.out b5)
    clear b5
    go_wp2_with fail
    have c6 := ref03_Meet _ _ a1 a2 c1 c2 l1 l2 w5_ ra rb hS1 hS2
    refine c6.mono ?_
    clear c6
    rintro e w6_ ⟨v6, rfl, o6, b6⟩
    replace ra := ra.frame (Same.below b6)
    replace rb := rb.frame (Same.below b6)
    replace r3 := r3.frame (Same.below b6)
    obtain ⟨m4, hm4⟩ : ∃ m, m = ((ofL l1).filter fun z => decide (z ∈ l2)) := ⟨_, rfl⟩
    rw [← hm4] at o6
    replace hm4 := Lib.hid hm4
    obtain ⟨p4, q4, rfl, r4⟩ := o6.rd
    clear o6
    have B6 := Lib.hid (show Below w.heap.size w w6_ from below_both B5.out b6)
    clear b6
    go_wp2_with fail
    have c7 := ref03_Same _ _ p3 p4 q3 q4 m3 m4 w6_ r3 r4
    rw [show (decide (m3 = m4)) = true from by simp [hm3.out, hm4.out]] at c7
    refine c7.mono ?_
    clear c7
    rintro e w7_ ⟨rfl, b7⟩
    replace ra := ra.frame (Same.drawn _ b7)
    replace rb := rb.frame (Same.drawn _ b7)
    replace r3 := r3.frame (Same.drawn _ b7)
    replace r4 := r4.frame (Same.drawn _ b7)
    have B7 := Lib.hid (show Below w.heap.size w w7_ from (B6.out).trans (b7.below _))
    clear b7
    go_wp2_with fail
    have c8 := idset_Minus _ _ a1 a2 c1 c2 l1 l2 w7_ ra rb hT1 hT2
    refine c8.mono ?_
    clear c8
    rintro e w8_ ⟨v8, rfl, o8, b8⟩
    replace ra := ra.frame (Same.below b8)
    replace rb := rb.frame (Same.below b8)
    obtain ⟨m5, hm5⟩ : ∃ m, m = ((ofL l1).filter fun z => !decide (z ∈ l2)) := ⟨_, rfl⟩
    rw [← hm5] at o8
    replace hm5 := Lib.hid hm5
    obtain ⟨p5, q5, rfl, r5⟩ := o8.rd
    clear o8
    have B8 := Lib.hid (show Below w.heap.size w w8_ from below_both B7.out b8)
    clear b8
    go_wp2_with fail
    have c9 := ref03_Minus _ _ a1 a2 c1 c2 l1 l2 w8_ ra rb hS1 hS2
    refine c9.mono ?_
    clear c9
    rintro e w9_ ⟨v9, rfl, o9, b9⟩
    replace ra := ra.frame (Same.below b9)
    replace rb := rb.frame (Same.below b9)
    replace r5 := r5.frame (Same.below b9)
    obtain ⟨m6, hm6⟩ : ∃ m, m = ((ofL l1).filter fun z => !decide (z ∈ l2)) := ⟨_, rfl⟩
    rw [← hm6] at o9
    replace hm6 := Lib.hid hm6
    obtain ⟨p6, q6, rfl, r6⟩ := o9.rd
    clear o9
    have B9 := Lib.hid (show Below w.heap.size w w9_ from below_both B8.out b9)
    clear b9
    go_wp2_with fail
    have c10 := ref03_Same _ _ p5 p6 q5 q6 m5 m6 w9_ r5 r6
    rw [show (decide (m5 = m6)) = true from by simp [hm5.out, hm6.out]] at c10
    refine c10.mono ?_
    clear c10
    rintro e w10_ ⟨rfl, b10⟩
    replace ra := ra.frame (Same.drawn _ b10)
    replace rb := rb.frame (Same.drawn _ b10)
    replace r5 := r5.frame (Same.drawn _ b10)
    replace r6 := r6.frame (Same.drawn _ b10)
    have B10 := Lib.hid (show Below w.heap.size w w10_ from (B9.out).trans (b10.below _))
    clear b10
    go_wp2_with fail
    have c11 := idset_Subset _ _ a1 a2 c1 c2 l1 l2 w10_ ra rb hS1 hS2
    refine c11.mono ?_
    clear c11
    rintro e w11_ ⟨rfl, b11⟩
    replace ra := ra.frame (Same.below b11)
    replace rb := rb.frame (Same.below b11)
    have B11 := Lib.hid (show Below w.heap.size w w11_ from below_both B10.out b11)
    clear b11
    go_wp2_with fail
    have c12 := ref03_Subset _ _ a1 a2 c1 c2 l1 l2 w11_ ra rb hS1 hS2
    refine c12.mono ?_
    clear c12
    rintro e w12_ ⟨rfl, b12⟩
    replace ra := ra.frame (Same.below b12)
    replace rb := rb.frame (Same.below b12)
    have B12 := Lib.hid (show Below w.heap.size w w12_ from below_both B11.out b12)
    clear b12
    go_wp2_with fail
    have c13 := idset_Equal _ _ a1 a2 c1 c2 l1 l2 w12_ ra rb hS1 hS2
    refine c13.mono ?_
    clear c13
    rintro e w13_ ⟨rfl, b13⟩
    replace ra := ra.frame (Same.below b13)
    replace rb := rb.frame (Same.below b13)
    have B13 := Lib.hid (show Below w.heap.size w w13_ from below_both B12.out b13)
    clear b13
    go_wp2_with fail
    have c14 := ref03_Of _ a1 c1 l1 w13_ ra hT1
    refine c14.mono ?_
    clear c14
    rintro e w14_ ⟨v14, rfl, o14, b14⟩
    replace ra := ra.frame (Same.below b14)
    replace rb := rb.frame (Same.below b14)
    obtain ⟨m7, hm7⟩ : ∃ m, m = ofL l1 := ⟨_, rfl⟩
    rw [← hm7] at o14
    replace hm7 := Lib.hid hm7
    obtain ⟨p7, q7, rfl, r7⟩ := o14.rd
    clear o14
    have B14 := Lib.hid (show Below w.heap.size w w14_ from below_both B13.out b14)
    clear b14
    go_wp2_with fail
    have c15 := ref03_Of _ a2 c2 l2 w14_ rb hT2
    refine c15.mono ?_
    clear c15
    rintro e w15_ ⟨v15, rfl, o15, b15⟩
    replace ra := ra.frame (Same.below b15)
    replace rb := rb.frame (Same.below b15)
    replace r7 := r7.frame (Same.below b15)
    obtain ⟨m8, hm8⟩ : ∃ m, m = ofL l2 := ⟨_, rfl⟩
    rw [← hm8] at o15
    replace hm8 := Lib.hid hm8
    obtain ⟨p8, q8, rfl, r8⟩ := o15.rd
    clear o15
    have B15 := Lib.hid (show Below w.heap.size w w15_ from below_both B14.out b15)
    clear b15
    go_wp2_with fail
    have c16 := ref03_Same _ _ p7 p8 q7 q8 m7 m8 w15_ r7 r8
    rw [show (decide (m7 = m8)) = decide (ofL l1 = ofL l2) from by rw [hm7.out, hm8.out]] at c16
    refine c16.mono ?_
    clear c16
    rintro e w16_ ⟨rfl, b16⟩
    replace ra := ra.frame (Same.drawn _ b16)
    replace rb := rb.frame (Same.drawn _ b16)
    replace r7 := r7.frame (Same.drawn _ b16)
    replace r8 := r8.frame (Same.drawn _ b16)
    have B16 := Lib.hid (show Below w.heap.size w w16_ from (B15.out).trans (b16.below _))
    clear b16
    go_wp2_with fail
    have c17 := law03_lives w16_
    refine c17.mono ?_
    clear c17
    rintro e w17_ ⟨rfl, b17⟩
    replace ra := ra.frame (Same.below b17)
    replace rb := rb.frame (Same.below b17)
    replace r7 := r7.frame (Same.below b17)
    replace r8 := r8.frame (Same.below b17)
    have B17 := Lib.hid (show Below w.heap.size w w17_ from below_both B16.out b17)
    clear b17
    go_wp2_with fail
    go_ret
    exact ⟨rfl, B17.out⟩
  · go_wp2_with fail
    have c1 := law03_short a1 a2 l1.length l2.length c1 c2 w
    rw [show (decide (l1.length ≤ 300 ∧ l2.length ≤ 300)) = false from by simpa using hn] at c1
    refine c1.mono ?_
    clear c1
    rintro e w1_ ⟨rfl, b1⟩
    have B1 := Lib.hid (show Below w.heap.size w w1_ from b1.below _)
    clear b1
    go_wp2_with fail
    have c2 := law03_lives w1_
    refine c2.mono ?_
    clear c2
    rintro e w2_ ⟨rfl, b2⟩
    have B2 := Lib.hid (show Below w.heap.size w w2_ from below_both B1.out b2)
    clear b2
    go_wp2_with fail
    go_ret
    exact ⟨rfl, B2.out⟩

theorem length_filter_parts (l : List Int) (p : Int → Bool) : l.length = (l.filter p).length + (l.filter fun z => !p z).length := by
  induction l with
  | nil => rfl
  | cons y l ih => cases h : p y <;> simp [List.filter_cons, h, ih] <;> omega
theorem length_union (a b : List Int) : (ofL (a ++ b)).length + ((ofL a).filter fun z => decide (z ∈ b)).length = (ofL a).length + (ofL b).length := by
  have e1 : (ofL (a ++ b)).filter (fun z => decide (z ∈ a)) = ofL a := ss_ext ((ss_ofL _).filter _) (ss_ofL _) fun z => by by_cases h1 : z ∈ a <;> by_cases h2 : z ∈ b <;> simp [mem_ofL, h1, h2]
  have e2 : (ofL (a ++ b)).filter (fun z => !decide (z ∈ a)) = (ofL b).filter fun z => !decide (z ∈ a) := ss_ext ((ss_ofL _).filter _) ((ss_ofL _).filter _) fun z => by by_cases h1 : z ∈ a <;> by_cases h2 : z ∈ b <;> simp [mem_ofL, h1, h2]
  have e3 : (ofL b).filter (fun z => decide (z ∈ a)) = (ofL a).filter fun z => decide (z ∈ b) := ss_ext ((ss_ofL _).filter _) ((ss_ofL _).filter _) fun z => by by_cases h1 : z ∈ a <;> by_cases h2 : z ∈ b <;> simp [mem_ofL, h1, h2]
  have h1 := length_filter_parts (ofL (a ++ b)) fun z => decide (z ∈ a)
  have h2 := length_filter_parts (ofL b) fun z => decide (z ∈ a)
  rw [e1, e2] at h1
  rw [e3] at h2
  omega
theorem eq_iff_sub (a b : List Int) : ofL a = ofL b ↔ (∀ z ∈ a, z ∈ b) ∧ ∀ z ∈ b, z ∈ a := by
  constructor
  · intro h
    exact ⟨fun z hz => (mem_ofL b z).1 (h ▸ (mem_ofL a z).2 hz), fun z hz => (mem_ofL a z).1 (h ▸ (mem_ofL b z).2 hz)⟩
  · rintro ⟨h1, h2⟩
    exact ofL_congr fun z => ⟨h1 z, h2 z⟩
set_option maxRecDepth 100000 in
set_option maxHeartbeats 16000000 in
theorem law_IdsetLaws (S1 S2 S3 : Nat → Prop) (a1 a2 a3 : Option Addr) (c1 c2 c3 : Nat) (l1 l2 l3 : List Int) (w : World) (ra : Rd (Kd.int .i64) S1 w a1 c1 l1) (rb : Rd (Kd.int .i64) S2 w a2 c2 l2) (rc : Rd (Kd.int .i64) S3 w a3 c3 l3) :
    Calls Try.prog 8 #[.slice a1 l1.length c1, .slice a2 l2.length c2, .slice a3 l3.length c3] w fun e w' => e = .returned (.bool true) ∧ Below w.heap.size w w' := by
  have hl3 := rc.le
  go_enter Try.func8, Try.ntmps8
  by_cases hn : l1.length ≤ 300 ∧ l2.length ≤ 300
  · by_cases hn3 : l3.length ≤ 300
    · have n3 : decide ((300 : Int) < l3.length) = false := by simp; omega
      have B0 : ∀ l : List Int, l.length ≤ 2000 → l.length ≤ 549755813888 := fun _ h => by omega
      have B0 := Lib.hid B0
      have HN := Lib.hid hn
      have z1 := hn.1
      have z2 := hn.2
      clear hn
      go_wp2_with fail
      have c1 := law03_short a1 a2 l1.length l2.length c1 c2 w
      rw [show (decide (l1.length ≤ 300 ∧ l2.length ≤ 300)) = true from by simpa using HN.out] at c1
      refine c1.mono ?_
      clear c1
      rintro e w1_ ⟨rfl, b1⟩
      replace ra := ra.frame (Same.drawn _ b1)
      replace rb := rb.frame (Same.drawn _ b1)
      replace rc := rc.frame (Same.drawn _ b1)
      have B1 := Lib.hid (show Below w.heap.size w w1_ from b1.below _)
      clear b1
      go_wp2_with fail
      have c2 := idset_Union _ _ a1 a2 c1 c2 l1 l2 w1_ ra rb (by omega) (by omega)
      refine c2.mono ?_
      clear c2
      rintro e w2_ ⟨v2, rfl, o2, b2⟩
      replace ra := ra.frame (Same.below b2)
      replace rb := rb.frame (Same.below b2)
      replace rc := rc.frame (Same.below b2)
      obtain ⟨mab, hmab⟩ : ∃ m, m = ofL (l1 ++ l2) := ⟨_, rfl⟩
      rw [← hmab] at o2
      replace hmab := Lib.hid hmab
      obtain ⟨pab, qab, rfl, rab⟩ := o2.rd
      clear o2
      have B2 := Lib.hid (show Below w.heap.size w w2_ from below_both B1.out b2)
      clear b2
      have z_ab : mab.length ≤ 600 := by (rw [hmab.out]; have e1 := length_ofL (l1 ++ l2); rw [List.length_append] at e1; omega)
      have Mab : Hid (∀ z, z ∈ mab ↔ (z ∈ l1 ∨ z ∈ l2)) := fun z => by rw [hmab.out]; simp only [mem_ofL, List.mem_append]
      go_wp2_with fail
      have c3 := idset_Union _ _ a2 a1 c2 c1 l2 l1 w2_ rb ra (by omega) (by omega)
      refine c3.mono ?_
      clear c3
      rintro e w3_ ⟨v3, rfl, o3, b3⟩
      replace ra := ra.frame (Same.below b3)
      replace rb := rb.frame (Same.below b3)
      replace rc := rc.frame (Same.below b3)
      replace rab := rab.frame (Same.below b3)
      obtain ⟨mba, hmba⟩ : ∃ m, m = ofL (l2 ++ l1) := ⟨_, rfl⟩
      rw [← hmba] at o3
      replace hmba := Lib.hid hmba
      obtain ⟨pba, qba, rfl, rba⟩ := o3.rd
      clear o3
      have B3 := Lib.hid (show Below w.heap.size w w3_ from below_both B2.out b3)
      clear b3
      have z_ba : mba.length ≤ 600 := by (rw [hmba.out]; have e1 := length_ofL (l2 ++ l1); rw [List.length_append] at e1; omega)
      have Mba : Hid (∀ z, z ∈ mba ↔ (z ∈ l2 ∨ z ∈ l1)) := fun z => by rw [hmba.out]; simp only [mem_ofL, List.mem_append]
      go_wp2_with fail
      have c4 := idset_Meet _ _ a1 a2 c1 c2 l1 l2 w3_ ra rb (by omega) (by omega)
      refine c4.mono ?_
      clear c4
      rintro e w4_ ⟨v4, rfl, o4, b4⟩
      replace ra := ra.frame (Same.below b4)
      replace rb := rb.frame (Same.below b4)
      replace rc := rc.frame (Same.below b4)
      replace rab := rab.frame (Same.below b4)
      replace rba := rba.frame (Same.below b4)
      obtain ⟨mboth, hmboth⟩ : ∃ m, m = ((ofL l1).filter fun z => decide (z ∈ l2)) := ⟨_, rfl⟩
      rw [← hmboth] at o4
      replace hmboth := Lib.hid hmboth
      obtain ⟨pboth, qboth, rfl, rboth⟩ := o4.rd
      clear o4
      have B4 := Lib.hid (show Below w.heap.size w w4_ from below_both B3.out b4)
      clear b4
      have z_both : mboth.length ≤ 300 := by (rw [hmboth.out]; have e1 := List.length_filter_le (fun z => decide (z ∈ l2)) (ofL l1); have e2 := length_ofL l1; omega)
      have Mboth : Hid (∀ z, z ∈ mboth ↔ (z ∈ l1 ∧ z ∈ l2)) := fun z => by rw [hmboth.out]; simp only [List.mem_filter, mem_ofL, decide_eq_true_eq]
      go_wp2_with fail
      have c5 := idset_Valid _ pab qab mab w4_ rab
      rw [show (decide (SS mab)) = true from by rw [hmab.out]; simp only [decide_eq_true_eq]; first | exact ss_ofL _ | exact (ss_ofL _).filter _] at c5
      refine c5.mono ?_
      clear c5
      rintro e w5_ ⟨rfl, b5⟩
      replace ra := ra.frame (Same.drawn _ b5)
      replace rb := rb.frame (Same.drawn _ b5)
      replace rc := rc.frame (Same.drawn _ b5)
      replace rab := rab.frame (Same.drawn _ b5)
      replace rba := rba.frame (Same.drawn _ b5)
      replace rboth := rboth.frame (Same.drawn _ b5)
      have B5 := Lib.hid (show Below w.heap.size w w5_ from (B4.out).trans (b5.below _))
      clear b5
      go_wp2_with fail
      have c6 := idset_Valid _ pboth qboth mboth w5_ rboth
      rw [show (decide (SS mboth)) = true from by rw [hmboth.out]; simp only [decide_eq_true_eq]; first | exact ss_ofL _ | exact (ss_ofL _).filter _] at c6
      refine c6.mono ?_
      clear c6
      rintro e w6_ ⟨rfl, b6⟩
      replace ra := ra.frame (Same.drawn _ b6)
      replace rb := rb.frame (Same.drawn _ b6)
      replace rc := rc.frame (Same.drawn _ b6)
      replace rab := rab.frame (Same.drawn _ b6)
      replace rba := rba.frame (Same.drawn _ b6)
      replace rboth := rboth.frame (Same.drawn _ b6)
      have B6 := Lib.hid (show Below w.heap.size w w6_ from (B5.out).trans (b6.below _))
      clear b6
      go_wp2_with fail
      have c7 := idset_Minus _ _ a1 a2 c1 c2 l1 l2 w6_ ra rb (by omega) (by omega)
      refine c7.mono ?_
      clear c7
      rintro e w7_ ⟨v7, rfl, o7, b7⟩
      replace ra := ra.frame (Same.below b7)
      replace rb := rb.frame (Same.below b7)
      replace rc := rc.frame (Same.below b7)
      replace rab := rab.frame (Same.below b7)
      replace rba := rba.frame (Same.below b7)
      replace rboth := rboth.frame (Same.below b7)
      obtain ⟨mt1, hmt1⟩ : ∃ m, m = ((ofL l1).filter fun z => !decide (z ∈ l2)) := ⟨_, rfl⟩
      rw [← hmt1] at o7
      replace hmt1 := Lib.hid hmt1
      obtain ⟨pt1, qt1, rfl, rt1⟩ := o7.rd
      clear o7
      have B7 := Lib.hid (show Below w.heap.size w w7_ from below_both B6.out b7)
      clear b7
      have z_t1 : mt1.length ≤ 300 := by (rw [hmt1.out]; have e1 := List.length_filter_le (fun z => !decide (z ∈ l2)) (ofL l1); have e2 := length_ofL l1; omega)
      have Mt1 : Hid (∀ z, z ∈ mt1 ↔ (z ∈ l1 ∧ ¬ z ∈ l2)) := fun z => by rw [hmt1.out]; simp only [List.mem_filter, mem_ofL, Bool.not_eq_true', decide_eq_false_iff_not]
      go_wp2_with fail
      have c8 := idset_Valid _ pt1 qt1 mt1 w7_ rt1
      rw [show (decide (SS mt1)) = true from by rw [hmt1.out]; simp only [decide_eq_true_eq]; first | exact ss_ofL _ | exact (ss_ofL _).filter _] at c8
      refine c8.mono ?_
      clear c8
      rintro e w8_ ⟨rfl, b8⟩
      replace ra := ra.frame (Same.drawn _ b8)
      replace rb := rb.frame (Same.drawn _ b8)
      replace rc := rc.frame (Same.drawn _ b8)
      replace rab := rab.frame (Same.drawn _ b8)
      replace rba := rba.frame (Same.drawn _ b8)
      replace rboth := rboth.frame (Same.drawn _ b8)
      replace rt1 := rt1.frame (Same.drawn _ b8)
      have B8 := Lib.hid (show Below w.heap.size w w8_ from (B7.out).trans (b8.below _))
      clear b8
      go_wp2_with fail
      have c9 := idset_Equal _ _ pab pba qab qba mab mba w8_ rab rba (by omega) (by omega)
      rw [show (decide (ofL mab = ofL mba)) = true from decide_eq_true (ofL_congr fun z => by simp only [Mab.out, Mba.out]; by_cases h1 : z ∈ l1 <;> by_cases h2 : z ∈ l2 <;> by_cases h3 : z ∈ l3 <;> simp [h1, h2, h3])] at c9
      refine c9.mono ?_
      clear c9
      rintro e w9_ ⟨rfl, b9⟩
      replace ra := ra.frame (Same.below b9)
      replace rb := rb.frame (Same.below b9)
      replace rc := rc.frame (Same.below b9)
      replace rab := rab.frame (Same.below b9)
      replace rba := rba.frame (Same.below b9)
      replace rboth := rboth.frame (Same.below b9)
      have B9 := Lib.hid (show Below w.heap.size w w9_ from below_both B8.out b9)
      clear b9
      go_wp2_with fail
      have c10 := idset_Meet _ _ a2 a1 c2 c1 l2 l1 w9_ rb ra (by omega) (by omega)
      refine c10.mono ?_
      clear c10
      rintro e w10_ ⟨v10, rfl, o10, b10⟩
      replace ra := ra.frame (Same.below b10)
      replace rb := rb.frame (Same.below b10)
      replace rc := rc.frame (Same.below b10)
      replace rab := rab.frame (Same.below b10)
      replace rboth := rboth.frame (Same.below b10)
      obtain ⟨mt2, hmt2⟩ : ∃ m, m = ((ofL l2).filter fun z => decide (z ∈ l1)) := ⟨_, rfl⟩
      rw [← hmt2] at o10
      replace hmt2 := Lib.hid hmt2
      obtain ⟨pt2, qt2, rfl, rt2⟩ := o10.rd
      clear o10
      have B10 := Lib.hid (show Below w.heap.size w w10_ from below_both B9.out b10)
      clear b10
      have z_t2 : mt2.length ≤ 300 := by (rw [hmt2.out]; have e1 := List.length_filter_le (fun z => decide (z ∈ l1)) (ofL l2); have e2 := length_ofL l2; omega)
      have Mt2 : Hid (∀ z, z ∈ mt2 ↔ (z ∈ l2 ∧ z ∈ l1)) := fun z => by rw [hmt2.out]; simp only [List.mem_filter, mem_ofL, decide_eq_true_eq]
      go_wp2_with fail
      have c11 := idset_Equal _ _ pboth pt2 qboth qt2 mboth mt2 w10_ rboth rt2 (by omega) (by omega)
      rw [show (decide (ofL mboth = ofL mt2)) = true from decide_eq_true (ofL_congr fun z => by simp only [Mboth.out, Mt2.out]; by_cases h1 : z ∈ l1 <;> by_cases h2 : z ∈ l2 <;> by_cases h3 : z ∈ l3 <;> simp [h1, h2, h3])] at c11
      refine c11.mono ?_
      clear c11
      rintro e w11_ ⟨rfl, b11⟩
      replace ra := ra.frame (Same.below b11)
      replace rb := rb.frame (Same.below b11)
      replace rc := rc.frame (Same.below b11)
      replace rab := rab.frame (Same.below b11)
      replace rboth := rboth.frame (Same.below b11)
      replace rt2 := rt2.frame (Same.below b11)
      have B11 := Lib.hid (show Below w.heap.size w w11_ from below_both B10.out b11)
      clear b11
      go_wp2_with fail
      have c12 := idset_Union _ _ a2 a3 c2 c3 l2 l3 w11_ rb rc (by omega) (by omega)
      refine c12.mono ?_
      clear c12
      rintro e w12_ ⟨v12, rfl, o12, b12⟩
      replace ra := ra.frame (Same.below b12)
      replace rb := rb.frame (Same.below b12)
      replace rc := rc.frame (Same.below b12)
      replace rab := rab.frame (Same.below b12)
      replace rboth := rboth.frame (Same.below b12)
      obtain ⟨mt3, hmt3⟩ : ∃ m, m = ofL (l2 ++ l3) := ⟨_, rfl⟩
      rw [← hmt3] at o12
      replace hmt3 := Lib.hid hmt3
      obtain ⟨pt3, qt3, rfl, rt3⟩ := o12.rd
      clear o12
      have B12 := Lib.hid (show Below w.heap.size w w12_ from below_both B11.out b12)
      clear b12
      have z_t3 : mt3.length ≤ 600 := by (rw [hmt3.out]; have e1 := length_ofL (l2 ++ l3); rw [List.length_append] at e1; omega)
      have Mt3 : Hid (∀ z, z ∈ mt3 ↔ (z ∈ l2 ∨ z ∈ l3)) := fun z => by rw [hmt3.out]; simp only [mem_ofL, List.mem_append]
      go_wp2_with fail
      have c13 := idset_Meet _ _ a1 pt3 c1 qt3 l1 mt3 w12_ ra rt3 (by omega) (by omega)
      refine c13.mono ?_
      clear c13
      rintro e w13_ ⟨v13, rfl, o13, b13⟩
      replace ra := ra.frame (Same.below b13)
      replace rb := rb.frame (Same.below b13)
      replace rc := rc.frame (Same.below b13)
      replace rab := rab.frame (Same.below b13)
      replace rboth := rboth.frame (Same.below b13)
      replace rt3 := rt3.frame (Same.below b13)
      obtain ⟨mt4, hmt4⟩ : ∃ m, m = ((ofL l1).filter fun z => decide (z ∈ mt3)) := ⟨_, rfl⟩
      rw [← hmt4] at o13
      replace hmt4 := Lib.hid hmt4
      obtain ⟨pt4, qt4, rfl, rt4⟩ := o13.rd
      clear o13
      have B13 := Lib.hid (show Below w.heap.size w w13_ from below_both B12.out b13)
      clear b13
      have z_t4 : mt4.length ≤ 300 := by (rw [hmt4.out]; have e1 := List.length_filter_le (fun z => decide (z ∈ mt3)) (ofL l1); have e2 := length_ofL l1; omega)
      have Mt4 : Hid (∀ z, z ∈ mt4 ↔ (z ∈ l1 ∧ (z ∈ l2 ∨ z ∈ l3))) := fun z => by rw [hmt4.out]; simp only [List.mem_filter, mem_ofL, decide_eq_true_eq]; simp only [Mt3.out]
      go_wp2_with fail
      have c14 := idset_Meet _ _ a1 a3 c1 c3 l1 l3 w13_ ra rc (by omega) (by omega)
      refine c14.mono ?_
      clear c14
      rintro e w14_ ⟨v14, rfl, o14, b14⟩
      replace ra := ra.frame (Same.below b14)
      replace rb := rb.frame (Same.below b14)
      replace rc := rc.frame (Same.below b14)
      replace rab := rab.frame (Same.below b14)
      replace rboth := rboth.frame (Same.below b14)
      replace rt4 := rt4.frame (Same.below b14)
      obtain ⟨mt5, hmt5⟩ : ∃ m, m = ((ofL l1).filter fun z => decide (z ∈ l3)) := ⟨_, rfl⟩
      rw [← hmt5] at o14
      replace hmt5 := Lib.hid hmt5
      obtain ⟨pt5, qt5, rfl, rt5⟩ := o14.rd
      clear o14
      have B14 := Lib.hid (show Below w.heap.size w w14_ from below_both B13.out b14)
      clear b14
      have z_t5 : mt5.length ≤ 300 := by (rw [hmt5.out]; have e1 := List.length_filter_le (fun z => decide (z ∈ l3)) (ofL l1); have e2 := length_ofL l1; omega)
      have Mt5 : Hid (∀ z, z ∈ mt5 ↔ (z ∈ l1 ∧ z ∈ l3)) := fun z => by rw [hmt5.out]; simp only [List.mem_filter, mem_ofL, decide_eq_true_eq]
      go_wp2_with fail
      have c15 := idset_Union _ _ pboth pt5 qboth qt5 mboth mt5 w14_ rboth rt5 (by omega) (by omega)
      refine c15.mono ?_
      clear c15
      rintro e w15_ ⟨v15, rfl, o15, b15⟩
      replace ra := ra.frame (Same.below b15)
      replace rb := rb.frame (Same.below b15)
      replace rc := rc.frame (Same.below b15)
      replace rab := rab.frame (Same.below b15)
      replace rboth := rboth.frame (Same.below b15)
      replace rt4 := rt4.frame (Same.below b15)
      replace rt5 := rt5.frame (Same.below b15)
      obtain ⟨mt6, hmt6⟩ : ∃ m, m = ofL (mboth ++ mt5) := ⟨_, rfl⟩
      rw [← hmt6] at o15
      replace hmt6 := Lib.hid hmt6
      obtain ⟨pt6, qt6, rfl, rt6⟩ := o15.rd
      clear o15
      have B15 := Lib.hid (show Below w.heap.size w w15_ from below_both B14.out b15)
      clear b15
      have z_t6 : mt6.length ≤ 600 := by (rw [hmt6.out]; have e1 := length_ofL (mboth ++ mt5); rw [List.length_append] at e1; omega)
      have Mt6 : Hid (∀ z, z ∈ mt6 ↔ ((z ∈ l1 ∧ z ∈ l2) ∨ (z ∈ l1 ∧ z ∈ l3))) := fun z => by rw [hmt6.out]; simp only [mem_ofL, List.mem_append]; simp only [Mboth.out, Mt5.out]
      go_wp2_with fail
      have c16 := idset_Equal _ _ pt4 pt6 qt4 qt6 mt4 mt6 w15_ rt4 rt6 (by omega) (by omega)
      rw [show (decide (ofL mt4 = ofL mt6)) = true from decide_eq_true (ofL_congr fun z => by simp only [Mt4.out, Mt6.out]; by_cases h1 : z ∈ l1 <;> by_cases h2 : z ∈ l2 <;> by_cases h3 : z ∈ l3 <;> simp [h1, h2, h3])] at c16
      refine c16.mono ?_
      clear c16
      rintro e w16_ ⟨rfl, b16⟩
      replace ra := ra.frame (Same.below b16)
      replace rb := rb.frame (Same.below b16)
      replace rc := rc.frame (Same.below b16)
      replace rab := rab.frame (Same.below b16)
      replace rboth := rboth.frame (Same.below b16)
      replace rt4 := rt4.frame (Same.below b16)
      replace rt6 := rt6.frame (Same.below b16)
      have B16 := Lib.hid (show Below w.heap.size w w16_ from below_both B15.out b16)
      clear b16
      go_wp2_with fail
      have c17 := idset_Meet _ _ a2 a3 c2 c3 l2 l3 w16_ rb rc (by omega) (by omega)
      refine c17.mono ?_
      clear c17
      rintro e w17_ ⟨v17, rfl, o17, b17⟩
      replace ra := ra.frame (Same.below b17)
      replace rb := rb.frame (Same.below b17)
      replace rc := rc.frame (Same.below b17)
      replace rab := rab.frame (Same.below b17)
      replace rboth := rboth.frame (Same.below b17)
      obtain ⟨mt7, hmt7⟩ : ∃ m, m = ((ofL l2).filter fun z => decide (z ∈ l3)) := ⟨_, rfl⟩
      rw [← hmt7] at o17
      replace hmt7 := Lib.hid hmt7
      obtain ⟨pt7, qt7, rfl, rt7⟩ := o17.rd
      clear o17
      have B17 := Lib.hid (show Below w.heap.size w w17_ from below_both B16.out b17)
      clear b17
      have z_t7 : mt7.length ≤ 300 := by (rw [hmt7.out]; have e1 := List.length_filter_le (fun z => decide (z ∈ l3)) (ofL l2); have e2 := length_ofL l2; omega)
      have Mt7 : Hid (∀ z, z ∈ mt7 ↔ (z ∈ l2 ∧ z ∈ l3)) := fun z => by rw [hmt7.out]; simp only [List.mem_filter, mem_ofL, decide_eq_true_eq]
      go_wp2_with fail
      have c18 := idset_Union _ _ a1 pt7 c1 qt7 l1 mt7 w17_ ra rt7 (by omega) (by omega)
      refine c18.mono ?_
      clear c18
      rintro e w18_ ⟨v18, rfl, o18, b18⟩
      replace ra := ra.frame (Same.below b18)
      replace rb := rb.frame (Same.below b18)
      replace rc := rc.frame (Same.below b18)
      replace rab := rab.frame (Same.below b18)
      replace rboth := rboth.frame (Same.below b18)
      replace rt7 := rt7.frame (Same.below b18)
      obtain ⟨mt8, hmt8⟩ : ∃ m, m = ofL (l1 ++ mt7) := ⟨_, rfl⟩
      rw [← hmt8] at o18
      replace hmt8 := Lib.hid hmt8
      obtain ⟨pt8, qt8, rfl, rt8⟩ := o18.rd
      clear o18
      have B18 := Lib.hid (show Below w.heap.size w w18_ from below_both B17.out b18)
      clear b18
      have z_t8 : mt8.length ≤ 600 := by (rw [hmt8.out]; have e1 := length_ofL (l1 ++ mt7); rw [List.length_append] at e1; omega)
      have Mt8 : Hid (∀ z, z ∈ mt8 ↔ (z ∈ l1 ∨ (z ∈ l2 ∧ z ∈ l3))) := fun z => by rw [hmt8.out]; simp only [mem_ofL, List.mem_append]; simp only [Mt7.out]
      go_wp2_with fail
      have c19 := idset_Union _ _ a1 a3 c1 c3 l1 l3 w18_ ra rc (by omega) (by omega)
      refine c19.mono ?_
      clear c19
      rintro e w19_ ⟨v19, rfl, o19, b19⟩
      replace ra := ra.frame (Same.below b19)
      replace rb := rb.frame (Same.below b19)
      replace rc := rc.frame (Same.below b19)
      replace rab := rab.frame (Same.below b19)
      replace rboth := rboth.frame (Same.below b19)
      replace rt8 := rt8.frame (Same.below b19)
      obtain ⟨mt9, hmt9⟩ : ∃ m, m = ofL (l1 ++ l3) := ⟨_, rfl⟩
      rw [← hmt9] at o19
      replace hmt9 := Lib.hid hmt9
      obtain ⟨pt9, qt9, rfl, rt9⟩ := o19.rd
      clear o19
      have B19 := Lib.hid (show Below w.heap.size w w19_ from below_both B18.out b19)
      clear b19
      have z_t9 : mt9.length ≤ 600 := by (rw [hmt9.out]; have e1 := length_ofL (l1 ++ l3); rw [List.length_append] at e1; omega)
      have Mt9 : Hid (∀ z, z ∈ mt9 ↔ (z ∈ l1 ∨ z ∈ l3)) := fun z => by rw [hmt9.out]; simp only [mem_ofL, List.mem_append]
      go_wp2_with fail
      have c20 := idset_Meet _ _ pab pt9 qab qt9 mab mt9 w19_ rab rt9 (by omega) (by omega)
      refine c20.mono ?_
      clear c20
      rintro e w20_ ⟨v20, rfl, o20, b20⟩
      replace ra := ra.frame (Same.below b20)
      replace rb := rb.frame (Same.below b20)
      replace rc := rc.frame (Same.below b20)
      replace rab := rab.frame (Same.below b20)
      replace rboth := rboth.frame (Same.below b20)
      replace rt8 := rt8.frame (Same.below b20)
      replace rt9 := rt9.frame (Same.below b20)
      obtain ⟨mt10, hmt10⟩ : ∃ m, m = ((ofL mab).filter fun z => decide (z ∈ mt9)) := ⟨_, rfl⟩
      rw [← hmt10] at o20
      replace hmt10 := Lib.hid hmt10
      obtain ⟨pt10, qt10, rfl, rt10⟩ := o20.rd
      clear o20
      have B20 := Lib.hid (show Below w.heap.size w w20_ from below_both B19.out b20)
      clear b20
      have z_t10 : mt10.length ≤ 600 := by (rw [hmt10.out]; have e1 := List.length_filter_le (fun z => decide (z ∈ mt9)) (ofL mab); have e2 := length_ofL mab; omega)
      have Mt10 : Hid (∀ z, z ∈ mt10 ↔ ((z ∈ l1 ∨ z ∈ l2) ∧ (z ∈ l1 ∨ z ∈ l3))) := fun z => by rw [hmt10.out]; simp only [List.mem_filter, mem_ofL, decide_eq_true_eq]; simp only [Mab.out, Mt9.out]
      go_wp2_with fail
      have c21 := idset_Equal _ _ pt8 pt10 qt8 qt10 mt8 mt10 w20_ rt8 rt10 (by omega) (by omega)
      rw [show (decide (ofL mt8 = ofL mt10)) = true from decide_eq_true (ofL_congr fun z => by simp only [Mt8.out, Mt10.out]; by_cases h1 : z ∈ l1 <;> by_cases h2 : z ∈ l2 <;> by_cases h3 : z ∈ l3 <;> simp [h1, h2, h3])] at c21
      refine c21.mono ?_
      clear c21
      rintro e w21_ ⟨rfl, b21⟩
      replace ra := ra.frame (Same.below b21)
      replace rb := rb.frame (Same.below b21)
      replace rc := rc.frame (Same.below b21)
      replace rab := rab.frame (Same.below b21)
      replace rboth := rboth.frame (Same.below b21)
      replace rt8 := rt8.frame (Same.below b21)
      replace rt10 := rt10.frame (Same.below b21)
      have B21 := Lib.hid (show Below w.heap.size w w21_ from below_both B20.out b21)
      clear b21
      go_wp2_with fail
      have c22 := idset_Union _ _ a2 a3 c2 c3 l2 l3 w21_ rb rc (by omega) (by omega)
      refine c22.mono ?_
      clear c22
      rintro e w22_ ⟨v22, rfl, o22, b22⟩
      replace ra := ra.frame (Same.below b22)
      replace rb := rb.frame (Same.below b22)
      replace rc := rc.frame (Same.below b22)
      replace rab := rab.frame (Same.below b22)
      replace rboth := rboth.frame (Same.below b22)
      obtain ⟨mt11, hmt11⟩ : ∃ m, m = ofL (l2 ++ l3) := ⟨_, rfl⟩
      rw [← hmt11] at o22
      replace hmt11 := Lib.hid hmt11
      obtain ⟨pt11, qt11, rfl, rt11⟩ := o22.rd
      clear o22
      have B22 := Lib.hid (show Below w.heap.size w w22_ from below_both B21.out b22)
      clear b22
      have z_t11 : mt11.length ≤ 600 := by (rw [hmt11.out]; have e1 := length_ofL (l2 ++ l3); rw [List.length_append] at e1; omega)
      have Mt11 : Hid (∀ z, z ∈ mt11 ↔ (z ∈ l2 ∨ z ∈ l3)) := fun z => by rw [hmt11.out]; simp only [mem_ofL, List.mem_append]
      go_wp2_with fail
      have c23 := idset_Minus _ _ a1 pt11 c1 qt11 l1 mt11 w22_ ra rt11 (by omega) (by omega)
      refine c23.mono ?_
      clear c23
      rintro e w23_ ⟨v23, rfl, o23, b23⟩
      replace ra := ra.frame (Same.below b23)
      replace rb := rb.frame (Same.below b23)
      replace rc := rc.frame (Same.below b23)
      replace rab := rab.frame (Same.below b23)
      replace rboth := rboth.frame (Same.below b23)
      replace rt11 := rt11.frame (Same.below b23)
      obtain ⟨mt12, hmt12⟩ : ∃ m, m = ((ofL l1).filter fun z => !decide (z ∈ mt11)) := ⟨_, rfl⟩
      rw [← hmt12] at o23
      replace hmt12 := Lib.hid hmt12
      obtain ⟨pt12, qt12, rfl, rt12⟩ := o23.rd
      clear o23
      have B23 := Lib.hid (show Below w.heap.size w w23_ from below_both B22.out b23)
      clear b23
      have z_t12 : mt12.length ≤ 300 := by (rw [hmt12.out]; have e1 := List.length_filter_le (fun z => !decide (z ∈ mt11)) (ofL l1); have e2 := length_ofL l1; omega)
      have Mt12 : Hid (∀ z, z ∈ mt12 ↔ (z ∈ l1 ∧ ¬ (z ∈ l2 ∨ z ∈ l3))) := fun z => by rw [hmt12.out]; simp only [List.mem_filter, mem_ofL, Bool.not_eq_true', decide_eq_false_iff_not]; simp only [Mt11.out]
      go_wp2_with fail
      have c24 := idset_Minus _ _ a1 a2 c1 c2 l1 l2 w23_ ra rb (by omega) (by omega)
      refine c24.mono ?_
      clear c24
      rintro e w24_ ⟨v24, rfl, o24, b24⟩
      replace ra := ra.frame (Same.below b24)
      replace rb := rb.frame (Same.below b24)
      replace rc := rc.frame (Same.below b24)
      replace rab := rab.frame (Same.below b24)
      replace rboth := rboth.frame (Same.below b24)
      replace rt12 := rt12.frame (Same.below b24)
      obtain ⟨mt13, hmt13⟩ : ∃ m, m = ((ofL l1).filter fun z => !decide (z ∈ l2)) := ⟨_, rfl⟩
      rw [← hmt13] at o24
      replace hmt13 := Lib.hid hmt13
      obtain ⟨pt13, qt13, rfl, rt13⟩ := o24.rd
      clear o24
      have B24 := Lib.hid (show Below w.heap.size w w24_ from below_both B23.out b24)
      clear b24
      have z_t13 : mt13.length ≤ 300 := by (rw [hmt13.out]; have e1 := List.length_filter_le (fun z => !decide (z ∈ l2)) (ofL l1); have e2 := length_ofL l1; omega)
      have Mt13 : Hid (∀ z, z ∈ mt13 ↔ (z ∈ l1 ∧ ¬ z ∈ l2)) := fun z => by rw [hmt13.out]; simp only [List.mem_filter, mem_ofL, Bool.not_eq_true', decide_eq_false_iff_not]
      go_wp2_with fail
      have c25 := idset_Minus _ _ pt13 a3 qt13 c3 mt13 l3 w24_ rt13 rc (by omega) (by omega)
      refine c25.mono ?_
      clear c25
      rintro e w25_ ⟨v25, rfl, o25, b25⟩
      replace ra := ra.frame (Same.below b25)
      replace rb := rb.frame (Same.below b25)
      replace rc := rc.frame (Same.below b25)
      replace rab := rab.frame (Same.below b25)
      replace rboth := rboth.frame (Same.below b25)
      replace rt12 := rt12.frame (Same.below b25)
      replace rt13 := rt13.frame (Same.below b25)
      obtain ⟨mt14, hmt14⟩ : ∃ m, m = ((ofL mt13).filter fun z => !decide (z ∈ l3)) := ⟨_, rfl⟩
      rw [← hmt14] at o25
      replace hmt14 := Lib.hid hmt14
      obtain ⟨pt14, qt14, rfl, rt14⟩ := o25.rd
      clear o25
      have B25 := Lib.hid (show Below w.heap.size w w25_ from below_both B24.out b25)
      clear b25
      have z_t14 : mt14.length ≤ 300 := by (rw [hmt14.out]; have e1 := List.length_filter_le (fun z => !decide (z ∈ l3)) (ofL mt13); have e2 := length_ofL mt13; omega)
      have Mt14 : Hid (∀ z, z ∈ mt14 ↔ ((z ∈ l1 ∧ ¬ z ∈ l2) ∧ ¬ z ∈ l3)) := fun z => by rw [hmt14.out]; simp only [List.mem_filter, mem_ofL, Bool.not_eq_true', decide_eq_false_iff_not]; simp only [Mt13.out]
      go_wp2_with fail
      have c26 := idset_Equal _ _ pt12 pt14 qt12 qt14 mt12 mt14 w25_ rt12 rt14 (by omega) (by omega)
      rw [show (decide (ofL mt12 = ofL mt14)) = true from decide_eq_true (ofL_congr fun z => by simp only [Mt12.out, Mt14.out]; by_cases h1 : z ∈ l1 <;> by_cases h2 : z ∈ l2 <;> by_cases h3 : z ∈ l3 <;> simp [h1, h2, h3])] at c26
      refine c26.mono ?_
      clear c26
      rintro e w26_ ⟨rfl, b26⟩
      replace ra := ra.frame (Same.below b26)
      replace rb := rb.frame (Same.below b26)
      replace rc := rc.frame (Same.below b26)
      replace rab := rab.frame (Same.below b26)
      replace rboth := rboth.frame (Same.below b26)
      replace rt12 := rt12.frame (Same.below b26)
      replace rt14 := rt14.frame (Same.below b26)
      have B26 := Lib.hid (show Below w.heap.size w w26_ from below_both B25.out b26)
      clear b26
      go_wp2_with fail
      have c27 := idset_Minus _ _ a1 a2 c1 c2 l1 l2 w26_ ra rb (by omega) (by omega)
      refine c27.mono ?_
      clear c27
      rintro e w27_ ⟨v27, rfl, o27, b27⟩
      replace ra := ra.frame (Same.below b27)
      replace rb := rb.frame (Same.below b27)
      replace rc := rc.frame (Same.below b27)
      replace rab := rab.frame (Same.below b27)
      replace rboth := rboth.frame (Same.below b27)
      obtain ⟨mt15, hmt15⟩ : ∃ m, m = ((ofL l1).filter fun z => !decide (z ∈ l2)) := ⟨_, rfl⟩
      rw [← hmt15] at o27
      replace hmt15 := Lib.hid hmt15
      obtain ⟨pt15, qt15, rfl, rt15⟩ := o27.rd
      clear o27
      have B27 := Lib.hid (show Below w.heap.size w w27_ from below_both B26.out b27)
      clear b27
      have z_t15 : mt15.length ≤ 300 := by (rw [hmt15.out]; have e1 := List.length_filter_le (fun z => !decide (z ∈ l2)) (ofL l1); have e2 := length_ofL l1; omega)
      have Mt15 : Hid (∀ z, z ∈ mt15 ↔ (z ∈ l1 ∧ ¬ z ∈ l2)) := fun z => by rw [hmt15.out]; simp only [List.mem_filter, mem_ofL, Bool.not_eq_true', decide_eq_false_iff_not]
      go_wp2_with fail
      have c28 := idset_Union _ _ pt15 pboth qt15 qboth mt15 mboth w27_ rt15 rboth (by omega) (by omega)
      refine c28.mono ?_
      clear c28
      rintro e w28_ ⟨v28, rfl, o28, b28⟩
      replace ra := ra.frame (Same.below b28)
      replace rb := rb.frame (Same.below b28)
      replace rc := rc.frame (Same.below b28)
      replace rab := rab.frame (Same.below b28)
      replace rboth := rboth.frame (Same.below b28)
      replace rt15 := rt15.frame (Same.below b28)
      obtain ⟨mt16, hmt16⟩ : ∃ m, m = ofL (mt15 ++ mboth) := ⟨_, rfl⟩
      rw [← hmt16] at o28
      replace hmt16 := Lib.hid hmt16
      obtain ⟨pt16, qt16, rfl, rt16⟩ := o28.rd
      clear o28
      have B28 := Lib.hid (show Below w.heap.size w w28_ from below_both B27.out b28)
      clear b28
      have z_t16 : mt16.length ≤ 600 := by (rw [hmt16.out]; have e1 := length_ofL (mt15 ++ mboth); rw [List.length_append] at e1; omega)
      have Mt16 : Hid (∀ z, z ∈ mt16 ↔ ((z ∈ l1 ∧ ¬ z ∈ l2) ∨ (z ∈ l1 ∧ z ∈ l2))) := fun z => by rw [hmt16.out]; simp only [mem_ofL, List.mem_append]; simp only [Mt15.out, Mboth.out]
      go_wp2_with fail
      have c29 := idset_Equal _ _ pt16 a1 qt16 c1 mt16 l1 w28_ rt16 ra (by omega) (by omega)
      rw [show (decide (ofL mt16 = ofL l1)) = true from decide_eq_true (ofL_congr fun z => by simp only [Mt16.out]; by_cases h1 : z ∈ l1 <;> by_cases h2 : z ∈ l2 <;> by_cases h3 : z ∈ l3 <;> simp [h1, h2, h3])] at c29
      refine c29.mono ?_
      clear c29
      rintro e w29_ ⟨rfl, b29⟩
      replace ra := ra.frame (Same.below b29)
      replace rb := rb.frame (Same.below b29)
      replace rc := rc.frame (Same.below b29)
      replace rab := rab.frame (Same.below b29)
      replace rboth := rboth.frame (Same.below b29)
      replace rt16 := rt16.frame (Same.below b29)
      have B29 := Lib.hid (show Below w.heap.size w w29_ from below_both B28.out b29)
      clear b29
      go_wp2_with fail
      have c30 := idset_Subset _ _ a1 pab c1 qab l1 mab w29_ ra rab (by omega) (by omega)
      rw [show (decide (∀ z ∈ l1, z ∈ mab)) = true from decide_eq_true (fun z hz => by rw [Mab.out]; simp [hz])] at c30
      refine c30.mono ?_
      clear c30
      rintro e w30_ ⟨rfl, b30⟩
      replace ra := ra.frame (Same.below b30)
      replace rb := rb.frame (Same.below b30)
      replace rc := rc.frame (Same.below b30)
      replace rab := rab.frame (Same.below b30)
      replace rboth := rboth.frame (Same.below b30)
      have B30 := Lib.hid (show Below w.heap.size w w30_ from below_both B29.out b30)
      clear b30
      go_wp2_with fail
      have c31 := idset_Subset _ _ pboth a1 qboth c1 mboth l1 w30_ rboth ra (by omega) (by omega)
      rw [show (decide (∀ z ∈ mboth, z ∈ l1)) = true from decide_eq_true (fun z hz => by rw [Mboth.out] at hz; simp [hz])] at c31
      refine c31.mono ?_
      clear c31
      rintro e w31_ ⟨rfl, b31⟩
      replace ra := ra.frame (Same.below b31)
      replace rb := rb.frame (Same.below b31)
      replace rc := rc.frame (Same.below b31)
      replace rab := rab.frame (Same.below b31)
      replace rboth := rboth.frame (Same.below b31)
      have B31 := Lib.hid (show Below w.heap.size w w31_ from below_both B30.out b31)
      clear b31
      have hlen : (((mab.length : Int) + (mboth.length : Int)) == (((ofL l1).length : Int) + ((ofL l2).length : Int))) = true := by
        have := length_union l1 l2; rw [← hmab.out, ← hmboth.out] at this; rw [beq_iff_eq]; omega
      have hz1 := length_ofL l1
      have hz2 := length_ofL l2
      have hlenH := Lib.hid hlen
      clear hlen
      by_cases hab : ∀ z ∈ l1, z ∈ l2
      · replace hab := Lib.hid hab
        by_cases hba : ∀ z ∈ l2, z ∈ l1
        · replace hba := Lib.hid hba
          go_wp2_with fail
          have c32 := idset_Equal _ _ a1 a2 c1 c2 l1 l2 w31_ ra rb (by omega) (by omega)
          rw [show (decide (ofL l1 = ofL l2)) = true from decide_eq_true ((eq_iff_sub _ _).2 ⟨hab.out, hba.out⟩)] at c32
          refine c32.mono ?_
          clear c32
          rintro e w32_ ⟨rfl, b32⟩
          replace ra := ra.frame (Same.below b32)
          replace rb := rb.frame (Same.below b32)
          replace rc := rc.frame (Same.below b32)
          replace rab := rab.frame (Same.below b32)
          replace rboth := rboth.frame (Same.below b32)
          have B32 := Lib.hid (show Below w.heap.size w w32_ from below_both B31.out b32)
          clear b32
          go_wp2_with fail
          have c33 := idset_Subset _ _ a1 a2 c1 c2 l1 l2 w32_ ra rb (by omega) (by omega)
          rw [show (decide (∀ z ∈ l1, z ∈ l2)) = true from decide_eq_true hab.out] at c33
          refine c33.mono ?_
          clear c33
          rintro e w33_ ⟨rfl, b33⟩
          replace ra := ra.frame (Same.below b33)
          replace rb := rb.frame (Same.below b33)
          replace rc := rc.frame (Same.below b33)
          replace rab := rab.frame (Same.below b33)
          replace rboth := rboth.frame (Same.below b33)
          have B33 := Lib.hid (show Below w.heap.size w w33_ from below_both B32.out b33)
          clear b33
          go_wp2_with fail
          have c34 := idset_Subset _ _ a2 a1 c2 c1 l2 l1 w33_ rb ra (by omega) (by omega)
          rw [show (decide (∀ z ∈ l2, z ∈ l1)) = true from decide_eq_true hba.out] at c34
          refine c34.mono ?_
          clear c34
          rintro e w34_ ⟨rfl, b34⟩
          replace ra := ra.frame (Same.below b34)
          replace rb := rb.frame (Same.below b34)
          replace rc := rc.frame (Same.below b34)
          replace rab := rab.frame (Same.below b34)
          replace rboth := rboth.frame (Same.below b34)
          have B34 := Lib.hid (show Below w.heap.size w w34_ from below_both B33.out b34)
          clear b34
          go_wp2_with fail
          have c35 := idset_Of _ a1 c1 l1 w34_ ra (by omega)
          refine c35.mono ?_
          clear c35
          rintro e w35_ ⟨v35, rfl, o35, b35⟩
          replace ra := ra.frame (Same.below b35)
          replace rb := rb.frame (Same.below b35)
          replace rc := rc.frame (Same.below b35)
          replace rab := rab.frame (Same.below b35)
          replace rboth := rboth.frame (Same.below b35)
          obtain ⟨pA, qA, rfl, rA⟩ := o35.rd
          clear o35
          have B35 := Lib.hid (show Below w.heap.size w w35_ from below_both B34.out b35)
          clear b35
          go_wp2_with fail
          have c36 := idset_Of _ a2 c2 l2 w35_ rb (by omega)
          refine c36.mono ?_
          clear c36
          rintro e w36_ ⟨v36, rfl, o36, b36⟩
          replace ra := ra.frame (Same.below b36)
          replace rb := rb.frame (Same.below b36)
          replace rc := rc.frame (Same.below b36)
          replace rab := rab.frame (Same.below b36)
          replace rboth := rboth.frame (Same.below b36)
          replace rA := rA.frame (Same.below b36)
          obtain ⟨pB, qB, rfl, rB⟩ := o36.rd
          clear o36
          have B36 := Lib.hid (show Below w.heap.size w w36_ from below_both B35.out b36)
          clear b36
          have hlen := hlenH.out
          go_wp2_with fail
          have c37 := law03_lives w36_
          refine c37.mono ?_
          clear c37
          rintro e w37_ ⟨rfl, b37⟩
          replace ra := ra.frame (Same.below b37)
          replace rb := rb.frame (Same.below b37)
          replace rc := rc.frame (Same.below b37)
          replace rab := rab.frame (Same.below b37)
          replace rboth := rboth.frame (Same.below b37)
          replace rA := rA.frame (Same.below b37)
          replace rB := rB.frame (Same.below b37)
          have B37 := Lib.hid (show Below w.heap.size w w37_ from below_both B36.out b37)
          clear b37
          go_wp2_with fail
          go_ret
          exact ⟨rfl, B37.out⟩
        · replace hba := Lib.hid hba
          go_wp2_with fail
          have c32 := idset_Equal _ _ a1 a2 c1 c2 l1 l2 w31_ ra rb (by omega) (by omega)
          rw [show (decide (ofL l1 = ofL l2)) = false from decide_eq_false (fun h => hba.out ((eq_iff_sub _ _).1 h).2)] at c32
          refine c32.mono ?_
          clear c32
          rintro e w32_ ⟨rfl, b32⟩
          replace ra := ra.frame (Same.below b32)
          replace rb := rb.frame (Same.below b32)
          replace rc := rc.frame (Same.below b32)
          replace rab := rab.frame (Same.below b32)
          replace rboth := rboth.frame (Same.below b32)
          have B32 := Lib.hid (show Below w.heap.size w w32_ from below_both B31.out b32)
          clear b32
          go_wp2_with fail
          have c33 := idset_Subset _ _ a1 a2 c1 c2 l1 l2 w32_ ra rb (by omega) (by omega)
          rw [show (decide (∀ z ∈ l1, z ∈ l2)) = true from decide_eq_true hab.out] at c33
          refine c33.mono ?_
          clear c33
          rintro e w33_ ⟨rfl, b33⟩
          replace ra := ra.frame (Same.below b33)
          replace rb := rb.frame (Same.below b33)
          replace rc := rc.frame (Same.below b33)
          replace rab := rab.frame (Same.below b33)
          replace rboth := rboth.frame (Same.below b33)
          have B33 := Lib.hid (show Below w.heap.size w w33_ from below_both B32.out b33)
          clear b33
          go_wp2_with fail
          have c34 := idset_Subset _ _ a2 a1 c2 c1 l2 l1 w33_ rb ra (by omega) (by omega)
          rw [show (decide (∀ z ∈ l2, z ∈ l1)) = false from decide_eq_false hba.out] at c34
          refine c34.mono ?_
          clear c34
          rintro e w34_ ⟨rfl, b34⟩
          replace ra := ra.frame (Same.below b34)
          replace rb := rb.frame (Same.below b34)
          replace rc := rc.frame (Same.below b34)
          replace rab := rab.frame (Same.below b34)
          replace rboth := rboth.frame (Same.below b34)
          have B34 := Lib.hid (show Below w.heap.size w w34_ from below_both B33.out b34)
          clear b34
          go_wp2_with fail
          have c35 := idset_Of _ a1 c1 l1 w34_ ra (by omega)
          refine c35.mono ?_
          clear c35
          rintro e w35_ ⟨v35, rfl, o35, b35⟩
          replace ra := ra.frame (Same.below b35)
          replace rb := rb.frame (Same.below b35)
          replace rc := rc.frame (Same.below b35)
          replace rab := rab.frame (Same.below b35)
          replace rboth := rboth.frame (Same.below b35)
          obtain ⟨pA, qA, rfl, rA⟩ := o35.rd
          clear o35
          have B35 := Lib.hid (show Below w.heap.size w w35_ from below_both B34.out b35)
          clear b35
          go_wp2_with fail
          have c36 := idset_Of _ a2 c2 l2 w35_ rb (by omega)
          refine c36.mono ?_
          clear c36
          rintro e w36_ ⟨v36, rfl, o36, b36⟩
          replace ra := ra.frame (Same.below b36)
          replace rb := rb.frame (Same.below b36)
          replace rc := rc.frame (Same.below b36)
          replace rab := rab.frame (Same.below b36)
          replace rboth := rboth.frame (Same.below b36)
          replace rA := rA.frame (Same.below b36)
          obtain ⟨pB, qB, rfl, rB⟩ := o36.rd
          clear o36
          have B36 := Lib.hid (show Below w.heap.size w w36_ from below_both B35.out b36)
          clear b36
          have hlen := hlenH.out
          go_wp2_with fail
          have c37 := law03_lives w36_
          refine c37.mono ?_
          clear c37
          rintro e w37_ ⟨rfl, b37⟩
          replace ra := ra.frame (Same.below b37)
          replace rb := rb.frame (Same.below b37)
          replace rc := rc.frame (Same.below b37)
          replace rab := rab.frame (Same.below b37)
          replace rboth := rboth.frame (Same.below b37)
          replace rA := rA.frame (Same.below b37)
          replace rB := rB.frame (Same.below b37)
          have B37 := Lib.hid (show Below w.heap.size w w37_ from below_both B36.out b37)
          clear b37
          go_wp2_with fail
          go_ret
          exact ⟨rfl, B37.out⟩
      · replace hab := Lib.hid hab
        go_wp2_with fail
        have c32 := idset_Equal _ _ a1 a2 c1 c2 l1 l2 w31_ ra rb (by omega) (by omega)
        rw [show (decide (ofL l1 = ofL l2)) = false from decide_eq_false (fun h => hab.out ((eq_iff_sub _ _).1 h).1)] at c32
        refine c32.mono ?_
        clear c32
        rintro e w32_ ⟨rfl, b32⟩
        replace ra := ra.frame (Same.below b32)
        replace rb := rb.frame (Same.below b32)
        replace rc := rc.frame (Same.below b32)
        replace rab := rab.frame (Same.below b32)
        replace rboth := rboth.frame (Same.below b32)
        have B32 := Lib.hid (show Below w.heap.size w w32_ from below_both B31.out b32)
        clear b32
        go_wp2_with fail
        have c33 := idset_Subset _ _ a1 a2 c1 c2 l1 l2 w32_ ra rb (by omega) (by omega)
        rw [show (decide (∀ z ∈ l1, z ∈ l2)) = false from decide_eq_false hab.out] at c33
        refine c33.mono ?_
        clear c33
        rintro e w33_ ⟨rfl, b33⟩
        replace ra := ra.frame (Same.below b33)
        replace rb := rb.frame (Same.below b33)
        replace rc := rc.frame (Same.below b33)
        replace rab := rab.frame (Same.below b33)
        replace rboth := rboth.frame (Same.below b33)
        have B33 := Lib.hid (show Below w.heap.size w w33_ from below_both B32.out b33)
        clear b33
        go_wp2_with fail
        have c34 := idset_Of _ a1 c1 l1 w33_ ra (by omega)
        refine c34.mono ?_
        clear c34
        rintro e w34_ ⟨v34, rfl, o34, b34⟩
        replace ra := ra.frame (Same.below b34)
        replace rb := rb.frame (Same.below b34)
        replace rc := rc.frame (Same.below b34)
        replace rab := rab.frame (Same.below b34)
        replace rboth := rboth.frame (Same.below b34)
        obtain ⟨pA, qA, rfl, rA⟩ := o34.rd
        clear o34
        have B34 := Lib.hid (show Below w.heap.size w w34_ from below_both B33.out b34)
        clear b34
        go_wp2_with fail
        have c35 := idset_Of _ a2 c2 l2 w34_ rb (by omega)
        refine c35.mono ?_
        clear c35
        rintro e w35_ ⟨v35, rfl, o35, b35⟩
        replace ra := ra.frame (Same.below b35)
        replace rb := rb.frame (Same.below b35)
        replace rc := rc.frame (Same.below b35)
        replace rab := rab.frame (Same.below b35)
        replace rboth := rboth.frame (Same.below b35)
        replace rA := rA.frame (Same.below b35)
        obtain ⟨pB, qB, rfl, rB⟩ := o35.rd
        clear o35
        have B35 := Lib.hid (show Below w.heap.size w w35_ from below_both B34.out b35)
        clear b35
        have hlen := hlenH.out
        go_wp2_with fail
        have c36 := law03_lives w35_
        refine c36.mono ?_
        clear c36
        rintro e w36_ ⟨rfl, b36⟩
        replace ra := ra.frame (Same.below b36)
        replace rb := rb.frame (Same.below b36)
        replace rc := rc.frame (Same.below b36)
        replace rab := rab.frame (Same.below b36)
        replace rboth := rboth.frame (Same.below b36)
        replace rA := rA.frame (Same.below b36)
        replace rB := rB.frame (Same.below b36)
        have B36 := Lib.hid (show Below w.heap.size w w36_ from below_both B35.out b36)
        clear b36
        go_wp2_with fail
        go_ret
        exact ⟨rfl, B36.out⟩
    · have n3 : decide ((300 : Int) < l3.length) = true := by simp; omega
      go_wp2_with fail
      have c1 := law03_short a1 a2 l1.length l2.length c1 c2 w
      rw [show (decide (l1.length ≤ 300 ∧ l2.length ≤ 300)) = true from by simpa using hn] at c1
      refine c1.mono ?_
      clear c1
      rintro e w1_ ⟨rfl, b1⟩
      have B1 := Lib.hid (show Below w.heap.size w w1_ from b1.below _)
      clear b1
      go_wp2_with fail
      have c2 := law03_lives w1_
      refine c2.mono ?_
      clear c2
      rintro e w2_ ⟨rfl, b2⟩
      have B2 := Lib.hid (show Below w.heap.size w w2_ from below_both B1.out b2)
      clear b2
      go_wp2_with fail
      go_ret
      exact ⟨rfl, B2.out⟩
  · go_wp2_with fail
    have c1 := law03_short a1 a2 l1.length l2.length c1 c2 w
    rw [show (decide (l1.length ≤ 300 ∧ l2.length ≤ 300)) = false from by simpa using hn] at c1
    refine c1.mono ?_
    clear c1
    rintro e w1_ ⟨rfl, b1⟩
    have B1 := Lib.hid (show Below w.heap.size w w1_ from b1.below _)
    clear b1
    go_wp2_with fail
    have c2 := law03_lives w1_
    refine c2.mono ?_
    clear c2
    rintro e w2_ ⟨rfl, b2⟩
    have B2 := Lib.hid (show Below w.heap.size w w2_ from below_both B1.out b2)
    clear b2
    go_wp2_with fail
    go_ret
    exact ⟨rfl, B2.out⟩
end Go.Proofs.Sat
