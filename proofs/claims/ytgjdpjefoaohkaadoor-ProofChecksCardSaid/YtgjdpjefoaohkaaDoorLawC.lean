/- The walk of the law ProofChecks. -/
import Derived.Test.YtgjdpjefoaohkaaDoorPrJ
import Derived.Test.YtgjdpjefoaohkaaDoorRfU
import Derived.Test.YtgjdpjefoaohkaaDoorRfW
import Derived.Test.YtgjdpjefoaohkaaDoorRfL
import Derived.Test.YtgjdpjefoaohkaaDoorPrS
import Derived.Test.YtgjdpjefoaohkaaDoorPrR
import Derived.Test.YtgjdpjefoaohkaaDoorRfD
set_option linter.unusedVariables false
set_option linter.unusedSimpArgs false
namespace Go.Proofs.Sat
open Go Go.RowKit
set_option maxRecDepth 20000 in
set_option maxHeartbeats 2000000 in
theorem law_Checks (a1 a2 : Option Addr) (c1 c2 : Nat) (l1 l2 : List St) (w : World) (hK : Kinds w) (h1 : Rd kSt (fun _ => True) w a1 c1 l1) (h2 : Rd kSt (fun _ => True) w a2 c2 l2) :
    Calls Tryd.prog 7 #[.slice a1 l1.length c1, .slice a2 l2.length c2] w fun e w' => e = .returned (.bool true) ∧ Below w.heap.size w w' := by
  go_enter Tryd.func7, Tryd.ntmps7
  go_wp2_with fail
  refine (ref34_Light _ a1 c1 l1 w h1).mono ?_
  rintro e w1 ⟨bb1, rfl, hl1, b1⟩
  have B1 := Lib.hid b1
  have H1 := Lib.hid hl1
  clear b1 hl1
  cases bb1
  · go_wp2_with fail
    refine (lives_true w1 (hK.below B1.out)).mono ?_
    rintro e w2 ⟨rfl, b2⟩
    go_wp2
    go_ret
    exact ⟨rfl, below_both B1.out b2⟩
  go_wp2_with fail
  refine (ref34_Light _ a2 c2 l2 w1 (h2.frame (Same.below B1.out))).mono ?_
  rintro e w2 ⟨bb2, rfl, hl2, b2⟩
  have B2 := Lib.hid (below_both B1.out b2)
  have H2 := Lib.hid hl2
  clear b2 hl2
  cases bb2
  · go_wp2_with fail
    refine (lives_true w2 (hK.below B2.out)).mono ?_
    rintro e w3 ⟨rfl, b3⟩
    go_wp2
    go_ret
    exact ⟨rfl, below_both B2.out b3⟩
  obtain ⟨hn1, hx1⟩ := H1.out (by trivial)
  obtain ⟨hn2, hx2⟩ := H2.out (by trivial)
  have HX1 : Hid (∀ x ∈ l1, Lite x) := fun x hx => (hx1 x hx).1
  have HX2 : Hid (∀ x ∈ l2, Lite x) := fun x hx => (hx2 x hx).1
  clear hx1 hx2 H1 H2
  have R1_2 := Lib.hid (h1.frame (Same.below B2.out))
  have R2_2 := Lib.hid (h2.frame (Same.below B2.out))
  go_wp2_with fail
  refine (proof_Check _ a1 c1 l1 w2 R1_2.out (hK.below B2.out)).mono ?_
  rintro e w3 ⟨rfl, b3⟩
  have B3 := Lib.hid (below_both B2.out b3)
  have R1_3 := Lib.hid (R1_2.out.frame (Same.below b3))
  have R2_3 := Lib.hid (R2_2.out.frame (Same.below b3))
  clear b3
  clear R1_2 R2_2 B2
  go_wp2_with fail
  refine (ref34_Check _ a1 c1 l1 w3 R1_3.out).mono ?_
  rintro e w4 ⟨rfl, b4⟩
  have B4 := Lib.hid (below_both B3.out b4)
  have R1_4 := Lib.hid (R1_3.out.frame (Same.below b4))
  have R2_4 := Lib.hid (R2_3.out.frame (Same.below b4))
  clear b4
  clear R1_3 R2_3 B3
  go_wp2_with fail
  refine (proof_Uses _ a1 c1 l1 w4 R1_4.out).mono ?_
  rintro e w5 ⟨rfl, b5⟩
  have B5 := Lib.hid (below_both B4.out b5)
  have R1_5 := Lib.hid (R1_4.out.frame (Same.below b5))
  have R2_5 := Lib.hid (R2_4.out.frame (Same.below b5))
  clear b5
  clear R1_4 R2_4 B4
  go_wp2_with fail
  refine (ref34_Uses _ a1 c1 l1 w5 R1_5.out).mono ?_
  rintro e w6 ⟨rfl, b6⟩
  have B6 := Lib.hid (below_both B5.out b6)
  have R1_6 := Lib.hid (R1_5.out.frame (Same.below b6))
  have R2_6 := Lib.hid (R2_5.out.frame (Same.below b6))
  clear b6
  clear R1_5 R2_5 B5
  go_wp2_with fail
  refine (proof_Rules _ a1 c1 l1 w6 R1_6.out (by omega)).mono ?_
  rintro e w7 ⟨v7, rfl, o7, b7⟩
  have B7 := Lib.hid (below_both B6.out b7)
  have R1_7 := Lib.hid (R1_6.out.frame (Same.below b7))
  have R2_7 := Lib.hid (R2_6.out.frame (Same.below b7))
  obtain ⟨A7, C7, rfl, q7⟩ := o7.rd
  have Q7 := Lib.hid q7
  clear o7 q7 b7
  clear R1_6 R2_6 B6
  go_wp2_with fail
  refine (ref34_Rules _ a1 c1 l1 w7 R1_7.out (by omega)).mono ?_
  rintro e w8 ⟨v8, rfl, o8, b8⟩
  have B8 := Lib.hid (below_both B7.out b8)
  have R1_8 := Lib.hid (R1_7.out.frame (Same.below b8))
  have R2_8 := Lib.hid (R2_7.out.frame (Same.below b8))
  obtain ⟨A8, C8, rfl, q8⟩ := o8.rd
  have P8 := Lib.hid q8
  have Q8 := Lib.hid (Q7.out.frame (Same.below b8))
  clear o8 q8 b8 Q7
  clear R1_7 R2_7 B7
  go_wp2_with fail
  refine (ref03_Same _ _ A7 A8 C7 C8 (ofL (rulesN l1 l1.length)) (ofL (rulesN l1 l1.length)) w8 Q8.out P8.out).mono ?_
  rintro e w9 ⟨rfl, d9⟩
  have b9 := d9.below w8.heap.size
  have B9 := Lib.hid (below_both B8.out b9)
  have R1_9 := Lib.hid (R1_8.out.frame (Same.below b9))
  have R2_9 := Lib.hid (R2_8.out.frame (Same.below b9))
  have t9 : decide (ofL (rulesN l1 l1.length) = ofL (rulesN l1 l1.length)) = true := decide_eq_true rfl
  clear R1_8 R2_8 B8 d9 b9 Q8 P8
  go_wp2_with fail
  refine (proof_Depth _ a1 c1 l1 w9 R1_9.out (hK.below B9.out)).mono ?_
  rintro e w10 ⟨rfl, b10⟩
  have B10 := Lib.hid (below_both B9.out b10)
  have R1_10 := Lib.hid (R1_9.out.frame (Same.below b10))
  have R2_10 := Lib.hid (R2_9.out.frame (Same.below b10))
  clear b10 t9
  clear R1_9 R2_9 B9
  go_wp2_with fail
  refine (ref34_Depth _ a1 c1 l1 w10 R1_10.out).mono ?_
  rintro e w11 ⟨rfl, b11⟩
  have B11 := Lib.hid (below_both B10.out b11)
  have R1_11 := Lib.hid (R1_10.out.frame (Same.below b11))
  have R2_11 := Lib.hid (R2_10.out.frame (Same.below b11))
  clear b11
  clear R1_10 R2_10 B10
  go_wp2_with fail
  refine (proof_Same _ _ a1 a2 c1 c2 l1 l2 w11 R1_11.out R2_11.out).mono ?_
  rintro e w12 ⟨rfl, b12⟩
  have B12 := Lib.hid (below_both B11.out b12)
  have R1_12 := Lib.hid (R1_11.out.frame (Same.below b12))
  have R2_12 := Lib.hid (R2_11.out.frame (Same.below b12))
  clear b12
  clear R1_11 R2_11 B11
  go_wp2_with fail
  refine (ref34_Same _ _ a1 a2 c1 c2 l1 l2 w12 R1_12.out R2_12.out).mono ?_
  rintro e w13 ⟨rfl, b13⟩
  have B13 := Lib.hid (below_both B12.out b13)
  have R1_13 := Lib.hid (R1_12.out.frame (Same.below b13))
  have R2_13 := Lib.hid (R2_12.out.frame (Same.below b13))
  clear b13
  generalize decide (l1 = l2) = dd at *
  clear R1_12 R2_12 B12
  go_wp2_with fail
  refine (lives_true w13 (hK.below B13.out)).mono ?_
  rintro e w14 ⟨rfl, b14⟩
  go_wp2
  go_ret
  exact ⟨rfl, below_both B13.out b14⟩
end Go.Proofs.Sat
