/- The walk of the law ProofTrims. -/
import Derived.Test.YtgjdpjefoaohkaaDoorPrJ
import Derived.Test.YtgjdpjefoaohkaaDoorRfU
import Derived.Test.YtgjdpjefoaohkaaDoorRfW
import Derived.Test.YtgjdpjefoaohkaaDoorRfL
set_option linter.unusedVariables false
set_option linter.unusedSimpArgs false
namespace Go.Proofs.Sat
open Go Go.RowKit
set_option maxRecDepth 20000 in
set_option maxHeartbeats 2000000 in
theorem law_Trims (a1 a2 : Option Addr) (c1 c2 : Nat) (l1 l2 : List St) (w : World) (hK : Kinds w) (h1 : Rd kSt (fun _ => True) w a1 c1 l1) (h2 : Rd kSt (fun _ => True) w a2 c2 l2) :
    Calls Tryd.prog 5 #[.slice a1 l1.length c1, .slice a2 l2.length c2] w fun e w' => e = .returned (.bool true) ∧ Below w.heap.size w w' := by
  go_enter Tryd.func5, Tryd.ntmps5
  go_wp2_with fail
  refine (ref34_Light _ a1 c1 l1 w h1).mono ?_
  rintro e w1 ⟨bb1, rfl, hl1, b1⟩
  have B1 := Lib.hid b1
  have H1 := Lib.hid hl1
  clear b1 hl1
  cases bb1
  · go_wp2_with fail
    refine (lives_true w1 (hK.below B1.out)).mono ?_
    rintro e w2 ⟨rfl, b2⟩
    go_wp2
    go_ret
    exact ⟨rfl, below_both B1.out b2⟩
  go_wp2_with fail
  refine (ref34_Light _ a2 c2 l2 w1 (h2.frame (Same.below B1.out))).mono ?_
  rintro e w2 ⟨bb2, rfl, hl2, b2⟩
  have B2 := Lib.hid (below_both B1.out b2)
  have H2 := Lib.hid hl2
  clear b2 hl2
  cases bb2
  · go_wp2_with fail
    refine (lives_true w2 (hK.below B2.out)).mono ?_
    rintro e w3 ⟨rfl, b3⟩
    go_wp2
    go_ret
    exact ⟨rfl, below_both B2.out b3⟩
  obtain ⟨hn1, hx1⟩ := H1.out (by trivial)
  obtain ⟨hn2, hx2⟩ := H2.out (by trivial)
  have HX1 : Hid (∀ x ∈ l1, Lite x) := fun x hx => (hx1 x hx).1
  have HX2 : Hid (∀ x ∈ l2, Lite x) := fun x hx => (hx2 x hx).1
  clear hx1 hx2 H1 H2
  have R12 := Lib.hid (h1.frame (Same.below B2.out))
  have R22 := Lib.hid (h2.frame (Same.below B2.out))
  go_wp2_with fail
  refine (proof_Needed _ a1 c1 l1 w2 R12.out (hK.below B2.out)).mono ?_
  rintro e w3 ⟨v3, rfl, o3, b3, -⟩
  have B3 := Lib.hid (below_both B2.out b3)
  have R13 := Lib.hid (R12.out.frame (Same.below b3))
  have R23 := Lib.hid (R22.out.frame (Same.below b3))
  obtain ⟨A3, C3, rfl, q3⟩ := o3.rd
  have Q3 := Lib.hid q3
  clear o3 q3 b3
  clear R12 R22 B2
  go_wp2_with fail
  refine (ref34_Needed _ a1 c1 l1 w3 R13.out).mono ?_
  rintro e w4 ⟨v4, rfl, o4, b4⟩
  have B4 := Lib.hid (below_both B3.out b4)
  have R14 := Lib.hid (R13.out.frame (Same.below b4))
  have R24 := Lib.hid (R23.out.frame (Same.below b4))
  obtain ⟨A4, C4, rfl, q4⟩ := o4.rd
  have P4 := Lib.hid q4
  have Q4 := Lib.hid (Q3.out.frame (Same.below b4))
  clear o4 q4 b4 Q3
  clear R13 R23 B3
  go_wp2_with fail
  refine (ref03_Same _ _ A3 A4 C3 C4 (needed l1) (needed l1) w4 Q4.out P4.out).mono ?_
  rintro e w5 ⟨rfl, d5⟩
  have b5 := d5.below w4.heap.size
  have B5 := Lib.hid (below_both B4.out b5)
  have R15 := Lib.hid (R14.out.frame (Same.below b5))
  have R25 := Lib.hid (R24.out.frame (Same.below b5))
  have t5 : decide (needed l1 = needed l1) = true := decide_eq_true rfl
  clear R14 R24 B4 d5 b5 Q4 P4
  go_wp2_with fail
  refine (proof_Trim _ a1 c1 l1 w5 R15.out (hK.below B5.out) HX1.out (by omega)).mono ?_
  rintro e w6 ⟨v6, rfl, o6, b6⟩
  have B6 := Lib.hid (below_both B5.out b6)
  have R16 := Lib.hid (R15.out.frame (Same.below b6))
  have R26 := Lib.hid (R25.out.frame (Same.below b6))
  obtain ⟨A6, C6, rfl, q6⟩ := o6.rd
  have Q6 := Lib.hid q6
  clear o6 q6 b6 t5
  clear R15 R25 B5
  go_wp2_with fail
  refine (ref34_Trim a1 c1 l1 w6 R16.out HX1.out).mono ?_
  rintro e w7 ⟨A7, C7, rfl, q7, b7⟩
  have B7 := Lib.hid (below_both B6.out b7)
  have R17 := Lib.hid (R16.out.frame (Same.below b7))
  have R27 := Lib.hid (R26.out.frame (Same.below b7))
  have P7 := Lib.hid q7
  have Q7 := Lib.hid (Q6.out.frame (Same.below b7))
  clear q7 b7 Q6
  clear R16 R26 B6
  go_wp2_with fail
  refine (ref34_Same _ _ A6 A7 C6 C7 (trimL l1) (trimL l1) w7 Q7.out P7.out).mono ?_
  rintro e w8 ⟨rfl, b8⟩
  have B8 := Lib.hid (below_both B7.out b8)
  have R18 := Lib.hid (R17.out.frame (Same.below b8))
  have R28 := Lib.hid (R27.out.frame (Same.below b8))
  have t8 : decide (trimL l1 = trimL l1) = true := decide_eq_true rfl
  clear b8 Q7 P7
  clear R17 R27 B7
  go_wp2_with fail
  refine (proof_Join _ _ a1 a2 c1 c2 l1 l2 w8 R18.out R28.out HX1.out HX2.out (by omega) (by omega)).mono ?_
  rintro e w9 ⟨v9, rfl, o9, b9⟩
  have B9 := Lib.hid (below_both B8.out b9)
  have R19 := Lib.hid (R18.out.frame (Same.below b9))
  have R29 := Lib.hid (R28.out.frame (Same.below b9))
  obtain ⟨A9, C9, rfl, q9⟩ := o9.rd
  have Q9 := Lib.hid q9
  clear o9 q9 b9 t8
  clear R18 R28 B8
  go_wp2_with fail
  refine (ref34_Join _ _ a1 a2 c1 c2 l1 l2 w9 R19.out R29.out HX1.out HX2.out (by omega) (by omega)).mono ?_
  rintro e w10 ⟨v10, rfl, o10, b10⟩
  have B10 := Lib.hid (below_both B9.out b10)
  have R110 := Lib.hid (R19.out.frame (Same.below b10))
  have R210 := Lib.hid (R29.out.frame (Same.below b10))
  obtain ⟨A10, C10, rfl, q10⟩ := o10.rd
  have P10 := Lib.hid q10
  have Q10 := Lib.hid (Q9.out.frame (Same.below b10))
  clear o10 q10 b10 Q9
  clear R19 R29 B9
  go_wp2_with fail
  refine (ref34_Same _ _ A9 A10 C9 C10 (joinL l1 l2) (joinL l1 l2) w10 Q10.out P10.out).mono ?_
  rintro e w11 ⟨rfl, b11⟩
  have B11 := Lib.hid (below_both B10.out b11)
  have R111 := Lib.hid (R110.out.frame (Same.below b11))
  have R211 := Lib.hid (R210.out.frame (Same.below b11))
  have t11 : decide (joinL l1 l2 = joinL l1 l2) = true := decide_eq_true rfl
  clear b11 Q10 P10
  clear R110 R210 B10
  go_wp2_with fail
  refine (lives_true w11 (hK.below B11.out)).mono ?_
  rintro e w12 ⟨rfl, b12⟩
  go_wp2
  go_ret
  exact ⟨rfl, below_both B11.out b12⟩
end Go.Proofs.Sat
