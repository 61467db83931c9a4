/- The walk of the law ProofKeeps. -/
import Derived.Test.YtgjdpjefoaohkaaDoorPrJ
import Derived.Test.YtgjdpjefoaohkaaDoorRfU
import Derived.Test.YtgjdpjefoaohkaaDoorRfW
import Derived.Test.YtgjdpjefoaohkaaDoorRfL
import Derived.Test.YtgjdpjefoaohkaaDoorKeepL
set_option linter.unusedVariables false
set_option linter.unusedSimpArgs false
namespace Go.Proofs.Sat
open Go Go.RowKit
theorem lite_moved {x : St} (N : List Int) (h : Lite x) : Lite (movedS N x) := ⟨h.a, h.b, h.s, h.n, by rw [movedS_length]; exact h.r⟩
theorem lite_shift {x : St} (n : Nat) (h : Lite x) : Lite (shiftS n x) := ⟨h.a, h.b, h.s, h.n, Nat.le_trans (Nat.le_of_eq (List.length_map _)) h.r⟩
theorem lite_trim {l : List St} (hc : (chk l).2 = 0) (h : ∀ x ∈ l, Lite x) : ∀ x ∈ trimL l, Lite x := by
  intro x hx
  obtain ⟨k, hk, rfl⟩ := List.getElem_of_mem hx
  have hN : k < (needed l).length := by rw [trimL_length hc] at hk; exact hk
  rw [trimL_at hc hk hN (idx_lt hc hN)]
  exact lite_moved _ (h _ (List.getElem_mem _))
theorem lite_join {l1 l2 : List St} (h1 : ∀ x ∈ l1, Lite x) (h2 : ∀ x ∈ l2, Lite x) : ∀ x ∈ joinL l1 l2, Lite x := by
  intro x hx
  rcases List.mem_append.1 hx with hx | hx
  · exact h1 x hx
  · obtain ⟨y, hy, rfl⟩ := List.mem_map.1 hx
    exact lite_shift _ (h2 y hy)
set_option maxRecDepth 20000 in
set_option maxHeartbeats 6000000 in
theorem law_Keeps (a1 a2 : Option Addr) (c1 c2 : Nat) (l1 l2 : List St) (w : World) (hK : Kinds w) (h1 : Rd kSt (fun _ => True) w a1 c1 l1) (h2 : Rd kSt (fun _ => True) w a2 c2 l2) :
    Calls Tryd.prog 6 #[.slice a1 l1.length c1, .slice a2 l2.length c2] w fun e w' => e = .returned (.bool true) ∧ Below w.heap.size w w' := by
  go_enter Tryd.func6, Tryd.ntmps6
  go_wp2_with fail
  refine (ref34_Light _ a1 c1 l1 w h1).mono ?_
  rintro e w1 ⟨bb1, rfl, hl1, b1⟩
  have B1 := Lib.hid b1
  have H1 := Lib.hid hl1
  clear b1 hl1
  cases bb1
  · go_wp2_with fail
    refine (lives_true w1 (hK.below B1.out)).mono ?_
    rintro e w2 ⟨rfl, b2⟩
    go_wp2
    go_ret
    exact ⟨rfl, below_both B1.out b2⟩
  go_wp2_with fail
  refine (ref34_Light _ a2 c2 l2 w1 (h2.frame (Same.below B1.out))).mono ?_
  rintro e w2 ⟨bb2, rfl, hl2, b2⟩
  have B2 := Lib.hid (below_both B1.out b2)
  have H2 := Lib.hid hl2
  clear b2 hl2
  cases bb2
  · go_wp2_with fail
    refine (lives_true w2 (hK.below B2.out)).mono ?_
    rintro e w3 ⟨rfl, b3⟩
    go_wp2
    go_ret
    exact ⟨rfl, below_both B2.out b3⟩
  obtain ⟨hn1, hx1⟩ := H1.out (by trivial)
  obtain ⟨hn2, hx2⟩ := H2.out (by trivial)
  have HX1 : Hid (∀ x ∈ l1, Lite x) := fun x hx => (hx1 x hx).1
  have HX2 : Hid (∀ x ∈ l2, Lite x) := fun x hx => (hx2 x hx).1
  clear hx1 hx2 H1 H2
  have R1_2 := Lib.hid (h1.frame (Same.below B2.out))
  have R2_2 := Lib.hid (h2.frame (Same.below B2.out))
  by_cases he1 : (chk l1).2 = 0
  case neg =>
    have t1 : ((chk l1).2 != 0) = true := by simpa using he1
    clear he1
    go_wp2_with fail
    refine (ref34_Check _ a1 c1 l1 w2 R1_2.out).mono ?_
    rintro e w3 ⟨rfl, b3⟩
    have B3 := Lib.hid (below_both B2.out b3)
    go_wp2_with fail
    refine (ref34_Check _ a2 c2 l2 w3 (R2_2.out.frame (Same.below b3))).mono ?_
    rintro e w4 ⟨rfl, b4⟩
    have B4 := Lib.hid (below_both B3.out b4)
    clear b3 b4
    go_wp2_with fail
    refine (lives_true w4 (hK.below B4.out)).mono ?_
    rintro e w5 ⟨rfl, b5⟩
    go_wp2
    go_ret
    exact ⟨rfl, below_both B4.out b5⟩
  by_cases he2 : (chk l2).2 = 0
  case neg =>
    have t1 : ((chk l1).2 != 0) = false := by simp [he1]
    have t2 : ((chk l2).2 != 0) = true := by simpa using he2
    clear he1 he2
    go_wp2_with fail
    refine (ref34_Check _ a1 c1 l1 w2 R1_2.out).mono ?_
    rintro e w3 ⟨rfl, b3⟩
    have B3 := Lib.hid (below_both B2.out b3)
    go_wp2_with fail
    refine (ref34_Check _ a2 c2 l2 w3 (R2_2.out.frame (Same.below b3))).mono ?_
    rintro e w4 ⟨rfl, b4⟩
    have B4 := Lib.hid (below_both B3.out b4)
    clear b3 b4
    go_wp2_with fail
    refine (lives_true w4 (hK.below B4.out)).mono ?_
    rintro e w5 ⟨rfl, b5⟩
    go_wp2
    go_ret
    exact ⟨rfl, below_both B4.out b5⟩
  have CT := Lib.hid (trim_chk he1)
  have CJ := Lib.hid (join_chk he1 he2 (by omega))
  have ID := Lib.hid (trim_idem he1)
  have NL := Lib.hid (needed_trim_length he1)
  have TL := trim_le he1
  have JL := Lib.hid (joinL_length l1 l2)
  have DT := Lib.hid (depth_trim he1)
  have DJ := Lib.hid (depth_join he1 he2 (by omega))
  have TJ := Lib.hid (trim_join he1 he2 (by omega))
  have LT := Lib.hid (lite_trim he1 HX1.out)
  have LJ := Lib.hid (lite_join HX1.out HX2.out)
  have E1 := Lib.hid (chk_zero he1)
  have E2 := Lib.hid (chk_zero he2)
  clear he1 he2
  go_wp2_with fail
  have CC := ref34_Check _ a1 c1 l1 w2 R1_2.out
  rw [E1.out] at CC
  refine CC.mono ?_
  clear CC
  rintro e w3 ⟨rfl, b3⟩
  have B3 := Lib.hid (below_both B2.out b3)
  have R1_3 := Lib.hid (R1_2.out.frame (Same.below b3))
  have R2_3 := Lib.hid (R2_2.out.frame (Same.below b3))
  clear b3
  clear R1_2 R2_2 B2
  go_wp2_with fail
  have CC := ref34_Check _ a2 c2 l2 w3 R2_3.out
  rw [E2.out] at CC
  refine CC.mono ?_
  clear CC
  rintro e w4 ⟨rfl, b4⟩
  have B4 := Lib.hid (below_both B3.out b4)
  have R1_4 := Lib.hid (R1_3.out.frame (Same.below b4))
  have R2_4 := Lib.hid (R2_3.out.frame (Same.below b4))
  clear b4
  clear R1_3 R2_3 B3
  go_wp2_with fail
  refine (proof_Trim _ a1 c1 l1 w4 R1_4.out (hK.below B4.out) HX1.out (by omega)).mono ?_
  rintro e w5 ⟨v5, rfl, o5, b5⟩
  have B5 := Lib.hid (below_both B4.out b5)
  have R1_5 := Lib.hid (R1_4.out.frame (Same.below b5))
  have R2_5 := Lib.hid (R2_4.out.frame (Same.below b5))
  obtain ⟨A5, C5, rfl, q5⟩ := o5.rd
  have T_5 := Lib.hid q5
  clear o5 q5 b5
  clear R1_4 R2_4 B4
  go_wp2_with fail
  refine (proof_Join _ _ a1 a2 c1 c2 l1 l2 w5 R1_5.out R2_5.out HX1.out HX2.out (by omega) (by omega)).mono ?_
  rintro e w6 ⟨v6, rfl, o6, b6⟩
  have B6 := Lib.hid (below_both B5.out b6)
  have R1_6 := Lib.hid (R1_5.out.frame (Same.below b6))
  have R2_6 := Lib.hid (R2_5.out.frame (Same.below b6))
  have T_6 := Lib.hid (T_5.out.frame (Same.below b6))
  obtain ⟨A6, C6, rfl, q6⟩ := o6.rd
  have J_6 := Lib.hid q6
  clear o6 q6 b6
  clear R1_5 R2_5 T_5 B5
  go_wp2_with fail
  have CC := proof_Check _ A5 C5 (trimL l1) w6 T_6.out (hK.below B6.out)
  rw [CT.out] at CC
  refine CC.mono ?_
  clear CC
  rintro e w7 ⟨rfl, b7⟩
  have B7 := Lib.hid (below_both B6.out b7)
  have R1_7 := Lib.hid (R1_6.out.frame (Same.below b7))
  have R2_7 := Lib.hid (R2_6.out.frame (Same.below b7))
  have T_7 := Lib.hid (T_6.out.frame (Same.below b7))
  have J_7 := Lib.hid (J_6.out.frame (Same.below b7))
  clear b7
  clear R1_6 R2_6 T_6 J_6 B6
  go_wp2_with fail
  have CC := proof_Check _ A6 C6 (joinL l1 l2) w7 J_7.out (hK.below B7.out)
  rw [CJ.out] at CC
  refine CC.mono ?_
  clear CC
  rintro e w8 ⟨rfl, b8⟩
  have B8 := Lib.hid (below_both B7.out b8)
  have R1_8 := Lib.hid (R1_7.out.frame (Same.below b8))
  have R2_8 := Lib.hid (R2_7.out.frame (Same.below b8))
  have T_8 := Lib.hid (T_7.out.frame (Same.below b8))
  have J_8 := Lib.hid (J_7.out.frame (Same.below b8))
  clear b8
  clear R1_7 R2_7 T_7 J_7 B7
  go_wp2_with fail
  have CC := proof_Trim _ A5 C5 (trimL l1) w8 T_8.out (hK.below B8.out) LT.out (by omega)
  rw [ID.out] at CC
  refine CC.mono ?_
  clear CC
  rintro e w9 ⟨v9, rfl, o9, b9⟩
  have B9 := Lib.hid (below_both B8.out b9)
  have R1_9 := Lib.hid (R1_8.out.frame (Same.below b9))
  have R2_9 := Lib.hid (R2_8.out.frame (Same.below b9))
  have T_9 := Lib.hid (T_8.out.frame (Same.below b9))
  have J_9 := Lib.hid (J_8.out.frame (Same.below b9))
  obtain ⟨A9, C9, rfl, q9⟩ := o9.rd
  have X_9 := Lib.hid q9
  clear o9 q9 b9
  clear R1_8 R2_8 T_8 J_8 B8
  go_wp2_with fail
  refine (ref34_Same _ _ A9 A5 C9 C5 (trimL l1) (trimL l1) w9 X_9.out T_9.out).mono ?_
  rintro e w10 ⟨rfl, b10⟩
  have B10 := Lib.hid (below_both B9.out b10)
  have R1_10 := Lib.hid (R1_9.out.frame (Same.below b10))
  have R2_10 := Lib.hid (R2_9.out.frame (Same.below b10))
  have T_10 := Lib.hid (T_9.out.frame (Same.below b10))
  have J_10 := Lib.hid (J_9.out.frame (Same.below b10))
  have t10 : decide (trimL l1 = trimL l1) = true := decide_eq_true rfl
  clear b10 X_9
  clear R1_9 R2_9 T_9 J_9 B9
  go_wp2_with fail
  refine (proof_Needed _ A5 C5 (trimL l1) w10 T_10.out (hK.below B10.out)).mono ?_
  rintro e w11 ⟨v11, rfl, o11, b11, -⟩
  have B11 := Lib.hid (below_both B10.out b11)
  have R1_11 := Lib.hid (R1_10.out.frame (Same.below b11))
  have R2_11 := Lib.hid (R2_10.out.frame (Same.below b11))
  have T_11 := Lib.hid (T_10.out.frame (Same.below b11))
  have J_11 := Lib.hid (J_10.out.frame (Same.below b11))
  obtain ⟨A11, C11, hv11⟩ := o11.form
  rw [NL.out] at hv11
  subst hv11
  have q11 : ((trimL l1).length : Int) ≤ (l1.length : Int) := by omega
  have q12 : (((joinL l1 l2).length : Int) != (l1.length : Int) + (l2.length : Int)) = false := by have := JL.out; rw [bne_eq_false_iff_eq]; omega
  clear o11 b11 t10
  clear R1_10 R2_10 T_10 J_10 B10
  go_wp2_with fail
  have CC := proof_Depth _ A5 C5 (trimL l1) w11 T_11.out (hK.below B11.out)
  rw [DT.out] at CC
  refine CC.mono ?_
  clear CC
  rintro e w12 ⟨rfl, b12⟩
  have B12 := Lib.hid (below_both B11.out b12)
  have R1_12 := Lib.hid (R1_11.out.frame (Same.below b12))
  have R2_12 := Lib.hid (R2_11.out.frame (Same.below b12))
  have T_12 := Lib.hid (T_11.out.frame (Same.below b12))
  have J_12 := Lib.hid (J_11.out.frame (Same.below b12))
  clear b12
  clear R1_11 R2_11 T_11 J_11 B11
  go_wp2_with fail
  refine (proof_Depth _ a1 c1 l1 w12 R1_12.out (hK.below B12.out)).mono ?_
  rintro e w13 ⟨rfl, b13⟩
  have B13 := Lib.hid (below_both B12.out b13)
  have R1_13 := Lib.hid (R1_12.out.frame (Same.below b13))
  have R2_13 := Lib.hid (R2_12.out.frame (Same.below b13))
  have T_13 := Lib.hid (T_12.out.frame (Same.below b13))
  have J_13 := Lib.hid (J_12.out.frame (Same.below b13))
  clear b13
  clear R1_12 R2_12 T_12 J_12 B12
  go_wp2_with fail
  have CC := proof_Depth _ A6 C6 (joinL l1 l2) w13 J_13.out (hK.below B13.out)
  rw [DJ.out] at CC
  refine CC.mono ?_
  clear CC
  rintro e w14 ⟨rfl, b14⟩
  have B14 := Lib.hid (below_both B13.out b14)
  have R1_14 := Lib.hid (R1_13.out.frame (Same.below b14))
  have R2_14 := Lib.hid (R2_13.out.frame (Same.below b14))
  have T_14 := Lib.hid (T_13.out.frame (Same.below b14))
  have J_14 := Lib.hid (J_13.out.frame (Same.below b14))
  clear b14
  clear R1_13 R2_13 T_13 J_13 B13
  go_wp2_with fail
  refine (proof_Depth _ a2 c2 l2 w14 R2_14.out (hK.below B14.out)).mono ?_
  rintro e w15 ⟨rfl, b15⟩
  have B15 := Lib.hid (below_both B14.out b15)
  have R1_15 := Lib.hid (R1_14.out.frame (Same.below b15))
  have R2_15 := Lib.hid (R2_14.out.frame (Same.below b15))
  have T_15 := Lib.hid (T_14.out.frame (Same.below b15))
  have J_15 := Lib.hid (J_14.out.frame (Same.below b15))
  clear b15
  clear R1_14 R2_14 T_14 J_14 B14
  go_wp2_with fail
  have CC := proof_Trim _ A6 C6 (joinL l1 l2) w15 J_15.out (hK.below B15.out) LJ.out (by have := JL.out; omega)
  rw [TJ.out] at CC
  refine CC.mono ?_
  clear CC
  rintro e w16 ⟨v16, rfl, o16, b16⟩
  have B16 := Lib.hid (below_both B15.out b16)
  have R1_16 := Lib.hid (R1_15.out.frame (Same.below b16))
  have R2_16 := Lib.hid (R2_15.out.frame (Same.below b16))
  have T_16 := Lib.hid (T_15.out.frame (Same.below b16))
  have J_16 := Lib.hid (J_15.out.frame (Same.below b16))
  obtain ⟨A16, C16, rfl, q16⟩ := o16.rd
  have Y_16 := Lib.hid q16
  clear o16 q16 b16
  clear R1_15 R2_15 T_15 J_15 B15
  go_wp2_with fail
  refine (proof_Trim _ a2 c2 l2 w16 R2_16.out (hK.below B16.out) HX2.out (by omega)).mono ?_
  rintro e w17 ⟨v17, rfl, o17, b17⟩
  have B17 := Lib.hid (below_both B16.out b17)
  have R1_17 := Lib.hid (R1_16.out.frame (Same.below b17))
  have R2_17 := Lib.hid (R2_16.out.frame (Same.below b17))
  have T_17 := Lib.hid (T_16.out.frame (Same.below b17))
  have J_17 := Lib.hid (J_16.out.frame (Same.below b17))
  have Y_17 := Lib.hid (Y_16.out.frame (Same.below b17))
  obtain ⟨A17, C17, rfl, q17⟩ := o17.rd
  have Z_17 := Lib.hid q17
  clear o17 q17 b17
  clear R1_16 R2_16 T_16 J_16 Y_16 B16
  go_wp2_with fail
  refine (ref34_Same _ _ A16 A17 C16 C17 (trimL l2) (trimL l2) w17 Y_17.out Z_17.out).mono ?_
  rintro e w18 ⟨rfl, b18⟩
  have B18 := Lib.hid (below_both B17.out b18)
  have R1_18 := Lib.hid (R1_17.out.frame (Same.below b18))
  have R2_18 := Lib.hid (R2_17.out.frame (Same.below b18))
  have T_18 := Lib.hid (T_17.out.frame (Same.below b18))
  have J_18 := Lib.hid (J_17.out.frame (Same.below b18))
  have Y_18 := Lib.hid (Y_17.out.frame (Same.below b18))
  have t18 : decide (trimL l2 = trimL l2) = true := decide_eq_true rfl
  clear b18 Z_17
  clear R1_17 R2_17 T_17 J_17 Y_17 B17
  go_wp2_with fail
  refine (lives_true w18 (hK.below B18.out)).mono ?_
  rintro e w19 ⟨rfl, b19⟩
  go_wp2
  go_ret
  exact ⟨rfl, below_both B18.out b19⟩
end Go.Proofs.Sat
