/- The examples of ch. 02, and the laws. -/
import Derived.Test.YtdncgkmbglmifaaDoorDgQ
set_option linter.unusedVariables false
set_option linter.unusedSimpArgs false
namespace Go.Proofs.Sat
open Go Go.RowKit
theorem hex255 : hexL 255 = [48, 120, 102, 102] := by
  unfold hexL
  rw [wrL_big (b := 16) (x := 255) (by omega) (by omega), wrL_small (b := 16) (x := 255 / 16) (by omega)]
  decide
theorem join_ex : joinW [-1, 20] = [45, 49, 32, 50, 48] := by
  have h : joinW [-1, 20] = (joinW [-1] ++ [32]) ++ Lib.itoa 20 := joinW_snoc (l := [-1]) (by simp) 20
  rw [h, joinW_one, itoa_neg (n := -1) (by omega), itoa_pos (n := 20) (by omega)]
  rw [show Int.toNat 20 = 20 from rfl, show Int.natAbs (-1) = 1 from rfl, wrL_big (b := 10) (x := 20) (by omega) (by omega), wrL_small (b := 10) (x := 1) (by omega), wrL_small (b := 10) (x := 20 / 10) (by omega)]
  decide
theorem Hex_ex (W : World) (hW : DigT W) : Calls Tryd.prog 21 #[.int .u64 255] W fun e w' => e = .returned (.string { data := #[48, 120, 102, 102] }) ∧ Below W.heap.size W w' := by
  have h := digits_Hex 255 W (by omega) hW.deb
  rw [hex255] at h
  exact h
theorem Parse_ex (l : List UInt8) (v : Nat) (e0 : Int) (hl : l.length ≤ 100) (hv : parV l = v) (he : parE l = e0) (W : World) (hW : DigT W) : Calls Tryd.prog 10 #[.string (strOf l)] W fun e w' => e = .returned (.tuple #[.int .u64 (v : Int), .int .i64 e0]) ∧ Below W.heap.size W w' := by
  have h := digits_Parse l W (by omega) hW
  rw [hv, he] at h
  exact h
theorem List_ex (W : World) (hW : DigT W) : Calls Tryd.prog 16 #[.slice (some ⟨W.heap.size, 0, none⟩) 2 2] (W.alloc (.cells #[.int .i64 (-1), .int .i64 20] 3)) fun e w' => e = .returned (.string { data := #[45, 49, 32, 50, 48] }) ∧ Below W.heap.size W w' := by
  have b0 : Below W.heap.size W (W.alloc (.cells #[.int .i64 (-1), .int .i64 20] 3)) := (Below.refl _ _).alloc (Nat.le_refl _) _
  have hR : Rd (Kd.int .i64) (fun _ => True) (W.alloc (.cells #[.int .i64 (-1), .int .i64 20] 3)) (some ⟨W.heap.size, 0, none⟩) 2 [-1, 20] := Rd.lit W 3 [-1, 20] 0 (by decide)
  have h := digits_List (fun _ => True) (some ⟨W.heap.size, 0, none⟩) 2 [-1, 20] _ (hW.below b0) hR (by decide) (by decide)
  rw [join_ex] at h
  refine h.mono ?_
  rintro e w' ⟨rfl, b⟩
  exact ⟨rfl, below_both b0 b⟩
set_option maxRecDepth 20000 in
set_option maxHeartbeats 1000000 in
theorem law02_live (w : World) (hT : DigT w) : Calls Tryd.prog 9 #[] w fun e w' => e = .returned (.bool true) ∧ Below w.heap.size w w' := by
  have HT := Lib.hid hT
  have C1 := Lib.hid (fun W hW => Parse_ex [48, 120, 102, 102] 255 0 (by decide) (by decide +kernel) (by decide +kernel) W hW)
  have C2 := Lib.hid (fun W hW => Parse_ex [48, 48, 55] 0 6 (by decide) (by decide +kernel) (by decide +kernel) W hW)
  have C3 := Lib.hid (fun W hW => Parse_ex [48, 120, 70, 70] 0 6 (by decide) (by decide +kernel) (by decide +kernel) W hW)
  have C4 := Lib.hid (fun W hW => Parse_ex [49, 56, 52, 52, 54, 55, 52, 52, 48, 55, 51, 55, 48, 57, 53, 53, 49, 54, 49, 54] 0 2 (by decide) (by decide +kernel) (by decide +kernel) W hW)
  have hp5 : plErr [45, 49, 32, 50, 48] = 0 ∧ plV [45, 49, 32, 50, 48] = [-1, 20] := by rw [← join_ex]; exact list_back (l := [-1, 20]) (by decide)
  have hp6 : plErr [49, 32, 32, 50] = 6 := by decide +kernel
  have C5 := Lib.hid (fun W hW => digits_ParseList [45, 49, 32, 50, 48] W (by decide) hW)
  have C6 := Lib.hid (fun W hW => digits_ParseList [49, 32, 32, 50] W (by decide) hW)
  rw [hp5.1, hp5.2] at C5
  rw [hp6] at C6
  clear hp5 hp6 hT
  go_enter Tryd.func9, Tryd.ntmps9
  go_wp2_with fail
  refine (C1.out _ HT.out).mono ?_
  rintro e w1 ⟨rfl, b⟩
  have B1 := Lib.hid b
  have T1 := Lib.hid (HT.out.below b)
  clear b C1
  go_wp2_with fail
  refine (C2.out _ T1.out).mono ?_
  rintro e w2 ⟨rfl, b⟩
  have B2 := Lib.hid (below_both B1.out b)
  have T2 := Lib.hid (T1.out.below b)
  clear b C2
  go_wp2_with fail
  refine (C3.out _ T2.out).mono ?_
  rintro e w3 ⟨rfl, b⟩
  have B3 := Lib.hid (below_both B2.out b)
  have T3 := Lib.hid (T2.out.below b)
  clear b C3
  go_wp2_with fail
  refine (C4.out _ T3.out).mono ?_
  rintro e w4 ⟨rfl, b⟩
  have B4 := Lib.hid (below_both B3.out b)
  have T4 := Lib.hid (T3.out.below b)
  clear b C4
  go_wp2_with fail
  refine (C5.out _ T4.out).mono ?_
  rintro e w5 ⟨v5, rfl, o5, b⟩
  have B5 := Lib.hid (below_both B4.out b)
  have T5 := Lib.hid (T4.out.below b)
  have O5 := Lib.hid o5
  clear b C5 o5
  go_wp2_with fail
  refine (C6.out _ T5.out).mono ?_
  rintro e w6 ⟨v6, rfl, o6, b⟩
  have B6 := Lib.hid (below_both B5.out b)
  have T6 := Lib.hid (T5.out.below b)
  have O6 := Lib.hid (O5.out.below b)
  clear b C6 o6 O5
  obtain ⟨a, c, hf⟩ := O6.out.form
  subst hf
  go_wp2_with (first
    | (go_at_call 21; refine (Hex_ex _ T6.out).mono ?_; rintro e w7 ⟨rfl, b⟩; have B7 := Lib.hid (below_both B6.out b); have T7 := Lib.hid (T6.out.below b); have O7 := Lib.hid (O6.out.below b); clear b; obtain ⟨bb, oo, rfl, -, -, hc⟩ := (O7.out.rd').vals (by decide) 0; have d0 := hc 0 (by decide); have d1 := hc 1 (by decide); simp only [List.getD_cons_zero, List.getD_cons_succ, Nat.add_zero] at d0 d1; clear hc)
    | fail)
  refine (List_ex _ T7.out).mono ?_
  rintro e w8 ⟨rfl, b⟩
  have B8 := Lib.hid (below_both B7.out b)
  clear b
  go_wp2_with fail
  go_ret
  exact ⟨rfl, B8.out⟩
theorem calls_drawn {P : Program} {f : FuncId} {args : Array Value} {w : World} {Q : Ending → Prop} (h : Calls P f args w fun e w' => Q e ∧ Drawn w w') : Calls P f args w fun e w' => Q e ∧ Below w.heap.size w w' := h.mono fun e w' h => ⟨h.1, h.2.below _⟩
set_option maxRecDepth 20000 in
set_option maxHeartbeats 1000000 in
theorem law_Prints (x n : Int) (w : World) (hT : DigT w) (hx : 0 ≤ x ∧ x < 18446744073709551616) (hn : -9223372036854775808 ≤ n ∧ n ≤ 9223372036854775807) : Calls Tryd.prog 6 #[.int .u64 x, .int .i64 n] w fun e w' => e = .returned (.bool true) ∧ Below w.heap.size w w' := by
  have hxt : ((x.toNat : Nat) : Int) = x := Int.toNat_of_nonneg hx.1
  have hx64 : x.toNat < 18446744073709551616 := by omega
  have C1 := Lib.hid (fun W (hW : DigT W) => digits_Dec x.toNat W hx64 hW.pow)
  have C2 := Lib.hid (fun W (hW : DigT W) => calls_drawn (ref02_Dec x.toNat W hx64))
  have C3 := Lib.hid (fun W (hW : DigT W) => digits_Hex x.toNat W hx64 hW.deb)
  have C4 := Lib.hid (fun W (hW : DigT W) => calls_drawn (ref02_Hex x.toNat W hx64))
  have C5 := Lib.hid (fun W (hW : DigT W) => digits_Int n W hn.1 hn.2 hW)
  have C6 := Lib.hid (fun W (hW : DigT W) => calls_drawn (ref02_Int n W hn.1 hn.2))
  rw [hxt] at C1 C2 C3 C4
  generalize strOf (wrL 10 x.toNat) = s1 at *
  generalize strOf (hexL x.toNat) = s2 at *
  generalize strOf (Lib.itoa n) = s3 at *
  clear hxt hx64 hx hn
  have B0 : Hid (Below w.heap.size w w) := Below.refl _ _
  have T0 := Lib.hid hT
  clear hT
  have CL := Lib.hid (fun W hW => law02_live W hW)
  go_enter Tryd.func6, Tryd.ntmps6
  go_wp2_with fail
  refine (C1.out _ T0.out).mono ?_
  rintro e w1 ⟨rfl, b⟩
  have B1 := Lib.hid (below_both B0.out b)
  have T1 := Lib.hid (T0.out.below b)
  clear b C1
  go_wp2_with fail
  refine (C2.out _ T1.out).mono ?_
  rintro e w2 ⟨rfl, b⟩
  have B2 := Lib.hid (below_both B1.out b)
  have T2 := Lib.hid (T1.out.below b)
  clear b C2
  go_wp2_with fail
  refine (C3.out _ T2.out).mono ?_
  rintro e w3 ⟨rfl, b⟩
  have B3 := Lib.hid (below_both B2.out b)
  have T3 := Lib.hid (T2.out.below b)
  clear b C3
  go_wp2_with fail
  refine (C4.out _ T3.out).mono ?_
  rintro e w4 ⟨rfl, b⟩
  have B4 := Lib.hid (below_both B3.out b)
  have T4 := Lib.hid (T3.out.below b)
  clear b C4
  go_wp2_with fail
  refine (C5.out _ T4.out).mono ?_
  rintro e w5 ⟨rfl, b⟩
  have B5 := Lib.hid (below_both B4.out b)
  have T5 := Lib.hid (T4.out.below b)
  clear b C5
  go_wp2_with fail
  refine (C6.out _ T5.out).mono ?_
  rintro e w6 ⟨rfl, b⟩
  have B6 := Lib.hid (below_both B5.out b)
  have T6 := Lib.hid (T5.out.below b)
  clear b C6
  go_wp2_with fail
  refine (CL.out _ T6.out).mono ?_
  rintro e w7 ⟨rfl, b⟩
  have B7 := Lib.hid (below_both B6.out b)
  have T7 := Lib.hid (T6.out.below b)
  clear b
  go_wp2_with fail
  go_ret
  exact ⟨rfl, B7.out⟩
theorem str_form (s : ByteArray) : ∃ l : List UInt8, s = strOf l := ⟨s.data.toList, (strOf_back s).symm⟩
set_option maxRecDepth 20000 in
set_option maxHeartbeats 1000000 in
theorem law_Parses (s : ByteArray) (w : World) (hT : DigT w) : Calls Tryd.prog 3 #[.string s] w fun e w' => e = .returned (.bool true) ∧ Below w.heap.size w w' := by
  obtain ⟨l, rfl⟩ := str_form s
  have hsz := strOf_size l
  obtain ⟨n, hn⟩ : ∃ n, n = l.length := ⟨_, rfl⟩
  rw [← hn] at hsz
  have B0 : Hid (Below w.heap.size w w) := Below.refl _ _
  have T0 := Lib.hid hT
  clear hT
  have CL := Lib.hid (fun W hW => law02_live W hW)
  by_cases h : 2000 < n
  · have t0 : decide (2000 < n) = true := decide_eq_true h
    have t1 : decide ((2000 : Int) < (n : Int)) = true := decide_eq_true (by omega)
    clear h hn
    go_enter Tryd.func3, Tryd.ntmps3
    go_wp2_with fail
    refine (CL.out _ T0.out).mono ?_
    rintro e w1 ⟨rfl, b⟩
    have B1 := Lib.hid (below_both B0.out b)
    have T1 := Lib.hid (T0.out.below b)
    clear b
    go_wp2_with fail
    go_ret
    exact ⟨rfl, B1.out⟩
  · have t0 : decide (2000 < n) = false := decide_eq_false h
    have t1 : decide ((2000 : Int) < (n : Int)) = false := decide_eq_false (by omega)
    have C1 := Lib.hid (fun W (hW : DigT W) => digits_Parse l W (by omega) hW)
    have C2 := Lib.hid (fun W (hW : DigT W) => calls_drawn (ref02_Parse l W (by omega)))
    have C3 := Lib.hid (fun W (hW : DigT W) => digits_ParseInt l W (by omega) hW)
    have C4 := Lib.hid (fun W (hW : DigT W) => calls_drawn (ref02_ParseInt l W (by omega)))
    generalize (parV l : Int) = a at *
    generalize parE l = b1 at *
    generalize pinV l = c at *
    generalize pinE l = d at *
    clear h hn
    go_enter Tryd.func3, Tryd.ntmps3
    go_wp2_with fail
    refine (C1.out _ T0.out).mono ?_
    rintro e w1 ⟨rfl, b⟩
    have B1 := Lib.hid (below_both B0.out b)
    have T1 := Lib.hid (T0.out.below b)
    clear b C1
    go_wp2_with fail
    refine (C2.out _ T1.out).mono ?_
    rintro e w2 ⟨rfl, b⟩
    have B2 := Lib.hid (below_both B1.out b)
    have T2 := Lib.hid (T1.out.below b)
    clear b C2
    go_wp2_with fail
    refine (C3.out _ T2.out).mono ?_
    rintro e w3 ⟨rfl, b⟩
    have B3 := Lib.hid (below_both B2.out b)
    have T3 := Lib.hid (T2.out.below b)
    clear b C3
    go_wp2_with fail
    refine (C4.out _ T3.out).mono ?_
    rintro e w4 ⟨rfl, b⟩
    have B4 := Lib.hid (below_both B3.out b)
    have T4 := Lib.hid (T3.out.below b)
    clear b C4
    go_wp2_with fail
    refine (CL.out _ T4.out).mono ?_
    rintro e w5 ⟨rfl, b⟩
    have B5 := Lib.hid (below_both B4.out b)
    have T5 := Lib.hid (T4.out.below b)
    clear b
    go_wp2_with fail
    go_ret
    exact ⟨rfl, B5.out⟩
set_option maxRecDepth 20000 in
set_option maxHeartbeats 1000000 in
theorem law_Back (x n : Int) (w : World) (hT : DigT w) (hx : 0 ≤ x ∧ x < 18446744073709551616) (hn : -9223372036854775808 ≤ n ∧ n ≤ 9223372036854775807) : Calls Tryd.prog 7 #[.int .u64 x, .int .i64 n] w fun e w' => e = .returned (.bool true) ∧ Below w.heap.size w w' := by
  have hxt : ((x.toNat : Nat) : Int) = x := Int.toNat_of_nonneg hx.1
  have hx64 : x.toNat < 18446744073709551616 := by omega
  have C1 := Lib.hid (fun W (hW : DigT W) => digits_Dec x.toNat W hx64 hW.pow)
  have C2 := Lib.hid (fun W (hW : DigT W) => digits_Parse (wrL 10 x.toNat) W (by have := wr_len64 (b := 10) (by omega) hx64; omega) hW)
  have C3 := Lib.hid (fun W (hW : DigT W) => digits_Hex x.toNat W hx64 hW.deb)
  have C4 := Lib.hid (fun W (hW : DigT W) => digits_Parse (hexL x.toNat) W (by have := wr_len64 (b := 16) (by omega) hx64; unfold hexL; simp; omega) hW)
  have C5 := Lib.hid (fun W (hW : DigT W) => digits_Int n W hn.1 hn.2 hW)
  have C6 := Lib.hid (fun W (hW : DigT W) => digits_ParseInt (Lib.itoa n) W (by have := itoa_len hn; omega) hW)
  rw [(parse_dec hx64).1, (parse_dec hx64).2, hxt] at C2
  rw [(parse_hex hx64).1, (parse_hex hx64).2, hxt] at C4
  rw [(int_back hn.1 hn.2).1, (int_back hn.1 hn.2).2] at C6
  rw [hxt] at C1 C3
  generalize strOf (wrL 10 x.toNat) = s1 at *
  generalize strOf (hexL x.toNat) = s2 at *
  generalize strOf (Lib.itoa n) = s3 at *
  clear hxt hx64 hx hn
  have B0 : Hid (Below w.heap.size w w) := Below.refl _ _
  have T0 := Lib.hid hT
  clear hT
  have CL := Lib.hid (fun W hW => law02_live W hW)
  go_enter Tryd.func7, Tryd.ntmps7
  go_wp2_with fail
  refine (C1.out _ T0.out).mono ?_
  rintro e w1 ⟨rfl, b⟩
  have B1 := Lib.hid (below_both B0.out b)
  have T1 := Lib.hid (T0.out.below b)
  clear b C1
  go_wp2_with fail
  refine (C2.out _ T1.out).mono ?_
  rintro e w2 ⟨rfl, b⟩
  have B2 := Lib.hid (below_both B1.out b)
  have T2 := Lib.hid (T1.out.below b)
  clear b C2
  go_wp2_with fail
  refine (C3.out _ T2.out).mono ?_
  rintro e w3 ⟨rfl, b⟩
  have B3 := Lib.hid (below_both B2.out b)
  have T3 := Lib.hid (T2.out.below b)
  clear b C3
  go_wp2_with fail
  refine (C4.out _ T3.out).mono ?_
  rintro e w4 ⟨rfl, b⟩
  have B4 := Lib.hid (below_both B3.out b)
  have T4 := Lib.hid (T3.out.below b)
  clear b C4
  go_wp2_with fail
  refine (C5.out _ T4.out).mono ?_
  rintro e w5 ⟨rfl, b⟩
  have B5 := Lib.hid (below_both B4.out b)
  have T5 := Lib.hid (T4.out.below b)
  clear b C5
  go_wp2_with fail
  refine (C6.out _ T5.out).mono ?_
  rintro e w6 ⟨rfl, b⟩
  have B6 := Lib.hid (below_both B5.out b)
  have T6 := Lib.hid (T5.out.below b)
  clear b C6
  go_wp2_with fail
  refine (CL.out _ T6.out).mono ?_
  rintro e w7 ⟨rfl, b⟩
  have B7 := Lib.hid (below_both B6.out b)
  have T7 := Lib.hid (T6.out.below b)
  clear b
  go_wp2_with fail
  go_ret
  exact ⟨rfl, B7.out⟩
end Go.Proofs.Sat
