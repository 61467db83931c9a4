/- The laws of lists, and of accepted texts. -/
import Derived.Test.YtdncgkmbglmifaaDoorDgR
import Derived.Test.YtdncgkmbglmifaaDoorDgS
set_option linter.unusedVariables false
set_option linter.unusedSimpArgs false
namespace Go.Proofs.Sat
open Go Go.RowKit
set_option maxRecDepth 20000 in
set_option maxHeartbeats 1000000 in
theorem law_Lists (S : Nat → Prop) (a : Option Addr) (c : Nat) (li : List Int) (s : ByteArray) (w : World) (hT : DigT w) (hR : Rd (Kd.int .i64) S w a c li) (hI : IntsOK li) :
    Calls Tryd.prog 4 #[.slice a li.length c, .string s] w fun e w' => e = .returned (.bool true) ∧ Below w.heap.size w w' := by
  obtain ⟨l, rfl⟩ := str_form s
  have hsz := strOf_size l
  obtain ⟨n, hn⟩ : ∃ n, n = l.length := ⟨_, rfl⟩
  rw [← hn] at hsz
  obtain ⟨m, hm⟩ : ∃ m, m = li.length := ⟨_, rfl⟩
  have HM := Lib.hid hm
  have R0 := Lib.hid hR
  rw [← hm]
  clear hR
  have B0 : Hid (Below w.heap.size w w) := Below.refl _ _
  have T0 := Lib.hid hT
  clear hT
  have CL := Lib.hid (fun W hW => law02_live W hW)
  by_cases h : 300 < m
  · have t0 : decide (300 < m) = true := decide_eq_true h
    have t1 : decide ((300 : Int) < (m : Int)) = true := decide_eq_true (by omega)
    clear h hn hm
    go_enter Tryd.func4, Tryd.ntmps4
    go_wp2_with fail
    refine (CL.out _ T0.out).mono ?_
    rintro e w1 ⟨rfl, b⟩
    have B1 := Lib.hid (below_both B0.out b)
    have T1 := Lib.hid (T0.out.below b)
    clear b
    go_wp2_with fail
    go_ret
    exact ⟨rfl, B1.out⟩
  have t0 : decide (300 < m) = false := decide_eq_false h
  have t1 : decide ((300 : Int) < (m : Int)) = false := decide_eq_false (by omega)
  by_cases h2 : 4000 < n
  · have t2 : decide (4000 < n) = true := decide_eq_true h2
    have t3 : decide ((4000 : Int) < (n : Int)) = true := decide_eq_true (by omega)
    clear h h2 hn hm
    go_enter Tryd.func4, Tryd.ntmps4
    go_wp2_with fail
    refine (CL.out _ T0.out).mono ?_
    rintro e w1 ⟨rfl, b⟩
    have B1 := Lib.hid (below_both B0.out b)
    have T1 := Lib.hid (T0.out.below b)
    clear b
    go_wp2_with fail
    go_ret
    exact ⟨rfl, B1.out⟩
  have t2 : decide (4000 < n) = false := decide_eq_false h2
  have t3 : decide ((4000 : Int) < (n : Int)) = false := decide_eq_false (by omega)
  have C1 := Lib.hid (fun W (hW : DigT W) => digits_ParseList l W (by omega) hW)
  have C2 := Lib.hid (fun W (hW : DigT W) => ref02_ParseList l W (by omega))
  have C3 := Lib.hid (fun W (hW : DigT W) (hR : Rd (Kd.int .i64) S W a c li) => digits_List S a c li W hW hR hI (by omega))
  have C4 := Lib.hid (fun W (hW : DigT W) (hR : Rd (Kd.int .i64) S W a c li) => calls_drawn (ref02_List S a c li W hR hI (by omega)))
  rw [← hm] at C3 C4
  have hpl : (plV l).length ≤ 4001 := by
    unfold plV
    split
    · simp
    · split
      · rw [List.length_map]; have := spl_len 32 l; omega
      · simp
  generalize plErr l = e0 at *
  generalize plV l = V at *
  generalize strOf (joinW li) = J at *
  clear h h2 hn hm hI
  go_enter Tryd.func4, Tryd.ntmps4
  go_wp2_with fail
  refine (C1.out _ T0.out).mono ?_
  rintro e w1 ⟨v1, rfl, o1, b⟩
  have B1 := Lib.hid (below_both B0.out b)
  have T1 := Lib.hid (T0.out.below b)
  have O1 := Lib.hid o1
  have R1 := Lib.hid (R0.out.frame (Same.below b))
  clear o1 R0 C1
  clear b
  go_wp2_with fail
  refine (C2.out _ T1.out).mono ?_
  rintro e w2 ⟨v2, rfl, o2, b⟩
  have B2 := Lib.hid (below_both B1.out b)
  have T2 := Lib.hid (T1.out.below b)
  have O2 := Lib.hid (O1.out.below b)
  have P2 := Lib.hid o2
  have R2 := Lib.hid (R1.out.frame (Same.below b))
  clear o2 R1 O1 C2
  clear b
  obtain ⟨a1, c1, hf1⟩ := O2.out.form
  obtain ⟨a2, c2, hf2⟩ := P2.out.form
  subst hf1
  subst hf2
  go_wp2_with fail
  refine (C3.out _ T2.out R2.out).mono ?_
  rintro e w3 ⟨rfl, b⟩
  have B3 := Lib.hid (below_both B2.out b)
  have T3 := Lib.hid (T2.out.below b)
  have O3 := Lib.hid (O2.out.below b)
  have P3 := Lib.hid (P2.out.below b)
  have R3 := Lib.hid (R2.out.frame (Same.below b))
  clear R2 O2 P2 C3
  clear b
  go_wp2_with fail
  refine (C4.out _ T3.out R3.out).mono ?_
  rintro e w4 ⟨rfl, b⟩
  have B4 := Lib.hid (below_both B3.out b)
  have T4 := Lib.hid (T3.out.below b)
  have O4 := Lib.hid (O3.out.below b)
  have P4 := Lib.hid (P3.out.below b)
  clear R3 O3 P3 C4
  clear b
  have CS := Lib.hid (calls_drawn (ref02_SameInts _ _ a1 a2 c1 c2 V V w4 (by have := O4.out.rd'; exact this) (by have := P4.out.rd'; exact this)))
  rw [show decide (V = V) = true by simp] at CS
  go_wp2_with fail
  refine CS.out.mono ?_
  rintro e w5 ⟨rfl, b⟩
  have B5 := Lib.hid (below_both B4.out b)
  have T5 := Lib.hid (T4.out.below b)
  clear b CS
  go_wp2_with fail
  refine (CL.out _ T5.out).mono ?_
  rintro e w6 ⟨rfl, b⟩
  have B6 := Lib.hid (below_both B5.out b)
  have T6 := Lib.hid (T5.out.below b)
  clear b
  go_wp2_with fail
  go_ret
  exact ⟨rfl, B6.out⟩
set_option maxRecDepth 20000 in
set_option maxHeartbeats 1000000 in
theorem law_ListBack (S : Nat → Prop) (a : Option Addr) (c : Nat) (li : List Int) (w : World) (hT : DigT w) (hR : Rd (Kd.int .i64) S w a c li) (hI : IntsOK li) :
    Calls Tryd.prog 5 #[.slice a li.length c] w fun e w' => e = .returned (.bool true) ∧ Below w.heap.size w w' := by
  obtain ⟨m, hm⟩ : ∃ m, m = li.length := ⟨_, rfl⟩
  have R0 := Lib.hid hR
  rw [← hm]
  clear hR
  have B0 : Hid (Below w.heap.size w w) := Below.refl _ _
  have T0 := Lib.hid hT
  clear hT
  have CL := Lib.hid (fun W hW => law02_live W hW)
  by_cases h : 1000 < m
  · have t0 : decide (1000 < m) = true := decide_eq_true h
    have t1 : decide ((1000 : Int) < (m : Int)) = true := decide_eq_true (by omega)
    clear h hm
    go_enter Tryd.func5, Tryd.ntmps5
    go_wp2_with fail
    refine (CL.out _ T0.out).mono ?_
    rintro e w1 ⟨rfl, b⟩
    have B1 := Lib.hid (below_both B0.out b)
    have T1 := Lib.hid (T0.out.below b)
    clear b
    go_wp2_with fail
    go_ret
    exact ⟨rfl, B1.out⟩
  have t0 : decide (1000 < m) = false := decide_eq_false h
  have t1 : decide ((1000 : Int) < (m : Int)) = false := decide_eq_false (by omega)
  have hjl := joinW_len hI
  have C1 := Lib.hid (fun W (hW : DigT W) (hR : Rd (Kd.int .i64) S W a c li) => digits_List S a c li W hW hR hI (by omega))
  have C2 := Lib.hid (fun W (hW : DigT W) => digits_ParseList (joinW li) W (by omega) hW)
  rw [(list_back hI).1, (list_back hI).2] at C2
  rw [← hm] at C1
  have HM := Lib.hid hm
  generalize strOf (joinW li) = J at *
  clear h hm hI hjl
  go_enter Tryd.func5, Tryd.ntmps5
  go_wp2_with fail
  refine (C1.out _ T0.out R0.out).mono ?_
  rintro e w1 ⟨rfl, b⟩
  have B1 := Lib.hid (below_both B0.out b)
  have T1 := Lib.hid (T0.out.below b)
  have R1 := Lib.hid (R0.out.frame (Same.below b))
  clear R0 C1
  clear b
  go_wp2_with fail
  refine (C2.out _ T1.out).mono ?_
  rintro e w2 ⟨v2, rfl, o2, b⟩
  have B2 := Lib.hid (below_both B1.out b)
  have T2 := Lib.hid (T1.out.below b)
  have O2 := Lib.hid o2
  have R2 := Lib.hid (R1.out.frame (Same.below b))
  clear o2 R1 C2
  clear b
  obtain ⟨a2, c2, hf2⟩ := O2.out.form
  subst hf2
  have CS := Lib.hid (calls_drawn (ref02_SameInts _ _ a2 a c2 c li li w2 (by have := O2.out.rd'; exact this) R2.out))
  rw [← HM.out] at CS O2
  rw [← HM.out]
  rw [show decide (li = li) = true by simp] at CS
  go_wp2_with fail
  refine CS.out.mono ?_
  rintro e w3 ⟨rfl, b⟩
  have B3 := Lib.hid (below_both B2.out b)
  have T3 := Lib.hid (T2.out.below b)
  clear b CS
  go_wp2_with fail
  refine (CL.out _ T3.out).mono ?_
  rintro e w4 ⟨rfl, b⟩
  have B4 := Lib.hid (below_both B3.out b)
  have T4 := Lib.hid (T3.out.below b)
  clear b
  go_wp2_with fail
  go_ret
  exact ⟨rfl, B4.out⟩
set_option maxRecDepth 20000 in
set_option maxHeartbeats 4000000 in
theorem law_Unique (s : ByteArray) (w : World) (hT : DigT w) : Calls Tryd.prog 8 #[.string s] w fun e w' => e = .returned (.bool true) ∧ Below w.heap.size w w' := by
  obtain ⟨l, rfl⟩ := str_form s
  have hsz := strOf_size l
  have hts := toList_strOf l
  obtain ⟨n, hn⟩ : ∃ n, n = l.length := ⟨_, rfl⟩
  rw [← hn] at hsz
  have B0 : Hid (Below w.heap.size w w) := Below.refl _ _
  have T0 := Lib.hid hT
  clear hT
  have CL := Lib.hid (fun W hW => law02_live W hW)
  by_cases h : 2000 < n
  · have t0 : decide (2000 < n) = true := decide_eq_true h
    have t1 : decide ((2000 : Int) < (n : Int)) = true := decide_eq_true (by omega)
    clear h hn
    go_enter Tryd.func8, Tryd.ntmps8
    go_wp2_with fail
    refine (CL.out _ T0.out).mono ?_
    rintro e w1 ⟨rfl, b⟩
    have B1 := Lib.hid (below_both B0.out b)
    have T1 := Lib.hid (T0.out.below b)
    clear b
    go_wp2_with fail
    go_ret
    exact ⟨rfl, B1.out⟩
  have t0 : decide (2000 < n) = false := decide_eq_false h
  have t1 : decide ((2000 : Int) < (n : Int)) = false := decide_eq_false (by omega)
  have C1 := Lib.hid (fun W (hW : DigT W) => digits_Parse l W (by omega) hW)
  have C2 := Lib.hid (fun W (hW : DigT W) => digits_ParseInt l W (by omega) hW)
  have C3 := Lib.hid (fun W (hW : DigT W) => digits_ParseList l W (by omega) hW)
  have hpv : parV l < 18446744073709551616 := by
    unfold parV
    split <;> exact numV_lt _ _
  have D1 := Lib.hid (fun W (hW : DigT W) => digits_Dec (parV l) W hpv hW.pow)
  have D2 := Lib.hid (fun W (hW : DigT W) => digits_Hex (parV l) W hpv hW.deb)
  have H1 : Hid (parE l = 0 → wrL 10 (parV l) = l ∨ hexL (parV l) = l) := parse_back
  have H2 : Hid (pinE l = 0 → Lib.itoa (pinV l) = l ∧ -9223372036854775808 ≤ pinV l ∧ pinV l ≤ 9223372036854775807) := int_text
  have H3 : Hid (plErr l = 0 → joinW (plV l) = l ∧ IntsOK (plV l) ∧ (plV l).length ≤ l.length + 1) := list_text
  have HN := Lib.hid hn
  have D3 : Hid (pinE l = 0 → ∀ W : World, DigT W → Calls Tryd.prog 23 #[.int .i64 (pinV l)] W fun e w' => e = .returned (.string (strOf l)) ∧ Below W.heap.size W w') := fun he W hW => by
    have h := digits_Int (pinV l) W (H2.out he).2.1 (H2.out he).2.2 hW
    rw [(H2.out he).1] at h
    exact h
  have D4 : Hid (plErr l = 0 → ∀ (W : World) (S : Nat → Prop) (a : Option Addr) (c : Nat), DigT W → Rd (Kd.int .i64) S W a c (plV l) → Calls Tryd.prog 16 #[.slice a (plV l).length c] W fun e w' => e = .returned (.string (strOf l)) ∧ Below W.heap.size W w') := fun he W S a c hW hR => by
    have h := digits_List S a c (plV l) W hW hR (H3.out he).2.1 (by have := (H3.out he).2.2; omega)
    rw [(H3.out he).1] at h
    exact h
  generalize parV l = pv at *
  obtain ⟨x, hx⟩ : ∃ x : Int, x = (pv : Int) := ⟨_, rfl⟩
  rw [← hx] at C1 D1 D2
  generalize pinV l = iv at *
  generalize plV l = V at *
  clear h hn hpv hx H2 H3
  go_enter Tryd.func8, Tryd.ntmps8
  go_wp2_with fail
  refine (C1.out _ T0.out).mono ?_
  rintro e w1 ⟨rfl, b⟩
  have B1 := Lib.hid (below_both B0.out b)
  have T1 := Lib.hid (T0.out.below b)
  clear b
  clear C1
  by_cases he1 : parE l = 0
  · have hway := H1.out he1
    have t5 : (parE l == 0) = true := by rw [he1]; rfl
    generalize parE l = e1 at *
    clear he1 H1
    by_cases hd : wrL 10 pv = l
    · rw [hd] at D1
      clear hway D2
      go_wp2_with fail
      refine (D1.out _ T1.out).mono ?_
      rintro e w2 ⟨rfl, b⟩
      have B2 := Lib.hid (below_both B1.out b)
      have T2 := Lib.hid (T1.out.below b)
      clear b
      clear D1
      go_wp2_with fail
      refine (C2.out _ T2.out).mono ?_
      rintro e w3 ⟨rfl, b⟩
      have B3 := Lib.hid (below_both B2.out b)
      have T3 := Lib.hid (T2.out.below b)
      clear b
      by_cases he2 : pinE l = 0
      · have CI := Lib.hid (D3.out he2)
        have t7 : (pinE l == 0) = true := by rw [he2]; rfl
        have t6 : (pinE l != 0) = false := by rw [he2]; rfl
        generalize pinE l = e2 at *
        clear he2
        go_wp2_with fail
        refine (CI.out _ T3.out).mono ?_
        rintro e w4 ⟨rfl, b⟩
        have B4 := Lib.hid (below_both B3.out b)
        have T4 := Lib.hid (T3.out.below b)
        clear b
        go_wp2_with fail
        refine (C3.out _ T4.out).mono ?_
        rintro e w5 ⟨v3, rfl, o3, b⟩
        have B5 := Lib.hid (below_both B4.out b)
        have T5 := Lib.hid (T4.out.below b)
        have O3 := Lib.hid o3
        clear o3
        clear b
        obtain ⟨a3, c3, hf3⟩ := O3.out.form
        subst hf3
        by_cases he3 : plErr l = 0
        · have CD := Lib.hid (D4.out he3 w5 _ a3 c3 T5.out (by have := O3.out.rd'; exact this))
          have t9 : (plErr l != 0) = false := by rw [he3]; rfl
          have t8 : (plErr l == 0) = true := by rw [he3]; rfl
          generalize plErr l = e3 at *
          generalize V.length = vl at *
          clear he3
          go_wp2_with fail
          refine CD.out.mono ?_
          rintro e w6 ⟨rfl, b⟩
          have B6 := Lib.hid (below_both B5.out b)
          have T6 := Lib.hid (T5.out.below b)
          clear b
          go_wp2_with fail
          refine (CL.out _ T6.out).mono ?_
          rintro e w7 ⟨rfl, b⟩
          have B7 := Lib.hid (below_both B6.out b)
          have T7 := Lib.hid (T6.out.below b)
          clear b
          go_wp2_with fail
          go_ret
          exact ⟨rfl, B7.out⟩
        · have t9 : (plErr l != 0) = true := by rw [bne_iff_ne]; exact he3
          have t8 : (plErr l == 0) = false := by rw [beq_eq_false_iff_ne]; exact he3
          generalize plErr l = e3 at *
          generalize V.length = vl at *
          clear he3
          go_wp2_with fail
          refine (CL.out _ T5.out).mono ?_
          rintro e w6 ⟨rfl, b⟩
          have B6 := Lib.hid (below_both B5.out b)
          have T6 := Lib.hid (T5.out.below b)
          clear b
          go_wp2_with fail
          go_ret
          exact ⟨rfl, B6.out⟩
      · have t7 : (pinE l == 0) = false := by rw [beq_eq_false_iff_ne]; exact he2
        have t6 : (pinE l != 0) = true := by rw [bne_iff_ne]; exact he2
        generalize pinE l = e2 at *
        clear he2
        go_wp2_with fail
        refine (C3.out _ T3.out).mono ?_
        rintro e w4 ⟨v3, rfl, o3, b⟩
        have B4 := Lib.hid (below_both B3.out b)
        have T4 := Lib.hid (T3.out.below b)
        have O3 := Lib.hid o3
        clear o3
        clear b
        obtain ⟨a3, c3, hf3⟩ := O3.out.form
        subst hf3
        by_cases he3 : plErr l = 0
        · have CD := Lib.hid (D4.out he3 w4 _ a3 c3 T4.out (by have := O3.out.rd'; exact this))
          have t9 : (plErr l != 0) = false := by rw [he3]; rfl
          have t8 : (plErr l == 0) = true := by rw [he3]; rfl
          generalize plErr l = e3 at *
          generalize V.length = vl at *
          clear he3
          go_wp2_with fail
          refine CD.out.mono ?_
          rintro e w5 ⟨rfl, b⟩
          have B5 := Lib.hid (below_both B4.out b)
          have T5 := Lib.hid (T4.out.below b)
          clear b
          go_wp2_with fail
          refine (CL.out _ T5.out).mono ?_
          rintro e w6 ⟨rfl, b⟩
          have B6 := Lib.hid (below_both B5.out b)
          have T6 := Lib.hid (T5.out.below b)
          clear b
          go_wp2_with fail
          go_ret
          exact ⟨rfl, B6.out⟩
        · have t9 : (plErr l != 0) = true := by rw [bne_iff_ne]; exact he3
          have t8 : (plErr l == 0) = false := by rw [beq_eq_false_iff_ne]; exact he3
          generalize plErr l = e3 at *
          generalize V.length = vl at *
          clear he3
          go_wp2_with fail
          refine (CL.out _ T4.out).mono ?_
          rintro e w5 ⟨rfl, b⟩
          have B5 := Lib.hid (below_both B4.out b)
          have T5 := Lib.hid (T4.out.below b)
          clear b
          go_wp2_with fail
          go_ret
          exact ⟨rfl, B5.out⟩
    · have hh : hexL pv = l := by rcases hway with h | h; exact absurd h hd; exact h
      rw [hh] at D2
      have ht1 := toList_strOf (wrL 10 pv)
      have t4 : (wrL 10 pv == l) = false := by rw [beq_eq_false_iff_ne]; exact hd
      have t3 : (wrL 10 pv != l) = true := by rw [bne_iff_ne]; exact hd
      generalize wrL 10 pv = m1 at *
      clear hway hd hh
      go_wp2_with fail
      refine (D1.out _ T1.out).mono ?_
      rintro e w2 ⟨rfl, b⟩
      have B2 := Lib.hid (below_both B1.out b)
      have T2 := Lib.hid (T1.out.below b)
      clear b
      clear D1
      go_wp2_with fail
      refine (D2.out _ T2.out).mono ?_
      rintro e w3 ⟨rfl, b⟩
      have B3 := Lib.hid (below_both B2.out b)
      have T3 := Lib.hid (T2.out.below b)
      clear b
      clear D2
      go_wp2_with fail
      refine (C2.out _ T3.out).mono ?_
      rintro e w4 ⟨rfl, b⟩
      have B4 := Lib.hid (below_both B3.out b)
      have T4 := Lib.hid (T3.out.below b)
      clear b
      by_cases he2 : pinE l = 0
      · have CI := Lib.hid (D3.out he2)
        have t7 : (pinE l == 0) = true := by rw [he2]; rfl
        have t6 : (pinE l != 0) = false := by rw [he2]; rfl
        generalize pinE l = e2 at *
        clear he2
        go_wp2_with fail
        refine (CI.out _ T4.out).mono ?_
        rintro e w5 ⟨rfl, b⟩
        have B5 := Lib.hid (below_both B4.out b)
        have T5 := Lib.hid (T4.out.below b)
        clear b
        go_wp2_with fail
        refine (C3.out _ T5.out).mono ?_
        rintro e w6 ⟨v3, rfl, o3, b⟩
        have B6 := Lib.hid (below_both B5.out b)
        have T6 := Lib.hid (T5.out.below b)
        have O3 := Lib.hid o3
        clear o3
        clear b
        obtain ⟨a3, c3, hf3⟩ := O3.out.form
        subst hf3
        by_cases he3 : plErr l = 0
        · have CD := Lib.hid (D4.out he3 w6 _ a3 c3 T6.out (by have := O3.out.rd'; exact this))
          have t9 : (plErr l != 0) = false := by rw [he3]; rfl
          have t8 : (plErr l == 0) = true := by rw [he3]; rfl
          generalize plErr l = e3 at *
          generalize V.length = vl at *
          clear he3
          go_wp2_with fail
          refine CD.out.mono ?_
          rintro e w7 ⟨rfl, b⟩
          have B7 := Lib.hid (below_both B6.out b)
          have T7 := Lib.hid (T6.out.below b)
          clear b
          go_wp2_with fail
          refine (CL.out _ T7.out).mono ?_
          rintro e w8 ⟨rfl, b⟩
          have B8 := Lib.hid (below_both B7.out b)
          have T8 := Lib.hid (T7.out.below b)
          clear b
          go_wp2_with fail
          go_ret
          exact ⟨rfl, B8.out⟩
        · have t9 : (plErr l != 0) = true := by rw [bne_iff_ne]; exact he3
          have t8 : (plErr l == 0) = false := by rw [beq_eq_false_iff_ne]; exact he3
          generalize plErr l = e3 at *
          generalize V.length = vl at *
          clear he3
          go_wp2_with fail
          refine (CL.out _ T6.out).mono ?_
          rintro e w7 ⟨rfl, b⟩
          have B7 := Lib.hid (below_both B6.out b)
          have T7 := Lib.hid (T6.out.below b)
          clear b
          go_wp2_with fail
          go_ret
          exact ⟨rfl, B7.out⟩
      · have t7 : (pinE l == 0) = false := by rw [beq_eq_false_iff_ne]; exact he2
        have t6 : (pinE l != 0) = true := by rw [bne_iff_ne]; exact he2
        generalize pinE l = e2 at *
        clear he2
        go_wp2_with fail
        refine (C3.out _ T4.out).mono ?_
        rintro e w5 ⟨v3, rfl, o3, b⟩
        have B5 := Lib.hid (below_both B4.out b)
        have T5 := Lib.hid (T4.out.below b)
        have O3 := Lib.hid o3
        clear o3
        clear b
        obtain ⟨a3, c3, hf3⟩ := O3.out.form
        subst hf3
        by_cases he3 : plErr l = 0
        · have CD := Lib.hid (D4.out he3 w5 _ a3 c3 T5.out (by have := O3.out.rd'; exact this))
          have t9 : (plErr l != 0) = false := by rw [he3]; rfl
          have t8 : (plErr l == 0) = true := by rw [he3]; rfl
          generalize plErr l = e3 at *
          generalize V.length = vl at *
          clear he3
          go_wp2_with fail
          refine CD.out.mono ?_
          rintro e w6 ⟨rfl, b⟩
          have B6 := Lib.hid (below_both B5.out b)
          have T6 := Lib.hid (T5.out.below b)
          clear b
          go_wp2_with fail
          refine (CL.out _ T6.out).mono ?_
          rintro e w7 ⟨rfl, b⟩
          have B7 := Lib.hid (below_both B6.out b)
          have T7 := Lib.hid (T6.out.below b)
          clear b
          go_wp2_with fail
          go_ret
          exact ⟨rfl, B7.out⟩
        · have t9 : (plErr l != 0) = true := by rw [bne_iff_ne]; exact he3
          have t8 : (plErr l == 0) = false := by rw [beq_eq_false_iff_ne]; exact he3
          generalize plErr l = e3 at *
          generalize V.length = vl at *
          clear he3
          go_wp2_with fail
          refine (CL.out _ T5.out).mono ?_
          rintro e w6 ⟨rfl, b⟩
          have B6 := Lib.hid (below_both B5.out b)
          have T6 := Lib.hid (T5.out.below b)
          clear b
          go_wp2_with fail
          go_ret
          exact ⟨rfl, B6.out⟩
  · have t5 : (parE l == 0) = false := by rw [beq_eq_false_iff_ne]; exact he1
    generalize parE l = e1 at *
    clear he1 H1 D1 D2
    go_wp2_with fail
    refine (C2.out _ T1.out).mono ?_
    rintro e w2 ⟨rfl, b⟩
    have B2 := Lib.hid (below_both B1.out b)
    have T2 := Lib.hid (T1.out.below b)
    clear b
    by_cases he2 : pinE l = 0
    · have CI := Lib.hid (D3.out he2)
      have t7 : (pinE l == 0) = true := by rw [he2]; rfl
      have t6 : (pinE l != 0) = false := by rw [he2]; rfl
      generalize pinE l = e2 at *
      clear he2
      go_wp2_with fail
      refine (CI.out _ T2.out).mono ?_
      rintro e w3 ⟨rfl, b⟩
      have B3 := Lib.hid (below_both B2.out b)
      have T3 := Lib.hid (T2.out.below b)
      clear b
      go_wp2_with fail
      refine (C3.out _ T3.out).mono ?_
      rintro e w4 ⟨v3, rfl, o3, b⟩
      have B4 := Lib.hid (below_both B3.out b)
      have T4 := Lib.hid (T3.out.below b)
      have O3 := Lib.hid o3
      clear o3
      clear b
      obtain ⟨a3, c3, hf3⟩ := O3.out.form
      subst hf3
      by_cases he3 : plErr l = 0
      · have CD := Lib.hid (D4.out he3 w4 _ a3 c3 T4.out (by have := O3.out.rd'; exact this))
        have t9 : (plErr l != 0) = false := by rw [he3]; rfl
        have t8 : (plErr l == 0) = true := by rw [he3]; rfl
        generalize plErr l = e3 at *
        generalize V.length = vl at *
        clear he3
        go_wp2_with fail
        refine CD.out.mono ?_
        rintro e w5 ⟨rfl, b⟩
        have B5 := Lib.hid (below_both B4.out b)
        have T5 := Lib.hid (T4.out.below b)
        clear b
        go_wp2_with fail
        refine (CL.out _ T5.out).mono ?_
        rintro e w6 ⟨rfl, b⟩
        have B6 := Lib.hid (below_both B5.out b)
        have T6 := Lib.hid (T5.out.below b)
        clear b
        go_wp2_with fail
        go_ret
        exact ⟨rfl, B6.out⟩
      · have t9 : (plErr l != 0) = true := by rw [bne_iff_ne]; exact he3
        have t8 : (plErr l == 0) = false := by rw [beq_eq_false_iff_ne]; exact he3
        generalize plErr l = e3 at *
        generalize V.length = vl at *
        clear he3
        go_wp2_with fail
        refine (CL.out _ T4.out).mono ?_
        rintro e w5 ⟨rfl, b⟩
        have B5 := Lib.hid (below_both B4.out b)
        have T5 := Lib.hid (T4.out.below b)
        clear b
        go_wp2_with fail
        go_ret
        exact ⟨rfl, B5.out⟩
    · have t7 : (pinE l == 0) = false := by rw [beq_eq_false_iff_ne]; exact he2
      have t6 : (pinE l != 0) = true := by rw [bne_iff_ne]; exact he2
      generalize pinE l = e2 at *
      clear he2
      go_wp2_with fail
      refine (C3.out _ T2.out).mono ?_
      rintro e w3 ⟨v3, rfl, o3, b⟩
      have B3 := Lib.hid (below_both B2.out b)
      have T3 := Lib.hid (T2.out.below b)
      have O3 := Lib.hid o3
      clear o3
      clear b
      obtain ⟨a3, c3, hf3⟩ := O3.out.form
      subst hf3
      by_cases he3 : plErr l = 0
      · have CD := Lib.hid (D4.out he3 w3 _ a3 c3 T3.out (by have := O3.out.rd'; exact this))
        have t9 : (plErr l != 0) = false := by rw [he3]; rfl
        have t8 : (plErr l == 0) = true := by rw [he3]; rfl
        generalize plErr l = e3 at *
        generalize V.length = vl at *
        clear he3
        go_wp2_with fail
        refine CD.out.mono ?_
        rintro e w4 ⟨rfl, b⟩
        have B4 := Lib.hid (below_both B3.out b)
        have T4 := Lib.hid (T3.out.below b)
        clear b
        go_wp2_with fail
        refine (CL.out _ T4.out).mono ?_
        rintro e w5 ⟨rfl, b⟩
        have B5 := Lib.hid (below_both B4.out b)
        have T5 := Lib.hid (T4.out.below b)
        clear b
        go_wp2_with fail
        go_ret
        exact ⟨rfl, B5.out⟩
      · have t9 : (plErr l != 0) = true := by rw [bne_iff_ne]; exact he3
        have t8 : (plErr l == 0) = false := by rw [beq_eq_false_iff_ne]; exact he3
        generalize plErr l = e3 at *
        generalize V.length = vl at *
        clear he3
        go_wp2_with fail
        refine (CL.out _ T3.out).mono ?_
        rintro e w4 ⟨rfl, b⟩
        have B4 := Lib.hid (below_both B3.out b)
        have T4 := Lib.hid (T3.out.below b)
        clear b
        go_wp2_with fail
        go_ret
        exact ⟨rfl, B4.out⟩
end Go.Proofs.Sat
