/- digits.Parse and digits.ParseInt. -/
import Derived.Test.YtiepphjpfjfkmaaDoorDgI
set_option linter.unusedVariables false
set_option linter.unusedSimpArgs false
namespace Go.Proofs.Sat
open Go Go.RowKit Go.Sort Go.Lib
theorem numE_bad {b : Nat} {l : List UInt8} (h : badL b l = true) : numE b l = 6 ∧ numV b l = 0 := by
  have e : numE b l = 6 := by unfold numE; rw [if_pos h]
  exact ⟨e, by unfold numV; rw [e]; rfl⟩
theorem numE_ok {b : Nat} {l : List UInt8} (h : badL b l = false) (hv : valL b l < 18446744073709551616) : numE b l = 0 ∧ numV b l = valL b l := by
  have e : numE b l = 0 := by unfold numE; rw [if_neg (by rw [h]; simp), if_neg (by omega)]
  exact ⟨e, by unfold numV; rw [if_pos e]⟩
theorem numE_range {b : Nat} {l : List UInt8} (h : badL b l = false) (hv : ¬ valL b l < 18446744073709551616) : numE b l = 2 ∧ numV b l = 0 := by
  have e : numE b l = 2 := by unfold numE; rw [if_neg (by rw [h]; simp), if_pos (by omega)]
  exact ⟨e, by unfold numV; rw [e]; rfl⟩
set_option maxRecDepth 20000 in
set_option maxHeartbeats 1000000 in
theorem digits_Parse16 (l : List UInt8) (w : World) (hl : l.length ≤ 1099511627776) (hT : ErrT w) (hp : parP l = true) : Calls Tryd.prog 47 #[.string (strOf l)] w fun e w' => e = .returned (.tuple #[.int .u64 (parV l : Int), .int .i64 (parE l)]) ∧ Below w.heap.size w w' := by
  have CC := Lib.hid (fun W => cut_0x l W)
  have HP : Hid (parV l = numV 16 (l.drop 2) ∧ parE l = numE 16 (l.drop 2)) := by show _ ∧ _; unfold parV parE; rw [hp]; exact ⟨rfl, rfl⟩
  rw [hp] at CC
  simp only [if_true, Bool.false_eq_true, if_false] at CC
  have hm : (l.drop 2).length ≤ 1099511627776 := by rw [List.length_drop]; omega
  generalize parV l = pv at *
  generalize parE l = pe at *
  generalize l.drop 2 = m at *
  clear hp
  have CN := Lib.hid (fun W => digits_numeral16 m W hm)
  cases hb : badL 16 m
  · rw [hb] at CN
    by_cases hv : valL 16 m < 18446744073709551616
    · have CU := Lib.hid (fun W => ParseUint16_ok m hm hb hv W)
      have HE : Hid (pe = 0 ∧ (pv : Int) = (valL 16 m : Int)) := by
        show _ ∧ _
        rw [HP.out.1, HP.out.2, (numE_ok hb hv).1, (numE_ok hb hv).2]
        exact ⟨rfl, rfl⟩
      generalize (valL 16 m : Int) = v at *
      clear hb hv hm HP hl hT
      go_enter Tryd.func47, Tryd.ntmps47
      go_wp2_with fail
      refine (CC.out _).mono ?_
      rintro e w1 ⟨rfl, rfl⟩
      go_wp2_with fail
      refine (CN.out _).mono ?_
      rintro e w2 ⟨rfl, d2⟩
      go_wp2_with fail
      refine (CU.out _).mono ?_
      rintro e w3 ⟨rfl, b3⟩
      have B3 := Lib.hid (below_both (d2.below _) b3)
      clear b3
      go_wp2_with fail
      go_ret2
      exact ⟨ret_ui HE.out.2.symm HE.out.1.symm, B3.out⟩
    · have CU := Lib.hid (fun W hW => ParseUint16_range m hm hb hv W hW)
      have HE : Hid (pe = 2 ∧ pv = 0) := by
        show _ ∧ _
        rw [HP.out.1, HP.out.2, (numE_range hb hv).1, (numE_range hb hv).2]
        exact ⟨rfl, rfl⟩
      have HT := Lib.hid hT
      clear hb hv hm HP hl hT
      go_enter Tryd.func47, Tryd.ntmps47
      go_wp2_with fail
      refine (CC.out _).mono ?_
      rintro e w1 ⟨rfl, rfl⟩
      go_wp2_with fail
      refine (CN.out _).mono ?_
      rintro e w2 ⟨rfl, d2⟩
      go_wp2_with fail
      have HT2 : Hid (ErrT w2) := by
        obtain ⟨ev, h1, h2⟩ := HT.out
        exact ⟨ev, d2.cell h1, h2⟩
      refine (CU.out _ HT2.out).mono ?_
      rintro e w3 ⟨N, rfl, b3⟩
      have B3 := Lib.hid (below_both (d2.below _) b3)
      clear b3
      go_wp2_with fail
      go_ret2
      exact ⟨ret_ui (by rw [HE.out.2]; rfl) HE.out.1.symm, B3.out⟩
  · rw [hb] at CN
    have HE : Hid (pe = 6 ∧ pv = 0) := by
      show _ ∧ _
      rw [HP.out.1, HP.out.2, (numE_bad hb).1, (numE_bad hb).2]
      exact ⟨rfl, rfl⟩
    clear hb hm HP hl hT
    go_enter Tryd.func47, Tryd.ntmps47
    go_wp2_with fail
    refine (CC.out _).mono ?_
    rintro e w1 ⟨rfl, rfl⟩
    go_wp2_with fail
    refine (CN.out _).mono ?_
    rintro e w2 ⟨rfl, d2⟩
    go_wp2_with fail
    go_ret2
    exact ⟨ret_ui (by rw [HE.out.2]; rfl) HE.out.1.symm, (d2.below _)⟩
set_option maxRecDepth 20000 in
set_option maxHeartbeats 1000000 in
theorem digits_Parse10 (l : List UInt8) (w : World) (hl : l.length ≤ 1099511627776) (hT : ErrT w) (hp : parP l = false) : Calls Tryd.prog 47 #[.string (strOf l)] w fun e w' => e = .returned (.tuple #[.int .u64 (parV l : Int), .int .i64 (parE l)]) ∧ Below w.heap.size w w' := by
  have CC := Lib.hid (fun W => cut_0x l W)
  have HP : Hid (parV l = numV 10 (l) ∧ parE l = numE 10 (l)) := by show _ ∧ _; unfold parV parE; rw [hp]; exact ⟨rfl, rfl⟩
  rw [hp] at CC
  simp only [if_true, Bool.false_eq_true, if_false] at CC
  have hm : (l).length ≤ 1099511627776 := by exact hl
  generalize parV l = pv at *
  generalize parE l = pe at *
  obtain ⟨m, hml⟩ : ∃ m, m = l := ⟨_, rfl⟩
  rw [← hml] at CC HP hm hl ⊢
  clear hml
  clear hp
  have CN := Lib.hid (fun W => digits_numeral10 m W hm)
  cases hb : badL 10 m
  · rw [hb] at CN
    by_cases hv : valL 10 m < 18446744073709551616
    · have CU := Lib.hid (fun W => ParseUint10_ok m hm hb hv W)
      have HE : Hid (pe = 0 ∧ (pv : Int) = (valL 10 m : Int)) := by
        show _ ∧ _
        rw [HP.out.1, HP.out.2, (numE_ok hb hv).1, (numE_ok hb hv).2]
        exact ⟨rfl, rfl⟩
      generalize (valL 10 m : Int) = v at *
      clear hb hv hm HP hl hT
      go_enter Tryd.func47, Tryd.ntmps47
      go_wp2_with fail
      refine (CC.out _).mono ?_
      rintro e w1 ⟨rfl, rfl⟩
      go_wp2_with fail
      refine (CN.out _).mono ?_
      rintro e w2 ⟨rfl, d2⟩
      go_wp2_with fail
      refine (CU.out _).mono ?_
      rintro e w3 ⟨rfl, b3⟩
      have B3 := Lib.hid (below_both (d2.below _) b3)
      clear b3
      go_wp2_with fail
      go_ret2
      exact ⟨ret_ui HE.out.2.symm HE.out.1.symm, B3.out⟩
    · have CU := Lib.hid (fun W hW => ParseUint10_range m hm hb hv W hW)
      have HE : Hid (pe = 2 ∧ pv = 0) := by
        show _ ∧ _
        rw [HP.out.1, HP.out.2, (numE_range hb hv).1, (numE_range hb hv).2]
        exact ⟨rfl, rfl⟩
      have HT := Lib.hid hT
      clear hb hv hm HP hl hT
      go_enter Tryd.func47, Tryd.ntmps47
      go_wp2_with fail
      refine (CC.out _).mono ?_
      rintro e w1 ⟨rfl, rfl⟩
      go_wp2_with fail
      refine (CN.out _).mono ?_
      rintro e w2 ⟨rfl, d2⟩
      go_wp2_with fail
      have HT2 : Hid (ErrT w2) := by
        obtain ⟨ev, h1, h2⟩ := HT.out
        exact ⟨ev, d2.cell h1, h2⟩
      refine (CU.out _ HT2.out).mono ?_
      rintro e w3 ⟨N, rfl, b3⟩
      have B3 := Lib.hid (below_both (d2.below _) b3)
      clear b3
      go_wp2_with fail
      go_ret2
      exact ⟨ret_ui (by rw [HE.out.2]; rfl) HE.out.1.symm, B3.out⟩
  · rw [hb] at CN
    have HE : Hid (pe = 6 ∧ pv = 0) := by
      show _ ∧ _
      rw [HP.out.1, HP.out.2, (numE_bad hb).1, (numE_bad hb).2]
      exact ⟨rfl, rfl⟩
    clear hb hm HP hl hT
    go_enter Tryd.func47, Tryd.ntmps47
    go_wp2_with fail
    refine (CC.out _).mono ?_
    rintro e w1 ⟨rfl, rfl⟩
    go_wp2_with fail
    refine (CN.out _).mono ?_
    rintro e w2 ⟨rfl, d2⟩
    go_wp2_with fail
    go_ret2
    exact ⟨ret_ui (by rw [HE.out.2]; rfl) HE.out.1.symm, (d2.below _)⟩
theorem digits_Parse (l : List UInt8) (w : World) (hl : l.length ≤ 1099511627776) (hT : DigT w) : Calls Tryd.prog 47 #[.string (strOf l)] w fun e w' => e = .returned (.tuple #[.int .u64 (parV l : Int), .int .i64 (parE l)]) ∧ Below w.heap.size w w' := by
  cases hp : parP l
  · exact digits_Parse10 l w hl hT.err hp
  · exact digits_Parse16 l w hl hT.err hp
theorem parseIntB_minus {r : List UInt8} (hb : badL 10 r = false) : Lib.parseIntB 64 (45 :: r) = if valL 10 r ≤ 9223372036854775808 then .ok (-(valL 10 r : Int)) else .range := by
  unfold Lib.parseIntB
  have h45 : (45 : UInt8).toNat = 45 := rfl
  simp only [h45]
  rw [if_pos (by simp), parseUintB_val hb]
  by_cases h : valL 10 r < 18446744073709551616
  · rw [if_pos h]
    by_cases h2 : valL 10 r ≤ 9223372036854775808
    · rw [if_pos h2]
      simp
      omega
    · rw [if_neg h2]
      simp
      omega
  · rw [if_neg h, if_neg (by omega)]
theorem parseIntB_plus {l : List UInt8} (hb : badL 10 l = false) : Lib.parseIntB 64 l = if valL 10 l < 9223372036854775808 then .ok (valL 10 l : Int) else .range := by
  obtain ⟨h1, h2⟩ := not_bad hb
  cases l with
  | nil => exact absurd rfl h1
  | cons c r =>
    obtain ⟨hc1, hc2, _⟩ := digI10 (h2 c (by simp))
    unfold Lib.parseIntB
    dsimp only
    rw [if_neg (by omega), parseUintB_val hb]
    by_cases h : valL 10 (c :: r) < 18446744073709551616
    · rw [if_pos h]
      have hc : ¬ c.toNat = 45 := by omega
      by_cases h2 : valL 10 (c :: r) < 9223372036854775808
      · rw [if_pos h2]
        simp [hc]
        omega
      · rw [if_neg h2]
        simp [hc]
        omega
    · rw [if_neg h, if_neg (by omega)]
theorem val_zero {l : List UInt8} (hb : badL 10 l = false) : valL 10 l = 0 ↔ l = [48] := by
  constructor
  · intro hv
    obtain ⟨h1, h2⟩ := not_bad hb
    cases l with
    | nil => exact absurd rfl h1
    | cons c r =>
      have h3 := valL_append_le 10 (by decide) [c] r
      obtain ⟨d1, d2, d3⟩ := digI10 (h2 c (by simp))
      have h4 : valL 10 [c] = c.toNat - 48 := by unfold valL; simp [d3]
      simp only [List.singleton_append] at h3
      have hc : c = 48 := UInt8.toNat_inj.1 (by
        have : c.toNat = 48 := by omega
        rw [this]; rfl)
      subst hc
      cases r with
      | nil => rfl
      | cons d r =>
        exfalso
        unfold badL at hb
        simp at hb
  · rintro rfl
    rfl
theorem minus_form {l : List UInt8} (hm : l.head? = some 45) : l = 45 :: l.tail := by
  cases l with
  | nil => cases hm
  | cons c r => simp at hm; rw [hm]; rfl
set_option maxRecDepth 20000 in
set_option maxHeartbeats 1000000 in
theorem digits_ParseInt_minus (l : List UInt8) (w : World) (hl : l.length ≤ 1099511627776) (hT : ErrT w) (hm : l.head? = some 45) : Calls Tryd.prog 44 #[.string (strOf l)] w fun e w' => e = .returned (.tuple #[.int .i64 (pinV l), .int .i64 (pinE l)]) ∧ Below w.heap.size w w' := by
  have CC := Lib.hid (fun W => cut_minus l W)
  rw [if_pos hm, decide_eq_true hm] at CC
  have HL := Lib.hid (minus_form hm)
  have HV : Hid (pinV l = if pinE l = 0 then -(valL 10 l.tail : Int) else 0) := by show _ = _; unfold pinV; rw [if_pos hm]
  have HE : Hid (pinE l = if numE 10 l.tail = 0 then (if valL 10 l.tail = 0 then 6 else if 9223372036854775808 < valL 10 l.tail then 2 else 0) else numE 10 l.tail) := by show _ = _; unfold pinE; rw [if_pos hm]
  have hr : l.tail.length ≤ 1099511627776 := by rw [List.length_tail]; omega
  generalize pinV l = pv at *
  generalize pinE l = pe at *
  generalize l.tail = m at *
  clear hm
  have hts := toList_strOf m
  have CN := Lib.hid (fun W => digits_numeral10 m W hr)
  cases hb : badL 10 m
  · rw [hb] at CN
    by_cases h0 : m = [48]
    · subst h0
      have HW : Hid (pe = 6 ∧ pv = 0) := by
        have h1 : pe = 6 := by rw [HE.out, if_pos (by rfl), if_pos (by rfl)]
        exact ⟨h1, by rw [HV.out, h1]; rfl⟩
      have t1 : (([48] : List UInt8) == [48]) = true := by simp
      clear hb hr hl hT HE HV HL
      go_enter Tryd.func44, Tryd.ntmps44
      go_wp2_with fail
      refine (CC.out _).mono ?_
      rintro e w1 ⟨rfl, rfl⟩
      go_wp2_with fail
      refine (CN.out _).mono ?_
      rintro e w2 ⟨rfl, d2⟩
      go_wp2_with fail
      go_ret2
      exact ⟨ret_ii HW.out.2.symm HW.out.1.symm, d2.below _⟩
    · have t1 : (m == [48]) = false := by rw [beq_eq_false_iff_ne]; exact h0
      have hz : ¬ valL 10 m = 0 := fun h => h0 ((val_zero hb).1 h)
      by_cases hv : valL 10 m ≤ 9223372036854775808
      · have HW : Hid (pe = 0 ∧ pv = -(valL 10 m : Int)) := by
          have h1 : pe = 0 := by rw [HE.out, if_pos (numE_ok hb (by omega)).1, if_neg hz, if_neg (by omega)]
          exact ⟨h1, by rw [HV.out, if_pos h1]⟩
        have CP := Lib.hid (fun W => Tryd.strconv_ParseInt_10_at64_ok (strOf l) (by rw [strOf_size]; omega) (-(valL 10 m : Int)) (by show Lib.parseIntB 64 l = _; rw [HL.out, parseIntB_minus hb, if_pos hv]) W)
        generalize -(valL 10 m : Int) = v at *
        clear hb hr hl hT HE HV HL hz hv h0
        go_enter Tryd.func44, Tryd.ntmps44
        go_wp2_with fail
        refine (CC.out _).mono ?_
        rintro e w1 ⟨rfl, rfl⟩
        go_wp2_with fail
        refine (CN.out _).mono ?_
        rintro e w2 ⟨rfl, d2⟩
        go_wp2_with fail
        refine (CP.out _).mono ?_
        rintro e w3 ⟨rfl, b3⟩
        have B3 := Lib.hid (below_both (d2.below _) (bytesWorld_of b3))
        clear b3
        go_wp2_with fail
        go_ret2
        exact ⟨ret_ii HW.out.2.symm HW.out.1.symm, B3.out⟩
      · have HW : Hid (pe = 2 ∧ pv = 0) := by
          have h1 : pe = 2 := by
            rw [HE.out]
            by_cases hq : valL 10 m < 18446744073709551616
            · rw [if_pos (numE_ok hb hq).1, if_neg hz, if_pos (by omega)]
            · rw [(numE_range hb hq).1]; rfl
          exact ⟨h1, by rw [HV.out, h1]; rfl⟩
        obtain ⟨ev, hc, hev⟩ := hT
        have CP := Lib.hid (fun W hW => Tryd.strconv_ParseInt_10_at64_range (strOf l) (by rw [strOf_size]; omega) (by show Lib.parseIntB 64 l = _; rw [HL.out, parseIntB_minus hb, if_neg hv]) ev W hW hev)
        generalize Lib.intSat 64 (strOf l).data.toList = v at *
        have HC := Lib.hid hc
        clear hb hr hl HE HV HL hz hv h0 hc hev
        go_enter Tryd.func44, Tryd.ntmps44
        go_wp2_with fail
        refine (CC.out _).mono ?_
        rintro e w1 ⟨rfl, rfl⟩
        go_wp2_with fail
        refine (CN.out _).mono ?_
        rintro e w2 ⟨rfl, d2⟩
        go_wp2_with fail
        refine (CP.out _ (d2.cell HC.out)).mono ?_
        rintro e w3 ⟨N, rfl, hN, hg, b3⟩
        have B3 := Lib.hid (below_both (d2.below _) b3)
        clear b3 hN hg
        go_wp2_with fail
        go_ret2
        exact ⟨ret_ii HW.out.2.symm HW.out.1.symm, B3.out⟩
  · rw [hb] at CN
    have HW : Hid (pe = 6 ∧ pv = 0) := by
      have h1 : pe = 6 := by rw [HE.out, (numE_bad hb).1]; rfl
      exact ⟨h1, by rw [HV.out, h1]; rfl⟩
    clear hb hr hl hT HE HV HL
    go_enter Tryd.func44, Tryd.ntmps44
    go_wp2_with fail
    refine (CC.out _).mono ?_
    rintro e w1 ⟨rfl, rfl⟩
    go_wp2_with fail
    refine (CN.out _).mono ?_
    rintro e w2 ⟨rfl, d2⟩
    go_wp2_with fail
    go_ret2
    exact ⟨ret_ii HW.out.2.symm HW.out.1.symm, d2.below _⟩
set_option maxRecDepth 20000 in
set_option maxHeartbeats 1000000 in
theorem digits_ParseInt_plus (l : List UInt8) (w : World) (hl : l.length ≤ 1099511627776) (hT : ErrT w) (hm : ¬ l.head? = some 45) : Calls Tryd.prog 44 #[.string (strOf l)] w fun e w' => e = .returned (.tuple #[.int .i64 (pinV l), .int .i64 (pinE l)]) ∧ Below w.heap.size w w' := by
  have CC := Lib.hid (fun W => cut_minus l W)
  rw [if_neg hm, decide_eq_false hm] at CC
  have HV : Hid (pinV l = if pinE l = 0 then (valL 10 l : Int) else 0) := by show _ = _; unfold pinV; rw [if_neg hm]
  have HE : Hid (pinE l = if numE 10 l = 0 then (if 9223372036854775807 < valL 10 l then 2 else 0) else numE 10 l) := by show _ = _; unfold pinE; rw [if_neg hm]
  generalize pinV l = pv at *
  generalize pinE l = pe at *
  clear hm
  have CN := Lib.hid (fun W => digits_numeral10 l W hl)
  cases hb : badL 10 l
  · rw [hb] at CN
    by_cases hv : valL 10 l < 9223372036854775808
    · have HW : Hid (pe = 0 ∧ pv = (valL 10 l : Int)) := by
        have h1 : pe = 0 := by rw [HE.out, if_pos (numE_ok hb (by omega)).1, if_neg (by omega)]
        exact ⟨h1, by rw [HV.out, if_pos h1]⟩
      have CP := Lib.hid (fun W => Tryd.strconv_ParseInt_10_at64_ok (strOf l) (by rw [strOf_size]; omega) (valL 10 l : Int) (by show Lib.parseIntB 64 l = _; rw [parseIntB_plus hb, if_pos hv]) W)
      generalize (valL 10 l : Int) = v at *
      clear hb hl hT HE HV hv
      go_enter Tryd.func44, Tryd.ntmps44
      go_wp2_with fail
      refine (CC.out _).mono ?_
      rintro e w1 ⟨rfl, rfl⟩
      go_wp2_with fail
      refine (CN.out _).mono ?_
      rintro e w2 ⟨rfl, d2⟩
      go_wp2_with fail
      refine (CP.out _).mono ?_
      rintro e w3 ⟨rfl, b3⟩
      have B3 := Lib.hid (below_both (d2.below _) (bytesWorld_of b3))
      clear b3
      go_wp2_with fail
      go_ret2
      exact ⟨ret_ii HW.out.2.symm HW.out.1.symm, B3.out⟩
    · have HW : Hid (pe = 2 ∧ pv = 0) := by
        have h1 : pe = 2 := by
          rw [HE.out]
          by_cases hq : valL 10 l < 18446744073709551616
          · rw [if_pos (numE_ok hb hq).1, if_pos (by omega)]
          · rw [(numE_range hb hq).1]; rfl
        exact ⟨h1, by rw [HV.out, h1]; rfl⟩
      obtain ⟨ev, hc, hev⟩ := hT
      have CP := Lib.hid (fun W hW => Tryd.strconv_ParseInt_10_at64_range (strOf l) (by rw [strOf_size]; omega) (by show Lib.parseIntB 64 l = _; rw [parseIntB_plus hb, if_neg hv]) ev W hW hev)
      generalize Lib.intSat 64 (strOf l).data.toList = v at *
      have HC := Lib.hid hc
      clear hb hl HE HV hv hc hev
      go_enter Tryd.func44, Tryd.ntmps44
      go_wp2_with fail
      refine (CC.out _).mono ?_
      rintro e w1 ⟨rfl, rfl⟩
      go_wp2_with fail
      refine (CN.out _).mono ?_
      rintro e w2 ⟨rfl, d2⟩
      go_wp2_with fail
      refine (CP.out _ (d2.cell HC.out)).mono ?_
      rintro e w3 ⟨N, rfl, hN, hg, b3⟩
      have B3 := Lib.hid (below_both (d2.below _) b3)
      clear b3 hN hg
      go_wp2_with fail
      go_ret2
      exact ⟨ret_ii HW.out.2.symm HW.out.1.symm, B3.out⟩
  · rw [hb] at CN
    have HW : Hid (pe = 6 ∧ pv = 0) := by
      have h1 : pe = 6 := by rw [HE.out, (numE_bad hb).1]; rfl
      exact ⟨h1, by rw [HV.out, h1]; rfl⟩
    clear hb hl hT HE HV
    go_enter Tryd.func44, Tryd.ntmps44
    go_wp2_with fail
    refine (CC.out _).mono ?_
    rintro e w1 ⟨rfl, rfl⟩
    go_wp2_with fail
    refine (CN.out _).mono ?_
    rintro e w2 ⟨rfl, d2⟩
    go_wp2_with fail
    go_ret2
    exact ⟨ret_ii HW.out.2.symm HW.out.1.symm, d2.below _⟩
theorem digits_ParseInt (l : List UInt8) (w : World) (hl : l.length ≤ 1099511627776) (hT : DigT w) : Calls Tryd.prog 44 #[.string (strOf l)] w fun e w' => e = .returned (.tuple #[.int .i64 (pinV l), .int .i64 (pinE l)]) ∧ Below w.heap.size w w' := by
  by_cases hm : l.head? = some 45
  · exact digits_ParseInt_minus l w hl hT.err hm
  · exact digits_ParseInt_plus l w hl hT.err hm
end Go.Proofs.Sat
