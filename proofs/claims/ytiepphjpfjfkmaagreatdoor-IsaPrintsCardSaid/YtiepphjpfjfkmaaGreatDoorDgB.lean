/- The reference of ch. 02: digit and number. -/
import Derived.Test.YtiepphjpfjfkmaaGreatDoorDgA
set_option linter.unusedVariables false
set_option linter.unusedSimpArgs false
namespace Go.Proofs.Sat
open Go Go.RowKit
/-- The value of a digit; -1 for other bytes. -/
def digI (b : Nat) (c : Nat) : Int := if 48 ≤ c ∧ c ≤ 57 then (c : Int) - 48 else if b = 16 ∧ 97 ≤ c ∧ c ≤ 102 then (c : Int) - 87 else -1
theorem str_index (t : TypeId) (ht : Tryz.prog.underlying t = some .string) (l : List UInt8) (k : Nat) (hk : k < l.length) (W : World) : (Instr.index t (.string (strOf l)) (.int .i64 (k : Int))).run Tryz.prog W = .ok (.int .u8 ((l[k].toNat : Nat) : Int)) W := by
  have hi : (0 : Int) ≤ (k : Int) ∧ (k : Int) < ((strOf l).size : Int) := by rw [strOf_size]; omega
  rw [run_index_string W t _ _ _ ht, dif_pos hi]
  rfl
theorem ref02_digit16 (c : Nat) (w : World) (hc : c < 256) : Calls Tryz.prog 114 #[.int .u8 (c : Int), .int .u64 16] w fun e w' => e = .returned (.int .i64 (digI 16 c)) ∧ Drawn w w' := by
  go_enter Tryz.func114, Tryz.ntmps114
  by_cases h1 : 48 ≤ c ∧ c ≤ 57
  · have HE : Hid (digI 16 c = (c : Int) - 48) := by show _ = _; unfold digI; rw [if_pos h1]
    have t0 : decide ((48 : Int) ≤ (c : Int)) = true := decide_eq_true (by omega)
    have t1 : decide ((c : Int) ≤ (57 : Int)) = true := decide_eq_true (by omega)
    have hw : IntKind.u8.wrap ((c : Int) - 48) = (c : Int) - 48 := by rw [IntKind.wrap_u8]; omega
    have hw2 : IntKind.i64.wrap ((c : Int) - 48) = (c : Int) - 48 := IntWalk.i64_in _ (by omega)
    clear h1 hc
    go_wp2_with fail
    go_ret
    exact ⟨ret_int HE.out.symm, Drawn.refl _⟩
  · by_cases h2 : 97 ≤ c ∧ c ≤ 102
    · have HE : Hid (digI 16 c = (c : Int) - 87) := by show _ = _; unfold digI; rw [if_neg h1]; simp [h2]
      have HE2 : Hid ((c : Int) - 97 + 10 = (c : Int) - 87) := by show _ = _; omega
      have t0 : decide ((48 : Int) ≤ (c : Int)) = true := decide_eq_true (by omega)
      have t1 : decide ((c : Int) ≤ (57 : Int)) = false := decide_eq_false (by omega)
      have t2 : decide ((97 : Int) ≤ (c : Int)) = true := decide_eq_true (by omega)
      have t3 : decide ((c : Int) ≤ (102 : Int)) = true := decide_eq_true (by omega)
      have hw : IntKind.u8.wrap ((c : Int) - 97) = (c : Int) - 97 := by rw [IntKind.wrap_u8]; omega
      have hw2 : IntKind.i64.wrap ((c : Int) - 97) = (c : Int) - 97 := IntWalk.i64_in _ (by omega)
      have hw3 : IntKind.i64.wrap ((c : Int) - 97 + 10) = (c : Int) - 97 + 10 := IntWalk.i64_in _ (by omega)
      clear h1 h2 hc
      go_wp2_with fail
      go_ret
      exact ⟨ret_int (by rw [HE.out]; first | rfl | omega), Drawn.refl _⟩
    · have HE : Hid (digI 16 c = -1) := by show _ = _; unfold digI; rw [if_neg h1]; simp [h2]
      by_cases h3 : 48 ≤ c
      · have t0 : decide ((48 : Int) ≤ (c : Int)) = true := decide_eq_true (by omega)
        have t1 : decide ((c : Int) ≤ (57 : Int)) = false := decide_eq_false (by omega)
        by_cases h4 : 97 ≤ c
        · have t2 : decide ((97 : Int) ≤ (c : Int)) = true := decide_eq_true (by omega)
          have t3 : decide ((c : Int) ≤ (102 : Int)) = false := decide_eq_false (by omega)
          clear h1 h2 h3 h4 hc
          go_wp2_with fail
          go_ret
          exact ⟨ret_int HE.out.symm, Drawn.refl _⟩
        · have t2 : decide ((97 : Int) ≤ (c : Int)) = false := decide_eq_false (by omega)
          clear h1 h2 h3 h4 hc
          go_wp2_with fail
          go_ret
          exact ⟨ret_int HE.out.symm, Drawn.refl _⟩
      · have t0 : decide ((48 : Int) ≤ (c : Int)) = false := decide_eq_false (by omega)
        have t2 : decide ((97 : Int) ≤ (c : Int)) = false := decide_eq_false (by omega)
        clear h1 h2 h3 hc
        go_wp2_with fail
        go_ret
        exact ⟨ret_int HE.out.symm, Drawn.refl _⟩
theorem ref02_digit10 (c : Nat) (w : World) (hc : c < 256) : Calls Tryz.prog 114 #[.int .u8 (c : Int), .int .u64 10] w fun e w' => e = .returned (.int .i64 (digI 10 c)) ∧ Drawn w w' := by
  go_enter Tryz.func114, Tryz.ntmps114
  by_cases h1 : 48 ≤ c ∧ c ≤ 57
  · have HE : Hid (digI 10 c = (c : Int) - 48) := by show _ = _; unfold digI; rw [if_pos h1]
    have t0 : decide ((48 : Int) ≤ (c : Int)) = true := decide_eq_true (by omega)
    have t1 : decide ((c : Int) ≤ (57 : Int)) = true := decide_eq_true (by omega)
    have hw : IntKind.u8.wrap ((c : Int) - 48) = (c : Int) - 48 := by rw [IntKind.wrap_u8]; omega
    have hw2 : IntKind.i64.wrap ((c : Int) - 48) = (c : Int) - 48 := IntWalk.i64_in _ (by omega)
    clear h1 hc
    go_wp2_with fail
    go_ret
    exact ⟨ret_int HE.out.symm, Drawn.refl _⟩
  · have HE : Hid (digI 10 c = -1) := by show _ = _; unfold digI; rw [if_neg h1, if_neg (by omega)]
    by_cases h3 : 48 ≤ c
    · have t0 : decide ((48 : Int) ≤ (c : Int)) = true := decide_eq_true (by omega)
      have t1 : decide ((c : Int) ≤ (57 : Int)) = false := decide_eq_false (by omega)
      clear h1 h3 hc
      go_wp2_with fail
      go_ret
      exact ⟨ret_int HE.out.symm, Drawn.refl _⟩
    · have t0 : decide ((48 : Int) ≤ (c : Int)) = false := decide_eq_false (by omega)
      clear h1 h3 hc
      go_wp2_with fail
      go_ret
      exact ⟨ret_int HE.out.symm, Drawn.refl _⟩
/-- The number that digits spell. -/
def valL (b : Nat) (l : List UInt8) : Nat := l.foldl (fun x c => b * x + (digI b c.toNat).toNat) 0
theorem valL_snoc (b : Nat) (l : List UInt8) (c : UInt8) : valL b (l ++ [c]) = b * valL b l + (digI b c.toNat).toNat := by unfold valL; rw [List.foldl_append]; rfl
def badL (b : Nat) (l : List UInt8) : Bool := l.isEmpty || (decide (l.head? = some 48) && decide (1 < l.length)) || l.any (fun c => decide (digI b c.toNat < 0))
def numE (b : Nat) (l : List UInt8) : Int := if badL b l = true then 6 else if 18446744073709551616 ≤ valL b l then 2 else 0
def numV (b : Nat) (l : List UInt8) : Nat := if numE b l = 0 then valL b l else 0
theorem digI_lt (b c : Nat) (hc : c < 256) : digI b c < 16 ∧ -1 ≤ digI b c := by
  unfold digI
  split
  · omega
  · split <;> omega
theorem ret_ui {k k' : IntKind} {a a' b b' : Int} (h1 : a = a') (h2 : b = b') : Ending.returned (.tuple #[.int k a, .int k' b]) = .returned (.tuple #[.int k a', .int k' b']) := by rw [h1, h2]
theorem toList_strOf (l : List UInt8) : (strOf l).toList = l := ByteArray.toList_mk l
set_option maxRecDepth 20000 in
set_option maxHeartbeats 2000000 in
theorem ref02_number10 (l : List UInt8) (w : World) (hl : l.length ≤ 1099511627776) : Calls Tryz.prog 102 #[.string (strOf l), .int .u64 10] w fun e w' => e = .returned (.tuple #[.int .u64 (numV 10 l : Int), .int .i64 (numE 10 l)]) ∧ Drawn w w' := by
  have hts := toList_strOf l
  have hsz := strOf_size l
  go_enter Tryz.func102, Tryz.ntmps102
  cases l with
  | nil =>
    have HE : Hid (numE 10 [] = 6 ∧ numV 10 [] = 0) := ⟨rfl, rfl⟩
    go_wp2_with fail
    go_ret2
    exact ⟨ret_ui (by rw [HE.out.2]; rfl) (by rw [HE.out.1]), Drawn.refl _⟩
  | cons c0 l0 =>
    have hix := str_index 9 Tryz.underlying9 (c0 :: l0) 0 (by simp)
    have HB0 : Hid (badL 10 (c0 :: l0) = ((decide (c0.toNat = 48) && decide (1 < (c0 :: l0).length)) || (c0 :: l0).any (fun c => decide (digI 10 c.toNat < 0)))) := by
      show _ = _
      unfold badL
      have e : decide (((c0 :: l0).head?) = some 48) = decide (c0.toNat = 48) := by
        rw [decide_eq_decide, List.head?_cons, Option.some.injEq]
        exact ⟨fun h => by rw [h]; rfl, fun h => UInt8.toNat_inj.1 h⟩
      rw [e]
      simp
    have hlp : 0 < (c0 :: l0).length := by simp
    have hne : ((c0 :: l0 : List UInt8) == []) = false := rfl
    have hix0 : ∀ W : World, (Instr.index 9 (.string (strOf (c0 :: l0))) (.int .i64 0)).run Tryz.prog W = .ok (.int .u8 ((c0.toNat : Nat) : Int)) W := fun W => hix W
    obtain ⟨l, hl0⟩ : ∃ l, l = c0 :: l0 := ⟨_, rfl⟩
    obtain ⟨n, hn⟩ : ∃ n, n = l.length := ⟨_, rfl⟩
    rw [← hl0] at hts hsz HB0 hlp hne hix0 hl
    rw [← hl0]
    rw [← hn] at hsz HB0 hlp hl
    have HN := Lib.hid hn
    obtain ⟨z, hz⟩ : ∃ z, z = c0.toNat := ⟨_, rfl⟩
    rw [← hz] at HB0 hix0
    clear hix hl0 hn hz
    have H1 : Hid (badL 10 l = true → numE 10 l = 6 ∧ numV 10 l = 0) := fun h => by
      have e : numE 10 l = 6 := by unfold numE; rw [if_pos h]
      exact ⟨e, by unfold numV; rw [e]; rfl⟩
    by_cases hz : z = 48 ∧ 1 < n
    · have HE := Lib.hid (H1.out (by rw [HB0.out, decide_eq_true hz.1, decide_eq_true hz.2]; rfl))
      have t0 : ((z : Int) == 48) = true := by simp [hz.1]
      have t1 : decide ((1 : Int) < (n : Int)) = true := decide_eq_true (by omega)
      clear hz
      go_wp2_with fail
      go_ret2
      exact ⟨ret_ui (by rw [HE.out.2]; rfl) (by rw [HE.out.1]), Drawn.refl _⟩
    have HBA : Hid (badL 10 l = l.any (fun c => decide (digI 10 c.toNat < 0))) := by
      show _ = _
      rw [HB0.out]
      by_cases h : z = 48
      · rw [decide_eq_false (fun h2 => hz ⟨h, h2⟩), Bool.and_false, Bool.false_or]
      · rw [decide_eq_false h, Bool.false_and, Bool.false_or]
    have hgo : ((z : Int) == 48) = false ∨ (((z : Int) == 48) = true ∧ decide ((1 : Int) < (n : Int)) = false) := by
      by_cases h : z = 48
      · right; exact ⟨by simp [h], decide_eq_false (fun h2 => hz ⟨h, by omega⟩)⟩
      · left; simp; omega
    clear hz HB0
    rcases hgo with t0 | ⟨t0, t1⟩
    · skip
      go_wp2_with fail
      clear t0
      go_loopw [6, 7, 8] (fun xs os is wr => ∃ (k : Nat) (a : Int) (ov : Bool), k ≤ n ∧ xs = .int .u64 a ∧ os = .bool ov ∧ is = .int .i64 k ∧ Hid (∀ j (hj : j < l.length), j < k → 0 ≤ digI 10 l[j].toNat) ∧ Hid (0 ≤ a ∧ a < 18446744073709551616) ∧ Hid (ov = decide (18446744073709551616 ≤ valL 10 (l.take k))) ∧ Hid (ov = false → a = (valL 10 (l.take k) : Int)) ∧ Hid (Drawn w wr)) (fun _ _ is _ => n - (intOf is).toNat)
      case atStart => exact ⟨0, 0, false, by omega, rfl, rfl, rfl, fun j hj h => by omega, ⟨by decide, by decide⟩, by show _ = _; rw [List.take_zero]; rfl, fun _ => by rw [List.take_zero]; rfl, by first | exact Drawn.refl _ | exact Drawn.of _ _⟩
      case round =>
        obtain ⟨k, a, ov, hk, rfl, rfl, rfl, HD, HA, HO, HV, HDR⟩ := hrel
        by_cases hlt : k < n
        · have HLT : Hid (k < l.length) := by show _ < _; rw [← HN.out]; exact hlt
          have hixk := str_index 9 Tryz.underlying9 l k HLT.out
          have HVS : Hid (valL 10 (l.take (k + 1)) = 10 * valL 10 (l.take k) + (digI 10 (l[k]'HLT.out).toNat).toNat) := by show _ = _; rw [List.take_succ_eq_append_getElem HLT.out, valL_snoc]
          have hc256 : (l[k]'HLT.out).toNat < 256 := UInt8.toNat_lt _
          have HD5 := Lib.hid (fun (hq : 0 ≤ digI 10 (l[k]'HLT.out).toNat) j (hj : j < l.length) (hjk : j < k + 1) => show 0 ≤ digI 10 l[j].toNat from by
            rcases Nat.lt_or_ge j k with h' | h'
            · exact HD.out j hj h'
            · obtain rfl : j = k := by omega
              exact hq)
          have HB5 := Lib.hid (fun (hq : digI 10 (l[k]'HLT.out).toNat < 0) => show numE 10 l = 6 ∧ numV 10 l = 0 from H1.out (by
            rw [HBA.out, List.any_eq_true]
            exact ⟨_, List.getElem_mem HLT.out, decide_eq_true hq⟩))
          generalize (l[k]'HLT.out).toNat = c at *
          have CD := Lib.hid (fun W => ref02_digit10 c W hc256)
          obtain ⟨hd1, hd2⟩ := digI_lt 10 c hc256
          generalize digI 10 c = dI at *
          go_wp2_with fail
          refine (CD.out _).mono ?_
          rintro e w2 ⟨rfl, d2⟩
          have D2 := Lib.hid (HDR.out.trans d2)
          clear d2 CD
          by_cases hneg : dI < 0
          · have t5 : decide (dI < 0) = true := decide_eq_true hneg
            have HE := Lib.hid (HB5.out hneg)
            clear hneg
            go_wp2_with fail
            go_ret2
            exact ⟨ret_ui (by rw [HE.out.2]; rfl) (by rw [HE.out.1]), D2.out⟩
          · have t5 : decide (dI < 0) = false := decide_eq_false hneg
            have HD6 := Lib.hid (HD5.out (by omega))
            obtain ⟨ha0, ha1⟩ := HA.out
            have hwd : IntKind.u64.wrap dI = dI := by rw [IntKind.wrap_u64]; omega
            obtain ⟨m, hm⟩ : ∃ m, m = 18446744073709551615 - dI := ⟨_, rfl⟩
            have hwm : IntKind.u64.wrap (18446744073709551615 - dI) = m := by rw [IntKind.wrap_u64]; omega
            obtain ⟨q, hq⟩ : ∃ q, q = m / 10 := ⟨_, rfl⟩
            have hmq : m.tdiv 10 = q := by rw [Int.tdiv_eq_ediv_of_nonneg (by omega)]; omega
            have hwq : IntKind.u64.wrap q = q := by rw [IntKind.wrap_u64]; omega
            obtain ⟨a1, ha1'⟩ : ∃ a1, a1 = (10 * a) % 18446744073709551616 := ⟨_, rfl⟩
            obtain ⟨a2, ha2'⟩ : ∃ a2, a2 = (a1 + dI) % 18446744073709551616 := ⟨_, rfl⟩
            have hwa1 : IntKind.u64.wrap (10 * a) = a1 := by rw [IntKind.wrap_u64]; omega
            have hwa2 : IntKind.u64.wrap (a1 + dI) = a2 := by rw [IntKind.wrap_u64]; omega
            have HA2 : Hid (0 ≤ a2 ∧ a2 < 18446744073709551616) := by show _ ∧ _; omega
            have hfor : ov = false → (decide (q < a) = decide (18446744073709551616 ≤ valL 10 (l.take (k + 1)))) ∧ (decide (q < a) = false → a2 = (valL 10 (l.take (k + 1)) : Int)) := fun h => by
              have h1 := HV.out h
              rw [HVS.out]
              refine ⟨decide_eq_decide.2 ?_, fun h2 => ?_⟩
              · omega
              · have h3 := of_decide_eq_false h2
                omega
            have htrue : ov = true → decide (18446744073709551616 ≤ valL 10 (l.take (k + 1))) = true := fun h => by
              have h1 := HO.out
              rw [h] at h1
              have h2 := of_decide_eq_true h1.symm
              rw [HVS.out]
              exact decide_eq_true (by omega)
            have HFOR := Lib.hid hfor
            have HTRUE := Lib.hid htrue
            clear hfor htrue hm hq ha1' ha2' ha0 ha1 hd1 hd2 hneg
            cases ov
            · cases htb : decide (q < a)
              · have HN2 := Lib.hid (HFOR.out rfl)
                rw [htb] at HN2
                clear HFOR HTRUE
                go_wp2_with fail
                clear hwd hwm hmq hwq hwa1 hwa2
                go_roundw
                case rel => exact ⟨k + 1, a2, false, by omega, rfl, rfl, by go_num, HD6.out, HA2.out, HN2.out.1, fun _ => HN2.out.2 trivial, D2.out⟩
                case measure => simp [intOf]; omega
              · have HN2 := Lib.hid (HFOR.out rfl)
                rw [htb] at HN2
                clear HFOR HTRUE
                go_wp2_with fail
                clear hwd hwm hmq hwq hwa1 hwa2
                go_roundw
                case rel => exact ⟨k + 1, a2, true, by omega, rfl, rfl, by go_num, HD6.out, HA2.out, HN2.out.1, fun h => (by cases h), D2.out⟩
                case measure => simp [intOf]; omega
            · have HN2 := Lib.hid (HTRUE.out rfl)
              clear HFOR HTRUE
              go_wp2_with fail
              clear hwd hwm hmq hwq hwa1 hwa2
              go_roundw
              case rel => exact ⟨k + 1, a2, true, by omega, rfl, rfl, by go_num, HD6.out, HA2.out, HN2.out.symm, fun h => (by cases h), D2.out⟩
              case measure => simp [intOf]; omega
        · have hnl : ¬ ((k : Int) < (n : Int)) := by omega
          have hkl : l.take k = l := List.take_of_length_le (by have := HN.out; omega)
          have HBF : Hid (badL 10 l = false) := by
            show _ = _
            rw [HBA.out, List.any_eq_false]
            intro y hy
            obtain ⟨j, hj, rfl⟩ := List.getElem_of_mem hy
            have := HD.out j hj (by have := HN.out; omega)
            simp; omega
          rw [hkl] at HO HV
          cases ov
          · have h1 := of_decide_eq_false HO.out.symm
            have HE : Hid (numE 10 l = 0) := by show _ = _; unfold numE; rw [HBF.out, if_neg (by simp), if_neg h1]
            have HW : Hid ((numV 10 l : Int) = a) := by show _ = _; unfold numV; rw [if_pos HE.out, HV.out rfl]
            clear h1 hkl
            go_wp2_with fail
            go_ret2
            exact ⟨ret_ui (by rw [HW.out]) (by rw [HE.out]), HDR.out⟩
          · have h1 := of_decide_eq_true HO.out.symm
            have HE : Hid (numE 10 l = 2) := by show _ = _; unfold numE; rw [HBF.out, if_neg (by simp), if_pos h1]
            have HW : Hid (numV 10 l = 0) := by show _ = _; unfold numV; rw [HE.out]; rfl
            clear h1 hkl
            go_wp2_with fail
            go_ret2
            exact ⟨ret_ui (by rw [HW.out]; rfl) (by rw [HE.out]), HDR.out⟩
    · skip
      go_wp2_with fail
      clear t0 t1
      go_loopw [6, 7, 8] (fun xs os is wr => ∃ (k : Nat) (a : Int) (ov : Bool), k ≤ n ∧ xs = .int .u64 a ∧ os = .bool ov ∧ is = .int .i64 k ∧ Hid (∀ j (hj : j < l.length), j < k → 0 ≤ digI 10 l[j].toNat) ∧ Hid (0 ≤ a ∧ a < 18446744073709551616) ∧ Hid (ov = decide (18446744073709551616 ≤ valL 10 (l.take k))) ∧ Hid (ov = false → a = (valL 10 (l.take k) : Int)) ∧ Hid (Drawn w wr)) (fun _ _ is _ => n - (intOf is).toNat)
      case atStart => exact ⟨0, 0, false, by omega, rfl, rfl, rfl, fun j hj h => by omega, ⟨by decide, by decide⟩, by show _ = _; rw [List.take_zero]; rfl, fun _ => by rw [List.take_zero]; rfl, by first | exact Drawn.refl _ | exact Drawn.of _ _⟩
      case round =>
        obtain ⟨k, a, ov, hk, rfl, rfl, rfl, HD, HA, HO, HV, HDR⟩ := hrel
        by_cases hlt : k < n
        · have HLT : Hid (k < l.length) := by show _ < _; rw [← HN.out]; exact hlt
          have hixk := str_index 9 Tryz.underlying9 l k HLT.out
          have HVS : Hid (valL 10 (l.take (k + 1)) = 10 * valL 10 (l.take k) + (digI 10 (l[k]'HLT.out).toNat).toNat) := by show _ = _; rw [List.take_succ_eq_append_getElem HLT.out, valL_snoc]
          have hc256 : (l[k]'HLT.out).toNat < 256 := UInt8.toNat_lt _
          have HD5 := Lib.hid (fun (hq : 0 ≤ digI 10 (l[k]'HLT.out).toNat) j (hj : j < l.length) (hjk : j < k + 1) => show 0 ≤ digI 10 l[j].toNat from by
            rcases Nat.lt_or_ge j k with h' | h'
            · exact HD.out j hj h'
            · obtain rfl : j = k := by omega
              exact hq)
          have HB5 := Lib.hid (fun (hq : digI 10 (l[k]'HLT.out).toNat < 0) => show numE 10 l = 6 ∧ numV 10 l = 0 from H1.out (by
            rw [HBA.out, List.any_eq_true]
            exact ⟨_, List.getElem_mem HLT.out, decide_eq_true hq⟩))
          generalize (l[k]'HLT.out).toNat = c at *
          have CD := Lib.hid (fun W => ref02_digit10 c W hc256)
          obtain ⟨hd1, hd2⟩ := digI_lt 10 c hc256
          generalize digI 10 c = dI at *
          go_wp2_with fail
          refine (CD.out _).mono ?_
          rintro e w2 ⟨rfl, d2⟩
          have D2 := Lib.hid (HDR.out.trans d2)
          clear d2 CD
          by_cases hneg : dI < 0
          · have t5 : decide (dI < 0) = true := decide_eq_true hneg
            have HE := Lib.hid (HB5.out hneg)
            clear hneg
            go_wp2_with fail
            go_ret2
            exact ⟨ret_ui (by rw [HE.out.2]; rfl) (by rw [HE.out.1]), D2.out⟩
          · have t5 : decide (dI < 0) = false := decide_eq_false hneg
            have HD6 := Lib.hid (HD5.out (by omega))
            obtain ⟨ha0, ha1⟩ := HA.out
            have hwd : IntKind.u64.wrap dI = dI := by rw [IntKind.wrap_u64]; omega
            obtain ⟨m, hm⟩ : ∃ m, m = 18446744073709551615 - dI := ⟨_, rfl⟩
            have hwm : IntKind.u64.wrap (18446744073709551615 - dI) = m := by rw [IntKind.wrap_u64]; omega
            obtain ⟨q, hq⟩ : ∃ q, q = m / 10 := ⟨_, rfl⟩
            have hmq : m.tdiv 10 = q := by rw [Int.tdiv_eq_ediv_of_nonneg (by omega)]; omega
            have hwq : IntKind.u64.wrap q = q := by rw [IntKind.wrap_u64]; omega
            obtain ⟨a1, ha1'⟩ : ∃ a1, a1 = (10 * a) % 18446744073709551616 := ⟨_, rfl⟩
            obtain ⟨a2, ha2'⟩ : ∃ a2, a2 = (a1 + dI) % 18446744073709551616 := ⟨_, rfl⟩
            have hwa1 : IntKind.u64.wrap (10 * a) = a1 := by rw [IntKind.wrap_u64]; omega
            have hwa2 : IntKind.u64.wrap (a1 + dI) = a2 := by rw [IntKind.wrap_u64]; omega
            have HA2 : Hid (0 ≤ a2 ∧ a2 < 18446744073709551616) := by show _ ∧ _; omega
            have hfor : ov = false → (decide (q < a) = decide (18446744073709551616 ≤ valL 10 (l.take (k + 1)))) ∧ (decide (q < a) = false → a2 = (valL 10 (l.take (k + 1)) : Int)) := fun h => by
              have h1 := HV.out h
              rw [HVS.out]
              refine ⟨decide_eq_decide.2 ?_, fun h2 => ?_⟩
              · omega
              · have h3 := of_decide_eq_false h2
                omega
            have htrue : ov = true → decide (18446744073709551616 ≤ valL 10 (l.take (k + 1))) = true := fun h => by
              have h1 := HO.out
              rw [h] at h1
              have h2 := of_decide_eq_true h1.symm
              rw [HVS.out]
              exact decide_eq_true (by omega)
            have HFOR := Lib.hid hfor
            have HTRUE := Lib.hid htrue
            clear hfor htrue hm hq ha1' ha2' ha0 ha1 hd1 hd2 hneg
            cases ov
            · cases htb : decide (q < a)
              · have HN2 := Lib.hid (HFOR.out rfl)
                rw [htb] at HN2
                clear HFOR HTRUE
                go_wp2_with fail
                clear hwd hwm hmq hwq hwa1 hwa2
                go_roundw
                case rel => exact ⟨k + 1, a2, false, by omega, rfl, rfl, by go_num, HD6.out, HA2.out, HN2.out.1, fun _ => HN2.out.2 trivial, D2.out⟩
                case measure => simp [intOf]; omega
              · have HN2 := Lib.hid (HFOR.out rfl)
                rw [htb] at HN2
                clear HFOR HTRUE
                go_wp2_with fail
                clear hwd hwm hmq hwq hwa1 hwa2
                go_roundw
                case rel => exact ⟨k + 1, a2, true, by omega, rfl, rfl, by go_num, HD6.out, HA2.out, HN2.out.1, fun h => (by cases h), D2.out⟩
                case measure => simp [intOf]; omega
            · have HN2 := Lib.hid (HTRUE.out rfl)
              clear HFOR HTRUE
              go_wp2_with fail
              clear hwd hwm hmq hwq hwa1 hwa2
              go_roundw
              case rel => exact ⟨k + 1, a2, true, by omega, rfl, rfl, by go_num, HD6.out, HA2.out, HN2.out.symm, fun h => (by cases h), D2.out⟩
              case measure => simp [intOf]; omega
        · have hnl : ¬ ((k : Int) < (n : Int)) := by omega
          have hkl : l.take k = l := List.take_of_length_le (by have := HN.out; omega)
          have HBF : Hid (badL 10 l = false) := by
            show _ = _
            rw [HBA.out, List.any_eq_false]
            intro y hy
            obtain ⟨j, hj, rfl⟩ := List.getElem_of_mem hy
            have := HD.out j hj (by have := HN.out; omega)
            simp; omega
          rw [hkl] at HO HV
          cases ov
          · have h1 := of_decide_eq_false HO.out.symm
            have HE : Hid (numE 10 l = 0) := by show _ = _; unfold numE; rw [HBF.out, if_neg (by simp), if_neg h1]
            have HW : Hid ((numV 10 l : Int) = a) := by show _ = _; unfold numV; rw [if_pos HE.out, HV.out rfl]
            clear h1 hkl
            go_wp2_with fail
            go_ret2
            exact ⟨ret_ui (by rw [HW.out]) (by rw [HE.out]), HDR.out⟩
          · have h1 := of_decide_eq_true HO.out.symm
            have HE : Hid (numE 10 l = 2) := by show _ = _; unfold numE; rw [HBF.out, if_neg (by simp), if_pos h1]
            have HW : Hid (numV 10 l = 0) := by show _ = _; unfold numV; rw [HE.out]; rfl
            clear h1 hkl
            go_wp2_with fail
            go_ret2
            exact ⟨ret_ui (by rw [HW.out]; rfl) (by rw [HE.out]), HDR.out⟩
end Go.Proofs.Sat
