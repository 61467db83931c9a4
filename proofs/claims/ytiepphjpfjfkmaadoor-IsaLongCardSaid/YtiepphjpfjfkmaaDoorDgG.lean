/- digits.numeral at bases 10 and 16. -/
import Derived.Test.YtiepphjpfjfkmaaDoorDgF
set_option linter.unusedVariables false
set_option linter.unusedSimpArgs false
namespace Go.Proofs.Sat
open Go Go.RowKit
abbrev decS : ByteArray := { data := #[48, 49, 50, 51, 52, 53, 54, 55, 56, 57] }
theorem idx_dec : ∀ c : Fin 256, decide (Lib.indexByte decS.data.toList ((c.val : Int).toNat.toUInt8) < 0) = decide (digI 10 c.val < 0) := by decide +kernel
theorem idx_hex : ∀ c : Fin 256, decide (Lib.indexByte hexS.data.toList ((c.val : Int).toNat.toUInt8) < 0) = decide (digI 16 c.val < 0) := by decide +kernel
set_option maxRecDepth 20000 in
set_option maxHeartbeats 2000000 in
theorem digits_numeral10 (l : List UInt8) (w : World) (hl : l.length ≤ 1099511627776) : Calls Tryd.prog 60 #[.string (strOf l), .string decS] w fun e w' => e = .returned (.bool (!badL 10 l)) ∧ Drawn w w' := by
  have hts := toList_strOf l
  have hsz := strOf_size l
  go_enter Tryd.func60, Tryd.ntmps60
  cases l with
  | nil =>
    go_wp2_with fail
    go_ret
    exact ⟨rfl, Drawn.refl _⟩
  | cons c0 l0 =>
    have hix := str_index 9 Tryd.underlying9 (c0 :: l0) 0 (by simp)
    have HB0 : Hid (badL 10 (c0 :: l0) = ((decide (c0.toNat = 48) && decide (1 < (c0 :: l0).length)) || (c0 :: l0).any (fun c => decide (digI 10 c.toNat < 0)))) := by
      show _ = _
      unfold badL
      have e : decide (((c0 :: l0).head?) = some 48) = decide (c0.toNat = 48) := by
        rw [decide_eq_decide, List.head?_cons, Option.some.injEq]
        exact ⟨fun h => by rw [h]; rfl, fun h => UInt8.toNat_inj.1 h⟩
      rw [e]
      simp
    have hlp : 0 < (c0 :: l0).length := by simp
    have hne : ((c0 :: l0 : List UInt8) == []) = false := rfl
    have hix0 : ∀ W : World, (Instr.index 9 (.string (strOf (c0 :: l0))) (.int .i64 0)).run Tryd.prog W = .ok (.int .u8 ((c0.toNat : Nat) : Int)) W := fun W => hix W
    obtain ⟨l, hl0⟩ : ∃ l, l = c0 :: l0 := ⟨_, rfl⟩
    obtain ⟨n, hn⟩ : ∃ n, n = l.length := ⟨_, rfl⟩
    rw [← hl0] at hts hsz HB0 hlp hne hix0 hl
    rw [← hl0]
    rw [← hn] at hsz HB0 hlp hl
    have HN := Lib.hid hn
    obtain ⟨z, hz⟩ : ∃ z, z = c0.toNat := ⟨_, rfl⟩
    rw [← hz] at HB0 hix0
    clear hix hl0 hn hz
    by_cases hz : z = 48 ∧ 1 < n
    · have HE : Hid ((!badL 10 l) = false) := by show _ = _; rw [HB0.out, decide_eq_true hz.1, decide_eq_true hz.2]; rfl
      have t0 : ((z : Int) == 48) = true := by simp [hz.1]
      have t1 : decide ((1 : Int) < (n : Int)) = true := decide_eq_true (by omega)
      clear hz
      go_wp2_with fail
      go_ret
      exact ⟨ret_bool HE.out.symm, Drawn.refl _⟩
    have HBA : Hid (badL 10 l = l.any (fun c => decide (digI 10 c.toNat < 0))) := by
      show _ = _
      rw [HB0.out]
      by_cases h : z = 48
      · rw [decide_eq_false (fun h2 => hz ⟨h, h2⟩), Bool.and_false, Bool.false_or]
      · rw [decide_eq_false h, Bool.false_and, Bool.false_or]
    have hgo : (decide ((1 : Int) < (n : Int)) = true ∧ ((z : Int) == 48) = false) ∨ (decide ((1 : Int) < (n : Int)) = false) := by
      by_cases h : 1 < n
      · left; exact ⟨decide_eq_true (by omega), by rw [beq_eq_false_iff_ne]; omega⟩
      · right; exact decide_eq_false (by omega)
    clear hz HB0
    rcases hgo with ⟨t1, t0⟩ | t1
    · skip
      go_wp2_with fail
      clear t1 t0
      go_loopw [20] (fun is wr => ∃ (k : Nat), k ≤ n ∧ is = .int .i64 k ∧ Hid (∀ j (hj : j < l.length), j < k → 0 ≤ digI 10 l[j].toNat) ∧ Hid (Drawn w wr)) (fun is _ => n - (intOf is).toNat)
      case atStart => exact ⟨0, by omega, rfl, fun j hj h => by omega, by first | exact Drawn.refl _ | exact Drawn.of _ _⟩
      case round =>
        obtain ⟨k, hk, rfl, HD, HDR⟩ := hrel
        by_cases hlt : k < n
        · have HLT : Hid (k < l.length) := by show _ < _; rw [← HN.out]; exact hlt
          have hixk := str_index 9 Tryd.underlying9 l k HLT.out
          have hc256 : (l[k]'HLT.out).toNat < 256 := UInt8.toNat_lt _
          have HD5 := Lib.hid (fun (hq : 0 ≤ digI 10 (l[k]'HLT.out).toNat) j (hj : j < l.length) (hjk : j < k + 1) => show 0 ≤ digI 10 l[j].toNat from by
            rcases Nat.lt_or_ge j k with h' | h'
            · exact HD.out j hj h'
            · obtain rfl : j = k := by omega
              exact hq)
          have HB5 := Lib.hid (fun (hq : digI 10 (l[k]'HLT.out).toNat < 0) => show (!badL 10 l) = false from by
            have : badL 10 l = true := by
              rw [HBA.out, List.any_eq_true]
              exact ⟨_, List.getElem_mem HLT.out, decide_eq_true hq⟩
            rw [this]; rfl)
          generalize (l[k]'HLT.out).toNat = c at *
          have CI := Lib.hid (fun W => Tryd.strings_IndexByte decS (c : Int) W)
          have hi := idx_dec ⟨c, hc256⟩
          have hi2 : decide (Lib.indexByte decS.data.toList ((c : Int).toNat.toUInt8) < 0) = decide (digI 10 c < 0) := hi
          generalize Lib.indexByte decS.data.toList ((c : Int).toNat.toUInt8) = v at *
          clear hi hc256
          go_wp2_with fail
          refine (CI.out _).mono ?_
          rintro e w2 ⟨rfl, rfl⟩
          clear CI
          by_cases hneg : digI 10 c < 0
          · rw [decide_eq_true hneg] at hi2
            have HE := Lib.hid (HB5.out hneg)
            clear hneg
            go_wp2_with fail
            go_ret
            exact ⟨ret_bool HE.out.symm, HDR.out.trans (by first | exact Drawn.refl _ | exact Drawn.of _ _)⟩
          · rw [decide_eq_false hneg] at hi2
            have HD6 := Lib.hid (HD5.out (by omega))
            clear hneg
            go_wp2_with fail
            go_roundw
            case rel => exact ⟨k + 1, by omega, by go_num, HD6.out, HDR.out.trans (by first | exact Drawn.refl _ | exact Drawn.of _ _)⟩
            case measure => simp [intOf]; omega
        · have hnl : ¬ ((k : Int) < (n : Int)) := by omega
          have HE : Hid ((!badL 10 l) = true) := by
            show _ = _
            rw [HBA.out, Bool.not_eq_true', List.any_eq_false]
            intro y hy
            obtain ⟨j, hj, rfl⟩ := List.getElem_of_mem hy
            have := HD.out j hj (by have := HN.out; omega)
            simp; omega
          clear hlt
          go_wp2_with fail
          go_ret
          exact ⟨ret_bool HE.out.symm, HDR.out⟩
    · skip
      go_wp2_with fail
      clear t1
      go_loopw [20] (fun is wr => ∃ (k : Nat), k ≤ n ∧ is = .int .i64 k ∧ Hid (∀ j (hj : j < l.length), j < k → 0 ≤ digI 10 l[j].toNat) ∧ Hid (Drawn w wr)) (fun is _ => n - (intOf is).toNat)
      case atStart => exact ⟨0, by omega, rfl, fun j hj h => by omega, by first | exact Drawn.refl _ | exact Drawn.of _ _⟩
      case round =>
        obtain ⟨k, hk, rfl, HD, HDR⟩ := hrel
        by_cases hlt : k < n
        · have HLT : Hid (k < l.length) := by show _ < _; rw [← HN.out]; exact hlt
          have hixk := str_index 9 Tryd.underlying9 l k HLT.out
          have hc256 : (l[k]'HLT.out).toNat < 256 := UInt8.toNat_lt _
          have HD5 := Lib.hid (fun (hq : 0 ≤ digI 10 (l[k]'HLT.out).toNat) j (hj : j < l.length) (hjk : j < k + 1) => show 0 ≤ digI 10 l[j].toNat from by
            rcases Nat.lt_or_ge j k with h' | h'
            · exact HD.out j hj h'
            · obtain rfl : j = k := by omega
              exact hq)
          have HB5 := Lib.hid (fun (hq : digI 10 (l[k]'HLT.out).toNat < 0) => show (!badL 10 l) = false from by
            have : badL 10 l = true := by
              rw [HBA.out, List.any_eq_true]
              exact ⟨_, List.getElem_mem HLT.out, decide_eq_true hq⟩
            rw [this]; rfl)
          generalize (l[k]'HLT.out).toNat = c at *
          have CI := Lib.hid (fun W => Tryd.strings_IndexByte decS (c : Int) W)
          have hi := idx_dec ⟨c, hc256⟩
          have hi2 : decide (Lib.indexByte decS.data.toList ((c : Int).toNat.toUInt8) < 0) = decide (digI 10 c < 0) := hi
          generalize Lib.indexByte decS.data.toList ((c : Int).toNat.toUInt8) = v at *
          clear hi hc256
          go_wp2_with fail
          refine (CI.out _).mono ?_
          rintro e w2 ⟨rfl, rfl⟩
          clear CI
          by_cases hneg : digI 10 c < 0
          · rw [decide_eq_true hneg] at hi2
            have HE := Lib.hid (HB5.out hneg)
            clear hneg
            go_wp2_with fail
            go_ret
            exact ⟨ret_bool HE.out.symm, HDR.out.trans (by first | exact Drawn.refl _ | exact Drawn.of _ _)⟩
          · rw [decide_eq_false hneg] at hi2
            have HD6 := Lib.hid (HD5.out (by omega))
            clear hneg
            go_wp2_with fail
            go_roundw
            case rel => exact ⟨k + 1, by omega, by go_num, HD6.out, HDR.out.trans (by first | exact Drawn.refl _ | exact Drawn.of _ _)⟩
            case measure => simp [intOf]; omega
        · have hnl : ¬ ((k : Int) < (n : Int)) := by omega
          have HE : Hid ((!badL 10 l) = true) := by
            show _ = _
            rw [HBA.out, Bool.not_eq_true', List.any_eq_false]
            intro y hy
            obtain ⟨j, hj, rfl⟩ := List.getElem_of_mem hy
            have := HD.out j hj (by have := HN.out; omega)
            simp; omega
          clear hlt
          go_wp2_with fail
          go_ret
          exact ⟨ret_bool HE.out.symm, HDR.out⟩
set_option maxRecDepth 20000 in
set_option maxHeartbeats 2000000 in
theorem digits_numeral16 (l : List UInt8) (w : World) (hl : l.length ≤ 1099511627776) : Calls Tryd.prog 60 #[.string (strOf l), .string hexS] w fun e w' => e = .returned (.bool (!badL 16 l)) ∧ Drawn w w' := by
  have hts := toList_strOf l
  have hsz := strOf_size l
  go_enter Tryd.func60, Tryd.ntmps60
  cases l with
  | nil =>
    go_wp2_with fail
    go_ret
    exact ⟨rfl, Drawn.refl _⟩
  | cons c0 l0 =>
    have hix := str_index 9 Tryd.underlying9 (c0 :: l0) 0 (by simp)
    have HB0 : Hid (badL 16 (c0 :: l0) = ((decide (c0.toNat = 48) && decide (1 < (c0 :: l0).length)) || (c0 :: l0).any (fun c => decide (digI 16 c.toNat < 0)))) := by
      show _ = _
      unfold badL
      have e : decide (((c0 :: l0).head?) = some 48) = decide (c0.toNat = 48) := by
        rw [decide_eq_decide, List.head?_cons, Option.some.injEq]
        exact ⟨fun h => by rw [h]; rfl, fun h => UInt8.toNat_inj.1 h⟩
      rw [e]
      simp
    have hlp : 0 < (c0 :: l0).length := by simp
    have hne : ((c0 :: l0 : List UInt8) == []) = false := rfl
    have hix0 : ∀ W : World, (Instr.index 9 (.string (strOf (c0 :: l0))) (.int .i64 0)).run Tryd.prog W = .ok (.int .u8 ((c0.toNat : Nat) : Int)) W := fun W => hix W
    obtain ⟨l, hl0⟩ : ∃ l, l = c0 :: l0 := ⟨_, rfl⟩
    obtain ⟨n, hn⟩ : ∃ n, n = l.length := ⟨_, rfl⟩
    rw [← hl0] at hts hsz HB0 hlp hne hix0 hl
    rw [← hl0]
    rw [← hn] at hsz HB0 hlp hl
    have HN := Lib.hid hn
    obtain ⟨z, hz⟩ : ∃ z, z = c0.toNat := ⟨_, rfl⟩
    rw [← hz] at HB0 hix0
    clear hix hl0 hn hz
    by_cases hz : z = 48 ∧ 1 < n
    · have HE : Hid ((!badL 16 l) = false) := by show _ = _; rw [HB0.out, decide_eq_true hz.1, decide_eq_true hz.2]; rfl
      have t0 : ((z : Int) == 48) = true := by simp [hz.1]
      have t1 : decide ((1 : Int) < (n : Int)) = true := decide_eq_true (by omega)
      clear hz
      go_wp2_with fail
      go_ret
      exact ⟨ret_bool HE.out.symm, Drawn.refl _⟩
    have HBA : Hid (badL 16 l = l.any (fun c => decide (digI 16 c.toNat < 0))) := by
      show _ = _
      rw [HB0.out]
      by_cases h : z = 48
      · rw [decide_eq_false (fun h2 => hz ⟨h, h2⟩), Bool.and_false, Bool.false_or]
      · rw [decide_eq_false h, Bool.false_and, Bool.false_or]
    have hgo : (decide ((1 : Int) < (n : Int)) = true ∧ ((z : Int) == 48) = false) ∨ (decide ((1 : Int) < (n : Int)) = false) := by
      by_cases h : 1 < n
      · left; exact ⟨decide_eq_true (by omega), by rw [beq_eq_false_iff_ne]; omega⟩
      · right; exact decide_eq_false (by omega)
    clear hz HB0
    rcases hgo with ⟨t1, t0⟩ | t1
    · skip
      go_wp2_with fail
      clear t1 t0
      go_loopw [20] (fun is wr => ∃ (k : Nat), k ≤ n ∧ is = .int .i64 k ∧ Hid (∀ j (hj : j < l.length), j < k → 0 ≤ digI 16 l[j].toNat) ∧ Hid (Drawn w wr)) (fun is _ => n - (intOf is).toNat)
      case atStart => exact ⟨0, by omega, rfl, fun j hj h => by omega, by first | exact Drawn.refl _ | exact Drawn.of _ _⟩
      case round =>
        obtain ⟨k, hk, rfl, HD, HDR⟩ := hrel
        by_cases hlt : k < n
        · have HLT : Hid (k < l.length) := by show _ < _; rw [← HN.out]; exact hlt
          have hixk := str_index 9 Tryd.underlying9 l k HLT.out
          have hc256 : (l[k]'HLT.out).toNat < 256 := UInt8.toNat_lt _
          have HD5 := Lib.hid (fun (hq : 0 ≤ digI 16 (l[k]'HLT.out).toNat) j (hj : j < l.length) (hjk : j < k + 1) => show 0 ≤ digI 16 l[j].toNat from by
            rcases Nat.lt_or_ge j k with h' | h'
            · exact HD.out j hj h'
            · obtain rfl : j = k := by omega
              exact hq)
          have HB5 := Lib.hid (fun (hq : digI 16 (l[k]'HLT.out).toNat < 0) => show (!badL 16 l) = false from by
            have : badL 16 l = true := by
              rw [HBA.out, List.any_eq_true]
              exact ⟨_, List.getElem_mem HLT.out, decide_eq_true hq⟩
            rw [this]; rfl)
          generalize (l[k]'HLT.out).toNat = c at *
          have CI := Lib.hid (fun W => Tryd.strings_IndexByte hexS (c : Int) W)
          have hi := idx_hex ⟨c, hc256⟩
          have hi2 : decide (Lib.indexByte hexS.data.toList ((c : Int).toNat.toUInt8) < 0) = decide (digI 16 c < 0) := hi
          generalize Lib.indexByte hexS.data.toList ((c : Int).toNat.toUInt8) = v at *
          clear hi hc256
          go_wp2_with fail
          refine (CI.out _).mono ?_
          rintro e w2 ⟨rfl, rfl⟩
          clear CI
          by_cases hneg : digI 16 c < 0
          · rw [decide_eq_true hneg] at hi2
            have HE := Lib.hid (HB5.out hneg)
            clear hneg
            go_wp2_with fail
            go_ret
            exact ⟨ret_bool HE.out.symm, HDR.out.trans (by first | exact Drawn.refl _ | exact Drawn.of _ _)⟩
          · rw [decide_eq_false hneg] at hi2
            have HD6 := Lib.hid (HD5.out (by omega))
            clear hneg
            go_wp2_with fail
            go_roundw
            case rel => exact ⟨k + 1, by omega, by go_num, HD6.out, HDR.out.trans (by first | exact Drawn.refl _ | exact Drawn.of _ _)⟩
            case measure => simp [intOf]; omega
        · have hnl : ¬ ((k : Int) < (n : Int)) := by omega
          have HE : Hid ((!badL 16 l) = true) := by
            show _ = _
            rw [HBA.out, Bool.not_eq_true', List.any_eq_false]
            intro y hy
            obtain ⟨j, hj, rfl⟩ := List.getElem_of_mem hy
            have := HD.out j hj (by have := HN.out; omega)
            simp; omega
          clear hlt
          go_wp2_with fail
          go_ret
          exact ⟨ret_bool HE.out.symm, HDR.out⟩
    · skip
      go_wp2_with fail
      clear t1
      go_loopw [20] (fun is wr => ∃ (k : Nat), k ≤ n ∧ is = .int .i64 k ∧ Hid (∀ j (hj : j < l.length), j < k → 0 ≤ digI 16 l[j].toNat) ∧ Hid (Drawn w wr)) (fun is _ => n - (intOf is).toNat)
      case atStart => exact ⟨0, by omega, rfl, fun j hj h => by omega, by first | exact Drawn.refl _ | exact Drawn.of _ _⟩
      case round =>
        obtain ⟨k, hk, rfl, HD, HDR⟩ := hrel
        by_cases hlt : k < n
        · have HLT : Hid (k < l.length) := by show _ < _; rw [← HN.out]; exact hlt
          have hixk := str_index 9 Tryd.underlying9 l k HLT.out
          have hc256 : (l[k]'HLT.out).toNat < 256 := UInt8.toNat_lt _
          have HD5 := Lib.hid (fun (hq : 0 ≤ digI 16 (l[k]'HLT.out).toNat) j (hj : j < l.length) (hjk : j < k + 1) => show 0 ≤ digI 16 l[j].toNat from by
            rcases Nat.lt_or_ge j k with h' | h'
            · exact HD.out j hj h'
            · obtain rfl : j = k := by omega
              exact hq)
          have HB5 := Lib.hid (fun (hq : digI 16 (l[k]'HLT.out).toNat < 0) => show (!badL 16 l) = false from by
            have : badL 16 l = true := by
              rw [HBA.out, List.any_eq_true]
              exact ⟨_, List.getElem_mem HLT.out, decide_eq_true hq⟩
            rw [this]; rfl)
          generalize (l[k]'HLT.out).toNat = c at *
          have CI := Lib.hid (fun W => Tryd.strings_IndexByte hexS (c : Int) W)
          have hi := idx_hex ⟨c, hc256⟩
          have hi2 : decide (Lib.indexByte hexS.data.toList ((c : Int).toNat.toUInt8) < 0) = decide (digI 16 c < 0) := hi
          generalize Lib.indexByte hexS.data.toList ((c : Int).toNat.toUInt8) = v at *
          clear hi hc256
          go_wp2_with fail
          refine (CI.out _).mono ?_
          rintro e w2 ⟨rfl, rfl⟩
          clear CI
          by_cases hneg : digI 16 c < 0
          · rw [decide_eq_true hneg] at hi2
            have HE := Lib.hid (HB5.out hneg)
            clear hneg
            go_wp2_with fail
            go_ret
            exact ⟨ret_bool HE.out.symm, HDR.out.trans (by first | exact Drawn.refl _ | exact Drawn.of _ _)⟩
          · rw [decide_eq_false hneg] at hi2
            have HD6 := Lib.hid (HD5.out (by omega))
            clear hneg
            go_wp2_with fail
            go_roundw
            case rel => exact ⟨k + 1, by omega, by go_num, HD6.out, HDR.out.trans (by first | exact Drawn.refl _ | exact Drawn.of _ _)⟩
            case measure => simp [intOf]; omega
        · have hnl : ¬ ((k : Int) < (n : Int)) := by omega
          have HE : Hid ((!badL 16 l) = true) := by
            show _ = _
            rw [HBA.out, Bool.not_eq_true', List.any_eq_false]
            intro y hy
            obtain ⟨j, hj, rfl⟩ := List.getElem_of_mem hy
            have := HD.out j hj (by have := HN.out; omega)
            simp; omega
          clear hlt
          go_wp2_with fail
          go_ret
          exact ⟨ret_bool HE.out.symm, HDR.out⟩
end Go.Proofs.Sat
