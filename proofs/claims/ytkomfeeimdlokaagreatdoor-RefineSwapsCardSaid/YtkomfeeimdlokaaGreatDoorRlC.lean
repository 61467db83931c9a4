/- RlA, RlB, RlC, one after the other. -/
import Derived.Test.YtkomfeeimdlokaaGreatDoorExF
import Derived.Test.YtkomfeeimdlokaaGreatDoorR8C
import Derived.Test.YtkomfeeimdlokaaGreatDoorRaE
import Derived.BigQuiet
import Derived.Test.YtkomfeeimdlokaaGreatDoorRgE
import Derived.StillTailTactics
import Derived.Test.YtkomfeeimdlokaaGreatDoorLvQ4
set_option linter.unusedVariables false
set_option linter.unusedSimpArgs false
/- Walks of the reference of ch. 49: State, value; ref48's Traps. -/
namespace Go.Proofs.Sat
open Go Go.RowKit
/-- What an operation computes from its sources. -/
def valL (op : Int) (n I : Nat) (l : List Nat) : Nat := if op = 1 then I % 2 ^ n else if op = 19 then (if l.getD 0 0 ≠ 0 then l.getD 1 0 else l.getD 2 0) else valN op n (l.getD 0 0) (l.getD 1 0)
theorem rd_one {S : Nat → Prop} {w : World} {a : Option Addr} {c : Nat} {x : Int} (h : Rd (Kd.int .u64) S w a c [x]) : ∃ b o, a = some ⟨b, o, none⟩ ∧ w.cell? ⟨b, o, none⟩ = some (.int .u64 x) := by
  obtain ⟨b, o, rfl, -, -, hc⟩ := h.vals (by simp) 0
  exact ⟨b, o, rfl, hc 0 (by simp)⟩
theorem rd_two {S : Nat → Prop} {w : World} {a : Option Addr} {c : Nat} {x y : Int} (h : Rd (Kd.int .u64) S w a c [x, y]) : ∃ b o, a = some ⟨b, o, none⟩ ∧ w.cell? ⟨b, o, none⟩ = some (.int .u64 x) ∧ w.cell? ⟨b, o + 1, none⟩ = some (.int .u64 y) := by
  obtain ⟨b, o, rfl, -, -, hc⟩ := h.vals (by simp) 0
  exact ⟨b, o, rfl, hc 0 (by simp), hc 1 (by simp)⟩
theorem rd_three {S : Nat → Prop} {w : World} {a : Option Addr} {c : Nat} {x y z : Int} (h : Rd (Kd.int .u64) S w a c [x, y, z]) : ∃ b o, a = some ⟨b, o, none⟩ ∧ w.cell? ⟨b, o, none⟩ = some (.int .u64 x) ∧ w.cell? ⟨b, o + 1, none⟩ = some (.int .u64 y) ∧ w.cell? ⟨b, o + 2, none⟩ = some (.int .u64 z) := by
  obtain ⟨b, o, rfl, -, -, hc⟩ := h.vals (by simp) 0
  exact ⟨b, o, rfl, hc 0 (by simp), hc 1 (by simp), hc 2 (by simp)⟩
theorem len_one {α : Type} {l : List α} (h : l.length = 1) : ∃ a, l = [a] := by
  match l, h with
  | [a], _ => exact ⟨a, rfl⟩
theorem len_two {α : Type} {l : List α} (h : l.length = 2) : ∃ a b, l = [a, b] := by
  match l, h with
  | [a, b], _ => exact ⟨a, b, rfl⟩
theorem len_three {α : Type} {l : List α} (h : l.length = 3) : ∃ a b c, l = [a, b, c] := by
  match l, h with
  | [a, b, c], _ => exact ⟨a, b, c, rfl⟩
set_option maxRecDepth 20000 in
set_option maxHeartbeats 1000000 in
theorem ref49_State (S : Nat → Prop) (W n : Nat) (l : List Int) (a : Option Addr) (c : Nat) (w : World) (h : Rd (Kd.int .u64) S w a c l) (hl : ∀ x ∈ l, 0 ≤ x ∧ x < 18446744073709551616) (h1 : 1 ≤ W) (h2 : W ≤ 64) (hn : n ≤ 8) :
    Calls Tryz.prog 108 #[.int .i64 (W : Int), .int .i64 (n : Int), .slice a l.length c] w fun e w' => ∃ g, e = .returned (.slice (some ⟨g, 0, none⟩) n n) ∧ w.heap.size ≤ g ∧ St8 w' g n (cutL W l) ∧ Below w.heap.size w w' := by
  have HR := Lib.hid h
  have HL := Lib.hid hl
  have hll := h.le
  clear h hl
  go_enter Tryz.func108, Tryz.ntmps108
  go_wp2_with (first
    | ((with_reducible refine gate_m 32 (.tmp 9) (.tmp 9) rfl ?_); refine wpList_make_ev _ rfl (.tmp 9) (.tmp 9) 32 rfl _ _ rfl rfl _ (run_mkR _ _ _ _ _ n rfl rfl (by omega)) ?_; rintro v' w1 ⟨hG, hg, rfl⟩; have G1 := Lib.hid hG; have B1 := Lib.hid ((Below.refl w.heap.size w).grown hg (Nat.le_refl _) (fun k hk => by cases hk)); clear hG hg)
    | fail)
  go_loopw [8] (fun i wr => ∃ k : Nat, k ≤ n ∧ i = .int .i64 k ∧ Hid (St8 wr w.heap.size n (cutP W l k)) ∧ Hid (Below w.heap.size w wr)) (fun i _ => n - (intOf i).toNat)
  case atStart => exact ⟨0, by omega, rfl, G1.out.congr (fun i _ => by unfold cutP; rw [if_neg (by omega)]), B1.out⟩
  case round =>
    obtain ⟨k, hk, rfl, G2, B2⟩ := hrel
    by_cases hlt : k < n
    case neg =>
      have t0 : decide ((k : Int) < (n : Int)) = false := decide_eq_false (by omega)
      have hkm : k = n := by omega
      have G3 := Lib.hid (G2.out.congr (t := cutL W l) (fun i hi => by
        unfold cutP
        rw [if_pos (by omega)]))
      have hnl : ¬ ((k : Int) < (n : Int)) := by omega
      have hnl2 : ¬ (k < n) := by omega
      clear hkm hlt hk
      go_wp2_with fail
      go_ret
      exact ⟨w.heap.size, rfl, Nat.le_refl _, G3.out, B2.out⟩
    have t0 : decide ((k : Int) < (n : Int)) = true := decide_eq_true (by omega)
    by_cases hk2 : k < l.length
    case neg =>
      have t1 : decide ((k : Int) < (l.length : Int)) = false := decide_eq_false (by omega)
      have G3 := Lib.hid (G2.out.congr (t := cutL W l) (fun i hi => by
        unfold cutP
        by_cases e : i < k
        · rw [if_pos e]
        · rw [if_neg e]
          unfold cutL
          rw [List.getD_eq_getElem?_getD, List.getElem?_eq_none (by omega)]
          simp))
      have hnl : ¬ ((k : Int) < (l.length : Int)) := by omega
      clear hk2
      go_wp2_with fail
      go_ret
      exact ⟨w.heap.size, rfl, Nat.le_refl _, G3.out, B2.out⟩
    have t1 : decide ((k : Int) < (l.length : Int)) = true := decide_eq_true (by omega)
    obtain ⟨b, o, rfl, -, -, hc⟩ := (HR.out.frame (Same.below B2.out)).vals (by omega) 0
    have d5 := hc k hk2
    rw [getD_at _ hk2] at d5
    have hx := HL.out _ (List.getElem_mem hk2)
    have HE : Hid (cutP W l (k + 1) = updN (cutP W l k) k (l[k].toNat % 2 ^ W)) := by show _ = _; rw [cutP_succ]; unfold cutL; rw [getD_at _ hk2]
    clear hc
    generalize l[k] = x at *
    obtain ⟨hx0, hx1⟩ := hx
    obtain ⟨X, rfl⟩ := Int.eq_ofNat_of_zero_le hx0
    rw [Int.toNat_natCast] at HE
    have CC := Lib.hid (fun W' => ref01_Cut W X W' h1 h2 (by omega))
    generalize X % 2 ^ W = Y at *
    clear hx1
    go_wp2_with fail
    refine (CC.out _).mono ?_
    rintro e w3 ⟨rfl, d3⟩
    have G3 := Lib.hid (G2.out.drawn d3)
    have B3 := Lib.hid (below_both B2.out (d3.below _))
    obtain ⟨s1, s2, s3⟩ := G3.out.at hlt
    have US := Lib.hid s3
    clear d3 s3
    go_wp2_with fail
    go_roundw
    case rel => exact ⟨k + 1, by omega, by go_num, by rw [HE.out]; exact US.out Y, B3.out.setCell (Nat.le_refl _) _⟩
    case measure => simp [intOf]; omega
set_option maxHeartbeats 1000000 in
theorem ref48_Traps (op : Int) (w : World) : Calls Tryz.prog 115 #[.int .i64 op] w fun e w' => e = .returned (.bool (decide (op = 11 ∨ op = 12))) ∧ Drawn w w' := by
  go_enter Tryz.func115, Tryz.ntmps115
  by_cases e1 : op = 11
  · have HE : Hid (decide (op = 11 ∨ op = 12) = true) := decide_eq_true (.inl e1)
    rw [HE.out]
    subst e1
    clear HE
    go_wp2_with fail
    all_goals go_ret
    all_goals exact ⟨rfl, by first | exact Drawn.refl _ | exact Drawn.of _ _⟩
  have t1 : (op == 11) = false := by simpa using e1
  by_cases e2 : op = 12
  · have HE : Hid (decide (op = 11 ∨ op = 12) = true) := decide_eq_true (.inr e2)
    rw [HE.out]
    subst e2
    clear HE t1
    go_wp2_with fail
    all_goals go_ret
    all_goals exact ⟨rfl, by first | exact Drawn.refl _ | exact Drawn.of _ _⟩
  have t2 : (op == 12) = false := by simpa using e2
  have HE : Hid (decide (op = 11 ∨ op = 12) = false) := decide_eq_false (by omega)
  rw [HE.out]
  clear e1 e2 HE
  go_wp2_with fail
  all_goals go_ret
  all_goals exact ⟨rfl, by first | exact Drawn.refl _ | exact Drawn.of _ _⟩
set_option maxRecDepth 20000 in
set_option maxHeartbeats 4000000 in
theorem ref49_other (op : Int) (n I m : Nat) (l : List Nat) (S : Nat → Prop) (a : Option Addr) (c : Nat) (w : World) (h : Rd (Kd.int .u64) S w a c (l.map (fun (x : Nat) => (x : Int)))) (hm : l.length = m) (hs : srcN op = (m : Int)) (hl : ∀ x ∈ l, x < 18446744073709551616) (h1 : 1 ≤ n) (h2 : n ≤ 64) (ho : 13 ≤ op ∧ op ≤ 19) :
    Calls Tryz.prog 138 #[.int .i64 op, .int .i64 (n : Int), .slice a m c] w fun e w' => e = .returned (.int .u64 ((valL op n I l : Nat) : Int)) ∧ Drawn w w' := by
  go_enter Tryz.func138, Tryz.ntmps138
  rcases (show op = 13 ∨ op = 14 ∨ op = 15 ∨ op = 16 ∨ op = 17 ∨ op = 18 ∨ op = 19 by omega) with rfl | rfl | rfl | rfl | rfl | rfl | rfl
  · obtain rfl : m = 2 := by have : srcN 13 = 2 := by decide
                             omega
    obtain ⟨a0, a1, rfl⟩ := len_two hm
    obtain ⟨b, o, rfl, c0, c1⟩ := rd_two h
    have HX : Hid (valL 13 n I [a0, a1] = shlN n a0 a1) := rfl
    have CC := Lib.hid (fun W => ref01_Shl n a0 a1 W h1 h2 (hl a0 (by simp)) (hl a1 (by simp)))
    clear h hl
    go_wp2_with fail
    go_quiet ((go_at_call 146; exact Calls.quiet_of (CC.out _)))
    go_wp2_with fail
    go_ret
    exact ⟨ret_int (by rw [HX.out]), Drawn.of _ _⟩
  · obtain rfl : m = 2 := by have : srcN 14 = 2 := by decide
                             omega
    obtain ⟨a0, a1, rfl⟩ := len_two hm
    obtain ⟨b, o, rfl, c0, c1⟩ := rd_two h
    have HX : Hid (valL 14 n I [a0, a1] = lshrN n a0 a1) := rfl
    have CC := Lib.hid (fun W => ref01_Lshr n a0 a1 W h1 h2 (hl a0 (by simp)) (hl a1 (by simp)))
    clear h hl
    go_wp2_with fail
    go_quiet ((go_at_call 147; exact Calls.quiet_of (CC.out _)))
    go_wp2_with fail
    go_ret
    exact ⟨ret_int (by rw [HX.out]), Drawn.of _ _⟩
  · obtain rfl : m = 2 := by have : srcN 15 = 2 := by decide
                             omega
    obtain ⟨a0, a1, rfl⟩ := len_two hm
    obtain ⟨b, o, rfl, c0, c1⟩ := rd_two h
    have HX : Hid (valL 15 n I [a0, a1] = ashrN n a0 a1) := rfl
    have CC := Lib.hid (fun W => ref01_Ashr n a0 a1 W h1 h2 (hl a0 (by simp)) (hl a1 (by simp)))
    clear h hl
    go_wp2_with fail
    go_quiet ((go_at_call 148; exact Calls.quiet_of (CC.out _)))
    go_wp2_with fail
    go_ret
    exact ⟨ret_int (by rw [HX.out]), Drawn.of _ _⟩
  · obtain rfl : m = 2 := by have : srcN 16 = 2 := by decide
                             omega
    obtain ⟨a0, a1, rfl⟩ := len_two hm
    obtain ⟨b, o, rfl, c0, c1⟩ := rd_two h
    have HX : Hid (valL 16 n I [a0, a1] = eqN n a0 a1) := rfl
    have CC := Lib.hid (fun W => ref01_Eq n a0 a1 W h1 h2 (hl a0 (by simp)) (hl a1 (by simp)))
    clear h hl
    go_wp2_with fail
    go_quiet ((go_at_call 149; exact Calls.quiet_of (CC.out _)))
    go_wp2_with fail
    go_ret
    exact ⟨ret_int (by rw [HX.out]), Drawn.of _ _⟩
  · obtain rfl : m = 2 := by have : srcN 17 = 2 := by decide
                             omega
    obtain ⟨a0, a1, rfl⟩ := len_two hm
    obtain ⟨b, o, rfl, c0, c1⟩ := rd_two h
    have HX : Hid (valL 17 n I [a0, a1] = ultN n a0 a1) := rfl
    have CC := Lib.hid (fun W => ref01_Ult n a0 a1 W h1 h2 (hl a0 (by simp)) (hl a1 (by simp)))
    clear h hl
    go_wp2_with fail
    go_quiet ((go_at_call 150; exact Calls.quiet_of (CC.out _)))
    go_wp2_with fail
    go_ret
    exact ⟨ret_int (by rw [HX.out]), Drawn.of _ _⟩
  · obtain rfl : m = 2 := by have : srcN 18 = 2 := by decide
                             omega
    obtain ⟨a0, a1, rfl⟩ := len_two hm
    obtain ⟨b, o, rfl, c0, c1⟩ := rd_two h
    have HX : Hid (valL 18 n I [a0, a1] = sltN n a0 a1) := rfl
    have CC := Lib.hid (fun W => ref01_Slt n a0 a1 W h1 h2 (hl a0 (by simp)) (hl a1 (by simp)))
    clear h hl
    go_wp2_with fail
    go_quiet ((go_at_call 151; exact Calls.quiet_of (CC.out _)))
    go_wp2_with fail
    go_ret
    exact ⟨ret_int (by rw [HX.out]), Drawn.of _ _⟩
  · obtain rfl : m = 3 := by have : srcN 19 = 3 := by decide
                             omega
    obtain ⟨a0, a1, a2, rfl⟩ := len_three hm
    obtain ⟨b, o, rfl, c0, c1, c2⟩ := rd_three h
    have HX : Hid (valL 19 n I [a0, a1, a2] = if a0 ≠ 0 then a1 else a2) := rfl
    clear h hl
    by_cases e0 : a0 = 0
    · have t0 : ((a0 : Int) != 0) = false := by simp [e0]
      have HV : Hid (valL 19 n I [a0, a1, a2] = a2) := by show _ = _; rw [HX.out, if_neg (not_not_intro e0)]
      clear e0 HX
      go_wp2_with fail
      go_ret
      exact ⟨ret_int (by rw [HV.out]), by first | exact Drawn.refl _ | exact Drawn.of _ _⟩
    · have t0 : ((a0 : Int) != 0) = true := by simp; omega
      have HV : Hid (valL 19 n I [a0, a1, a2] = a1) := by show _ = _; rw [HX.out, if_pos e0]
      clear e0 HX
      go_wp2_with fail
      go_ret
      exact ⟨ret_int (by rw [HV.out]), by first | exact Drawn.refl _ | exact Drawn.of _ _⟩
set_option maxRecDepth 20000 in
set_option maxHeartbeats 4000000 in
theorem ref49_value (op : Int) (n I m : Nat) (l : List Nat) (S : Nat → Prop) (a : Option Addr) (c : Nat) (w : World) (h : Rd (Kd.int .u64) S w a c (l.map (fun (x : Nat) => (x : Int)))) (hm : l.length = m) (hs : srcN op = (m : Int)) (hl : ∀ x ∈ l, x < 18446744073709551616) (hI : I < 18446744073709551616) (h1 : 1 ≤ n) (h2 : n ≤ 64) (ho : 1 ≤ op ∧ op ≤ 19) :
    Calls Tryz.prog 116 #[.int .i64 op, .int .i64 (n : Int), .int .u64 (I : Int), .slice a m c] w fun e w' => e = .returned (.int .u64 ((valL op n I l : Nat) : Int)) ∧ Drawn w w' := by
  go_enter Tryz.func116, Tryz.ntmps116
  rcases (show op = 1 ∨ op = 2 ∨ op = 3 ∨ op = 4 ∨ op = 5 ∨ op = 6 ∨ op = 7 ∨ op = 8 ∨ op = 9 ∨ op = 10 ∨ op = 11 ∨ op = 12 ∨ 13 ≤ op by omega) with rfl | rfl | rfl | rfl | rfl | rfl | rfl | rfl | rfl | rfl | rfl | rfl | hge
  · have HX : Hid (valL 1 n I l = I % 2 ^ n) := rfl
    have CC := Lib.hid (ref01_Cut n I w h1 h2 hI)
    clear h hl
    generalize I % 2 ^ n = Y at *
    go_wp2_with fail
    refine CC.out.mono ?_
    rintro e w1 ⟨rfl, d1⟩
    have D1 := Lib.hid d1
    clear d1
    go_wp2_with fail
    go_ret
    exact ⟨ret_int (by rw [HX.out]), D1.out⟩
  · obtain rfl : m = 1 := by have : srcN 2 = 1 := by decide
                             omega
    obtain ⟨a0, rfl⟩ := len_one hm
    obtain ⟨b, o, rfl, c0⟩ := rd_one h
    have HX : Hid (valL 2 n I [a0] = a0) := rfl
    clear h hl
    go_wp2_with fail
    go_ret
    exact ⟨ret_int (by rw [HX.out]), by first | exact Drawn.refl _ | exact Drawn.of _ _⟩
  · obtain rfl : m = 1 := by have : srcN 3 = 1 := by decide
                             omega
    obtain ⟨a0, rfl⟩ := len_one hm
    obtain ⟨b, o, rfl, c0⟩ := rd_one h
    have HX : Hid (valL 3 n I [a0] = notN n a0) := rfl
    have CC := Lib.hid (ref01_Not n a0 w h1 h2 (hl a0 (by simp)))
    clear h hl
    go_wp2_with fail
    refine CC.out.mono ?_
    rintro e w1 ⟨rfl, d1⟩
    have D1 := Lib.hid d1
    clear d1
    go_wp2_with fail
    go_ret
    exact ⟨ret_int (by rw [HX.out]), D1.out⟩
  · obtain rfl : m = 1 := by have : srcN 4 = 1 := by decide
                             omega
    obtain ⟨a0, rfl⟩ := len_one hm
    obtain ⟨b, o, rfl, c0⟩ := rd_one h
    have HX : Hid (valL 4 n I [a0] = negN n a0) := rfl
    have CC := Lib.hid (ref01_Neg n a0 w h1 h2 (hl a0 (by simp)))
    clear h hl
    go_wp2_with fail
    refine CC.out.mono ?_
    rintro e w1 ⟨rfl, d1⟩
    have D1 := Lib.hid d1
    clear d1
    go_wp2_with fail
    go_ret
    exact ⟨ret_int (by rw [HX.out]), D1.out⟩
  · obtain rfl : m = 2 := by have : srcN 5 = 2 := by decide
                             omega
    obtain ⟨a0, a1, rfl⟩ := len_two hm
    obtain ⟨b, o, rfl, c0, c1⟩ := rd_two h
    have HX : Hid (valL 5 n I [a0, a1] = andN n a0 a1) := rfl
    have CC := Lib.hid (fun W => ref01_And n a0 a1 W h1 h2 (hl a0 (by simp)) (hl a1 (by simp)))
    clear h hl
    go_wp2_with fail
    go_quiet ((go_at_call 130; exact Calls.quiet_of (CC.out _)))
    go_wp2_with fail
    go_ret
    exact ⟨ret_int (by rw [HX.out]), Drawn.of _ _⟩
  · obtain rfl : m = 2 := by have : srcN 6 = 2 := by decide
                             omega
    obtain ⟨a0, a1, rfl⟩ := len_two hm
    obtain ⟨b, o, rfl, c0, c1⟩ := rd_two h
    have HX : Hid (valL 6 n I [a0, a1] = orN n a0 a1) := rfl
    have CC := Lib.hid (fun W => ref01_Or n a0 a1 W h1 h2 (hl a0 (by simp)) (hl a1 (by simp)))
    clear h hl
    go_wp2_with fail
    go_quiet ((go_at_call 131; exact Calls.quiet_of (CC.out _)))
    go_wp2_with fail
    go_ret
    exact ⟨ret_int (by rw [HX.out]), Drawn.of _ _⟩
  · obtain rfl : m = 2 := by have : srcN 7 = 2 := by decide
                             omega
    obtain ⟨a0, a1, rfl⟩ := len_two hm
    obtain ⟨b, o, rfl, c0, c1⟩ := rd_two h
    have HX : Hid (valL 7 n I [a0, a1] = xorN n a0 a1) := rfl
    have CC := Lib.hid (fun W => ref01_Xor n a0 a1 W h1 h2 (hl a0 (by simp)) (hl a1 (by simp)))
    clear h hl
    go_wp2_with fail
    go_quiet ((go_at_call 132; exact Calls.quiet_of (CC.out _)))
    go_wp2_with fail
    go_ret
    exact ⟨ret_int (by rw [HX.out]), Drawn.of _ _⟩
  · obtain rfl : m = 2 := by have : srcN 8 = 2 := by decide
                             omega
    obtain ⟨a0, a1, rfl⟩ := len_two hm
    obtain ⟨b, o, rfl, c0, c1⟩ := rd_two h
    have HX : Hid (valL 8 n I [a0, a1] = addN n a0 a1) := rfl
    have CC := Lib.hid (fun W => ref01_Add n a0 a1 W h1 h2 (hl a0 (by simp)) (hl a1 (by simp)))
    clear h hl
    go_wp2_with fail
    go_quiet ((go_at_call 133; exact Calls.quiet_of (CC.out _)))
    go_wp2_with fail
    go_ret
    exact ⟨ret_int (by rw [HX.out]), Drawn.of _ _⟩
  · obtain rfl : m = 2 := by have : srcN 9 = 2 := by decide
                             omega
    obtain ⟨a0, a1, rfl⟩ := len_two hm
    obtain ⟨b, o, rfl, c0, c1⟩ := rd_two h
    have HX : Hid (valL 9 n I [a0, a1] = subN n a0 a1) := rfl
    have CC := Lib.hid (fun W => ref01_Sub n a0 a1 W h1 h2 (hl a0 (by simp)) (hl a1 (by simp)))
    clear h hl
    go_wp2_with fail
    go_quiet ((go_at_call 134; exact Calls.quiet_of (CC.out _)))
    go_wp2_with fail
    go_ret
    exact ⟨ret_int (by rw [HX.out]), Drawn.of _ _⟩
  · obtain rfl : m = 2 := by have : srcN 10 = 2 := by decide
                             omega
    obtain ⟨a0, a1, rfl⟩ := len_two hm
    obtain ⟨b, o, rfl, c0, c1⟩ := rd_two h
    have HX : Hid (valL 10 n I [a0, a1] = mulN n a0 a1) := rfl
    have CC := Lib.hid (fun W => ref01_Mul n a0 a1 W h1 h2 (hl a0 (by simp)) (hl a1 (by simp)))
    clear h hl
    go_wp2_with fail
    go_quiet ((go_at_call 135; exact Calls.quiet_of (CC.out _)))
    go_wp2_with fail
    go_ret
    exact ⟨ret_int (by rw [HX.out]), Drawn.of _ _⟩
  · obtain rfl : m = 2 := by have : srcN 11 = 2 := by decide
                             omega
    obtain ⟨a0, a1, rfl⟩ := len_two hm
    obtain ⟨b, o, rfl, c0, c1⟩ := rd_two h
    have HX : Hid (valL 11 n I [a0, a1] = udivN n a0 a1) := rfl
    have CC := Lib.hid (fun W => ref01_Udiv n a0 a1 W h1 h2 (hl a0 (by simp)) (hl a1 (by simp)))
    clear h hl
    go_wp2_with fail
    go_quiet ((go_at_call 136; exact Calls.quiet_of (CC.out _)))
    go_wp2_with fail
    go_ret
    exact ⟨ret_int (by rw [HX.out]), Drawn.of _ _⟩
  · obtain rfl : m = 2 := by have : srcN 12 = 2 := by decide
                             omega
    obtain ⟨a0, a1, rfl⟩ := len_two hm
    obtain ⟨b, o, rfl, c0, c1⟩ := rd_two h
    have HX : Hid (valL 12 n I [a0, a1] = uremN n a0 a1) := rfl
    have CC := Lib.hid (fun W => ref01_Urem n a0 a1 W h1 h2 (hl a0 (by simp)) (hl a1 (by simp)))
    clear h hl
    go_wp2_with fail
    go_quiet ((go_at_call 137; exact Calls.quiet_of (CC.out _)))
    go_wp2_with fail
    go_ret
    exact ⟨ret_int (by rw [HX.out]), Drawn.of _ _⟩
  · have HO := Lib.hid (ref49_other op n I m l S a c w h hm hs hl h1 h2 (by omega))
    have t1 : (op == 1) = false := by simp; omega
    have t2 : (op == 2) = false := by simp; omega
    have t3 : (op == 3) = false := by simp; omega
    have t4 : (op == 4) = false := by simp; omega
    have t5 : (op == 5) = false := by simp; omega
    have t6 : (op == 6) = false := by simp; omega
    have t7 : (op == 7) = false := by simp; omega
    have t8 : (op == 8) = false := by simp; omega
    have t9 : (op == 9) = false := by simp; omega
    have t10 : (op == 10) = false := by simp; omega
    have t11 : (op == 11) = false := by simp; omega
    have t12 : (op == 12) = false := by simp; omega
    clear h hl ho hge hs
    go_wp2_with fail
    refine HO.out.mono ?_
    rintro e w1 ⟨rfl, d1⟩
    have D1 := Lib.hid d1
    clear d1
    go_wp2_with fail
    go_ret
    exact ⟨rfl, D1.out⟩
end Go.Proofs.Sat
/- The walk of ref49's Step. -/
namespace Go.Proofs.Sat
open Go Go.RowKit
/-- What a step leaves. -/
def StepQ (R B : Nat) (o : Option (Nat → Nat)) (e : Ending) (w' : World) : Prop :=
  (o = none ∧ e = .returned (.tuple #[.slice none 0 0, .int .i64 17])) ∨ ∃ s' g', o = some s' ∧ B ≤ g' ∧ e = .returned (.tuple #[.slice (some ⟨g', 0, none⟩) R R, .int .i64 0]) ∧ St8 w' g' R s'
theorem usesI_len {x : In} (h : knownI x.op = true) : ((usesI x).length : Int) = srcN x.op := by
  have := srcN_known h
  have := srcN_le x.op
  unfold usesI
  rw [List.length_take]
  simp
  omega
theorem val_uses {n : Nat} {s : Nat → Nat} {x : In} (h : 1 ≤ x.op ∧ x.op ≤ 19) : valL x.op n x.imm.toNat ((usesI x).map (fun r => s r.toNat)) = valE n s x := by
  obtain ⟨op, d, a, b, c, i⟩ := x
  simp only at h
  rcases (show op = 1 ∨ op = 2 ∨ op = 3 ∨ op = 4 ∨ op = 5 ∨ op = 6 ∨ op = 7 ∨ op = 8 ∨ op = 9 ∨ op = 10 ∨ op = 11 ∨ op = 12 ∨ op = 13 ∨ op = 14 ∨ op = 15 ∨ op = 16 ∨ op = 17 ∨ op = 18 ∨ op = 19 by omega) with rfl | rfl | rfl | rfl | rfl | rfl | rfl | rfl | rfl | rfl | rfl | rfl | rfl | rfl | rfl | rfl | rfl | rfl | rfl <;> rfl
theorem cutL_stL {n R : Nat} {s : Nat → Nat} (hv : ∀ i, i < R → s i < 2 ^ n) {i : Nat} (hi : i < R) : cutL n (stL R s) i = s i := by
  unfold cutL
  rw [List.getD_eq_getElem?_getD, List.getElem?_eq_getElem (by rw [stL_length]; exact hi), Option.getD_some, stL_get _ _ hi, Int.toNat_natCast, Nat.mod_eq_of_lt (hv i hi)]
theorem err_known {width regs : Int} {x : In} (h : insErr width regs x = 0) : knownI x.op = true := (ins_ok h).1
theorem cells_far {w : World} {g g1 : Nat} {x : In} {D : Nat} {i : Nat} {u : Value} (hD : x.dst = (D : Int)) (h : w.heap[g]? = some (.cells #[.int .i64 x.op, .int .i64 x.dst, .int .i64 x.a, .int .i64 x.b, .int .i64 x.c, .int .u64 x.imm] 50 (0, 0))) (hne : g ≠ g1) :
    (w.setCell ⟨g1, i, none⟩ u).cell? ⟨g, 0, none⟩ = some (.int .i64 x.op) ∧ (w.setCell ⟨g1, i, none⟩ u).cell? ⟨g, 1, none⟩ = some (.int .i64 (D : Int)) ∧ (w.setCell ⟨g1, i, none⟩ u).cell? ⟨g, 5, none⟩ = some (.int .u64 x.imm) := by
  obtain ⟨h0, h1, -, -, -, h5⟩ := in_block (block_far (p := ⟨g1, i, none⟩) h u hne)
  rw [hD] at h1
  exact ⟨h0, h1, h5⟩
set_option maxRecDepth 20000 in
set_option maxHeartbeats 4000000 in
theorem ref49_Step (n R g : Nat) (s : Nat → Nat) (x : In) (w : World) (hs : St8 w g R s) (hn1 : 1 ≤ n) (hn2 : n ≤ 64) (hR1 : 1 ≤ R) (hR8 : R ≤ 8) (hv : ∀ i, i < R → s i < 2 ^ n) (hx : insErr (n : Int) (R : Int) x = 0) (hi : 0 ≤ x.imm ∧ x.imm < 18446744073709551616) :
    Calls Tryz.prog 109 #[.int .i64 (n : Int), inVal x, .slice (some ⟨g, 0, none⟩) R R] w fun e w' => StepQ R w.heap.size (stepE n s x) e w' ∧ Below w.heap.size w w' := by
  have HX := Lib.hid hx
  have hkn := err_known hx
  have HKN := Lib.hid hkn
  obtain ⟨hf1, hf2, hfa, hfb, hfc⟩ := ins_fields (by omega) hx
  have HF2 := Lib.hid hf2
  have HV := Lib.hid hv
  have HI := Lib.hid hi
  have HP : Hid (2 ^ n ≤ 18446744073709551616) := by
    show _ ≤ _
    exact Nat.pow_le_pow_right (by omega) hn2 (n := 2)
  have HLS : Hid (∀ v ∈ stL R s, 0 ≤ v ∧ v < 18446744073709551616) := by
    intro v hvm
    obtain ⟨j, hj, rfl⟩ := List.getElem_of_mem hvm
    rw [stL_length] at hj
    rw [stL_get _ _ hj]
    have := HV.out j hj
    have := HP.out
    omega
  have HRW := Lib.hid (fun W (b : Below w.heap.size w W) => ((hs.below b).rd (fun _ => True) trivial (by omega) : Rd (Kd.int .u64) (fun _ => True) W (some ⟨g, 0, none⟩) R (stL R s)))
  have CS := Lib.hid (fun W (b : Below w.heap.size w W) => ref49_State (fun _ => True) n R (stL R s) (some ⟨g, 0, none⟩) R W (HRW.out W b) HLS.out hn1 hn2 hR8)
  have BW := Lib.hid (below_alloc (Below.refl w.heap.size w) (.cells #[.int .i64 x.op, .int .i64 x.dst, .int .i64 x.a, .int .i64 x.b, .int .i64 x.c, .int .u64 x.imm] 50))
  have KX := Lib.hid (heap_alloc_new w (.cells #[.int .i64 x.op, .int .i64 x.dst, .int .i64 x.a, .int .i64 x.b, .int .i64 x.c, .int .u64 x.imm] 50))
  have hmin : min (R : Int) 8 = (R : Int) := by omega
  rw [stL_length] at CS
  clear hx hkn hf2 hv hi hs
  unfold inVal
  go_enter Tryz.func109, Tryz.ntmps109
  go_wp2_with fail
  refine (CS.out _ BW.out).mono ?_
  rintro e w1 ⟨g1, rfl, hg1, s1, b1⟩
  have S1 : Hid (St8 w1 g1 R s) := s1.congr (fun i hi => cutL_stL HV.out hi)
  have B1 := Lib.hid (below_both BW.out b1)
  have KX1 := Lib.hid (block_below b1 KX.out)
  have HG1 : Hid (w.heap.size < g1) := by
    show _ < _
    have : (w.alloc (.cells #[.int .i64 x.op, .int .i64 x.dst, .int .i64 x.a, .int .i64 x.b, .int .i64 x.c, .int .u64 x.imm] 50)).heap.size = w.heap.size + 1 := by simp
    omega
  clear b1 s1 hg1 BW KX CS HLS HRW
  obtain ⟨x0, x1, x2, x3, x4, x5⟩ := in_block KX1.out
  go_wp2_with fail
  refine (ref48_Known x.op _).mono ?_
  rintro e w2 ⟨rfl, d2⟩
  rw [HKN.out]
  have B2 := Lib.hid (B1.out.trans (d2.below _))
  have KX2 := Lib.hid (d2.heap KX1.out)
  have S2 := Lib.hid (S1.out.drawn d2)
  clear d2 x0 x1 x2 x3 x4 x5 B1 KX1 S1
  obtain ⟨x0, x1, x2, x3, x4, x5⟩ := in_block KX2.out
  go_wp2_with fail
  refine (ref48_Uses x _).mono ?_
  rintro e w3 ⟨aU, cU, rfl, hU, b3⟩
  have B3 := Lib.hid (below_both B2.out b3)
  have KX3 := Lib.hid (block_below b3 KX2.out)
  have S3 := Lib.hid (S2.out.below b3)
  have HU := Lib.hid hU
  clear b3 hU x0 x1 x2 x3 x4 x5 B2 KX2 S2
  have HUR : Hid (∀ r ∈ usesI x, 0 ≤ r ∧ r < (R : Int)) := (ins_ok HX.out).2.2
  have HUM : Hid (((usesI x).length : Int) = srcN x.op) := usesI_len HKN.out
  have hul : (usesI x).length ≤ 3 := by unfold usesI; rw [List.length_take]; simp; omega
  obtain ⟨m, hm⟩ : ∃ m, m = (usesI x).length := ⟨_, rfl⟩
  have HM := Lib.hid hm
  rw [← hm] at hul
  rw [← hm]
  clear hm
  go_wp2_with fail
  go_loopw [10, 11] (fun v i wr => ∃ k : Nat, k ≤ m ∧ i = .int .i64 k ∧ Hid (Own (Kd.int .u64) 48 NoS wr w3.heap.size v (((usesI x).take k).map (fun r => (s r.toNat : Int)))) ∧ Hid (Below w3.heap.size w3 wr)) (fun _ i _ => m - (intOf i).toNat)
  case atStart => exact ⟨0, by omega, rfl, by rw [List.take_zero]; exact Own.nil _ _ _ _ _, Below.refl _ _⟩
  case round =>
    obtain ⟨k, hk9, rfl, O4, B4⟩ := hrel
    by_cases hlt : k < m
    · have HLT : Hid (k < (usesI x).length) := by show _ < _; rw [← HM.out]; exact hlt
      obtain ⟨ob, oo, rfl, -, -, hc⟩ := (HU.out.frame (Same.below B4.out)).vals (Nat.lt_of_le_of_lt (Nat.zero_le _) HLT.out) 0
      have d5 := hc k HLT.out
      rw [getD_at _ HLT.out] at d5
      have hr := HUR.out _ (List.getElem_mem HLT.out)
      have HT : Hid (((usesI x).take (k + 1)).map (fun r => (s r.toNat : Int)) = ((usesI x).take k).map (fun r => (s r.toNat : Int)) ++ [(s ((usesI x)[k]'HLT.out).toNat : Int)]) := by show _ = _; rw [List.take_succ_eq_append_getElem HLT.out, List.map_append]; rfl
      have hXl : (((usesI x).take k).map (fun r => (s r.toNat : Int))).length ≤ 20 := by rw [List.length_map, List.length_take]; omega
      clear hc
      generalize (usesI x)[k]'HLT.out = r at *
      generalize ((usesI x).take k).map (fun r => (s r.toNat : Int)) = X at *
      obtain ⟨hr0, hr1⟩ := hr
      obtain ⟨q, rfl⟩ := Int.eq_ofNat_of_zero_le hr0
      rw [Int.toNat_natCast] at HT
      have hqR : q < R := by omega
      have t0 : decide ((q : Int) < 0) = false := decide_eq_false (by omega)
      have t1 : decide ((R : Int) ≤ (q : Int)) = false := decide_eq_false (by omega)
      obtain ⟨s1, -, -⟩ := (S3.out.below B4.out).at hqR
      generalize s q = y at *
      obtain ⟨a4, c4, rfl⟩ := O4.out.form
      go_wp2_with (first
        | (at_builtin; refine wpList_append_ev _ rfl _ _ 32 rfl _ _ rfl rfl _ (run_app1 wr infoU64 rfl _ O4.out 48 [.int .u64 _] _ rfl (by omega) (by omega) B4.out.size) ?_; rintro n2 w5 ⟨ow2, g2, v2, _⟩; have B5 := Lib.hid (B4.out.grown g2 B4.out.size (fun k hk => (O4.out.lt k hk).1)); have O5 := Lib.hid ow2; clear ow2 g2 v2)
        | fail)
      go_roundw
      case rel => exact ⟨k + 1, by omega, by go_num, by rw [HT.out]; exact O5.out, B5.out⟩
      case measure => simp [intOf]; omega
    · have hnl : ¬ ((k : Int) < (m : Int)) := by omega
      have h5 := O4.out
      rw [show k = (usesI x).length by have := HM.out; omega, List.take_length] at h5
      obtain ⟨a4, c4, rfl⟩ := h5.form
      rw [List.length_map, ← HM.out] at h5
      have R4 := Lib.hid h5.rd'
      rw [List.length_map, ← HM.out]
      have KX4 := Lib.hid (block_below B4.out KX3.out)
      have S4 := Lib.hid (S3.out.below B4.out)
      have B5 := Lib.hid (below_both B3.out B4.out)
      clear h5 hlt hk9 O4 B3 KX3 S3 HU
      obtain ⟨w4, hw4⟩ : ∃ w4, w4 = wr := ⟨_, rfl⟩
      subst hw4
      obtain ⟨x0, x1, x2, x3, x4, x5⟩ := in_block KX4.out
      by_cases h0 : x.op = 0
      · have t0 : (x.op == 0) = true := by simpa using h0
        have HE : Hid (stepE n s x = some s) := stepE_nop h0
        clear h0
        go_wp2_with fail
        go_ret2
        exact ⟨.inr ⟨s, g1, HE.out, by have := HG1.out; omega, rfl, S4.out⟩, B5.out⟩
      have t0 : (x.op == 0) = false := by simpa using h0
      obtain ⟨hd0, hd1⟩ := HF2.out (by omega)
      obtain ⟨D, hD⟩ := Int.eq_ofNat_of_zero_le hd0
      have t1 : decide (x.dst < 0) = false := decide_eq_false (by omega)
      have t2 : decide ((R : Int) ≤ x.dst) = false := decide_eq_false (by omega)
      have RN : Hid (Rd (Kd.int .u64) (fun b => NoS b ∨ w3.heap.size ≤ b) w4 a4 c4 (((usesI x).map (fun r => s r.toNat)).map (fun (x : Nat) => (x : Int)))) := by
        show Rd _ _ _ _ _ _
        rw [List.map_map]
        exact R4.out
      have HLN : Hid (((usesI x).map (fun r => s r.toNat)).length = m) := by show _ = _; rw [List.length_map, HM.out]
      have HSM : Hid (srcN x.op = (m : Int)) := by show _ = _; rw [← HUM.out, HM.out]
      have HLL : Hid (∀ v ∈ (usesI x).map (fun r => s r.toNat), v < 18446744073709551616) := by
        intro v hvm
        obtain ⟨r, hr, rfl⟩ := List.mem_map.1 hvm
        have h1 := HUR.out r hr
        have h2 := HV.out r.toNat (by omega)
        have := HP.out
        omega
      have HVU : Hid (valL x.op n x.imm.toNat ((usesI x).map (fun r => s r.toNat)) = valE n s x) := val_uses (by omega)
      have HIM : Hid (((x.imm.toNat : Nat) : Int) = x.imm) := by show _ = _; have := HI.out.1; omega
      have CV := Lib.hid (fun W (dW : Drawn w4 W) => ref49_value x.op n x.imm.toNat m ((usesI x).map (fun r => s r.toNat)) _ a4 c4 W (RN.out.frame (Same.drawn _ dW)) HLN.out HSM.out HLL.out (by have := HI.out; omega) hn1 hn2 (by omega))
      rw [HVU.out, HIM.out] at CV
      have CT := Lib.hid (ref48_Traps x.op)
      have HXD : Hid (x.dst = (D : Int)) := hD
      have hDR0 : D < R := by omega
      have hDR : D < R := hDR0
      by_cases tr : x.op = 11 ∨ x.op = 12
      · have HTR : Hid (decide (x.op = 11 ∨ x.op = 12) = true) := decide_eq_true tr
        have HTE : Hid (trapE s x ↔ s x.b.toNat = 0) := ⟨fun h => h.2, fun h => ⟨tr, h⟩⟩
        have hs2 : srcN x.op = 2 := by rcases tr with h | h <;> rw [h] <;> decide
        have HUE : Hid ((usesI x).map (fun r => s r.toNat) = [s x.a.toNat, s x.b.toNat]) := by
          show _ = _
          unfold usesI
          rw [hs2]
          rfl
        have RN2 : Rd (Kd.int .u64) (fun b => NoS b ∨ w3.heap.size ≤ b) w4 a4 c4 [(s x.a.toNat : Int), (s x.b.toNat : Int)] := by
          have h := RN.out
          rw [HUE.out] at h
          exact h
        obtain ⟨ub, uo, rfl, u0', u1'⟩ := rd_two RN2
        obtain rfl : m = 2 := by have := HSM.out; omega
        clear RN2 tr u0' hs2
        have HBV := Lib.hid (show s x.b.toNat = s x.b.toNat from rfl)
        by_cases hz : s x.b.toNat = 0
        · have HE : Hid (stepE n s x = none) := stepE_trap h0 (HTE.out.2 hz)
          rw [hz] at u1'
          clear hz h0 hD hd0 hd1
          go_wp2_with fail
          refine (CT.out _).mono ?_
          rintro e w6 ⟨rfl, d6⟩
          rw [HTR.out]
          have B6 := Lib.hid (B5.out.trans (d6.below _))
          have u2' := d6.cell u1'
          clear d6
          go_wp2_with fail
          go_ret2
          exact ⟨.inl ⟨HE.out, rfl⟩, B6.out⟩
        · have HE : Hid (stepE n s x = some (updN s x.dst.toNat (valE n s x))) := stepE_some h0 (fun hh => hz (HTE.out.1 hh))
          have t3 : (((s x.b.toNat : Nat) : Int) == 0) = false := by simp; omega
          clear hz h0
          go_wp2_with fail
          refine (CT.out _).mono ?_
          rintro e w6 ⟨rfl, d6⟩
          rw [HTR.out]
          have B6 := Lib.hid (B5.out.trans (d6.below _))
          have S6 := Lib.hid (S4.out.drawn d6)
          have KX6 := Lib.hid (d6.heap KX4.out)
          have D6 := Lib.hid d6
          have u2' := d6.cell u1'
          clear d6 x0 x1 x2 x3 x4 x5
          obtain ⟨x0, x1, x2, x3, x4, x5⟩ := in_block KX6.out
          rw [HXD.out] at x1
          rw [HXD.out, Int.toNat_natCast] at HE
          have hne : w.heap.size ≠ g1 := by have := HG1.out; omega
          go_wp2_with fail
          go_region_held3 (fun w' => w'.cell? ⟨w.heap.size, 0, none⟩ = some (.int .i64 x.op) ∧ w'.cell? ⟨w.heap.size, 1, none⟩ = some (.int .i64 (D : Int)) ∧ w'.cell? ⟨w.heap.size, 5, none⟩ = some (.int .u64 x.imm))
            (first | with_reducible exact cells_far HXD.out KX7.out hne | with_reducible exact ⟨y0, y1, y5⟩ | exact ⟨x0, x1, x5⟩)
            (first
            | (go_at_call 116; refine (CV.out _ (by exact D6.out.drew)).mono ?_; rintro e w7 ⟨rfl, d7⟩; have D7 := Lib.hid ((Drawn.refl w6).drew.trans d7); have KX7 := Lib.hid (D7.out.heap KX6.out); obtain ⟨y0, y1, y2, y3, y4, y5⟩ := in_block KX7.out; rw [HXD.out] at y1; obtain ⟨q1, q2, q3⟩ := (S6.out.drawn D7.out).at hDR; have US := Lib.hid q3; clear q3 d7)
            | fail)
          go_wp2_with fail
          go_ret2
          exact ⟨.inr ⟨_, g1, HE.out, by have := HG1.out; omega, rfl, US.out _⟩, (B6.out.trans (D7.out.below _)).setCell (Nat.le_of_lt HG1.out) _⟩
      · have HTR : Hid (decide (x.op = 11 ∨ x.op = 12) = false) := decide_eq_false tr
        have HE : Hid (stepE n s x = some (updN s x.dst.toNat (valE n s x))) := stepE_some h0 (fun hh => tr hh.1)
        clear tr h0
        go_wp2_with fail
        refine (CT.out _).mono ?_
        rintro e w6 ⟨rfl, d6⟩
        rw [HTR.out]
        have B6 := Lib.hid (B5.out.trans (d6.below _))
        have S6 := Lib.hid (S4.out.drawn d6)
        have KX6 := Lib.hid (d6.heap KX4.out)
        have D6 := Lib.hid d6
        clear d6 x0 x1 x2 x3 x4 x5
        obtain ⟨x0, x1, x2, x3, x4, x5⟩ := in_block KX6.out
        rw [HXD.out] at x1
        rw [HXD.out, Int.toNat_natCast] at HE
        have hne : w.heap.size ≠ g1 := by have := HG1.out; omega
        go_wp2_with fail
        go_region_held3 (fun w' => w'.cell? ⟨w.heap.size, 0, none⟩ = some (.int .i64 x.op) ∧ w'.cell? ⟨w.heap.size, 1, none⟩ = some (.int .i64 (D : Int)) ∧ w'.cell? ⟨w.heap.size, 5, none⟩ = some (.int .u64 x.imm))
          (first | with_reducible exact cells_far HXD.out KX7.out hne | with_reducible exact ⟨y0, y1, y5⟩ | exact ⟨x0, x1, x5⟩)
          (first
          | (go_at_call 116; refine (CV.out _ (by exact D6.out.drew)).mono ?_; rintro e w7 ⟨rfl, d7⟩; have D7 := Lib.hid ((Drawn.refl w6).drew.trans d7); have KX7 := Lib.hid (D7.out.heap KX6.out); obtain ⟨y0, y1, y2, y3, y4, y5⟩ := in_block KX7.out; rw [HXD.out] at y1; obtain ⟨q1, q2, q3⟩ := (S6.out.drawn D7.out).at hDR; have US := Lib.hid q3; clear q3 d7)
          | fail)
        go_wp2_with fail
        go_ret2
        exact ⟨.inr ⟨_, g1, HE.out, by have := HG1.out; omega, rfl, US.out _⟩, (B6.out.trans (D7.out.below _)).setCell (Nat.le_of_lt HG1.out) _⟩
end Go.Proofs.Sat
/- The walks of ref49's Trace, Run and Outs. -/
namespace Go.Proofs.Sat
open Go Go.RowKit
theorem infoU64s : ElemInfo Tryz.prog 37 32 (.slice none 0 0) 1 24 := ⟨Tryz.underlying37, by kernel_rfl, rfl, by decide⟩
/-- A state as an element of a row. -/
theorem st_elem8 {w : World} {g R : Nat} {s : Nat → Nat} (h : St8 w g R s) (hR : R ≤ 8) (S : Nat → Prop) (hS : S g) : (Kd.slice (Kd.int .u64)).K S w [.slice (some ⟨g, 0, none⟩) R R] (stL R s) :=
  ⟨some ⟨g, 0, none⟩, R, by rw [stL_length], h.rd S hS (by omega)⟩
theorem runN_at {n k : Nat} {l : List In} (hk : k < l.length) (s : Nat → Nat) : runN n (l.drop k) s = match stepN n s l[k] with | none => (s, false) | some s2 => runN n (l.drop (k + 1)) s2 := by
  rw [List.drop_eq_getElem_cons hk]
  rfl
theorem stepQ_none {R B : Nat} {e : Ending} {w : World} (h : StepQ R B none e w) : e = .returned (.tuple #[.slice none 0 0, .int .i64 17]) := by
  rcases h with ⟨-, h⟩ | ⟨s, g, h, -⟩
  · exact h
  · cases h
theorem stepQ_some {R B : Nat} {s : Nat → Nat} {e : Ending} {w : World} (h : StepQ R B (some s) e w) : ∃ g, B ≤ g ∧ e = .returned (.tuple #[.slice (some ⟨g, 0, none⟩) R R, .int .i64 0]) ∧ St8 w g R s := by
  rcases h with ⟨h, -⟩ | ⟨s', g, h, h1, h2, h3⟩
  · cases h
  · cases h; exact ⟨g, h1, h2, h3⟩
/-- The end of a trace. -/
def TrQ (c : Cd) (l : List Int) (H : Nat) (v : Value) (w' : World) : Prop :=
  (∃ a m k, v = .slice a m k) ∧ (errR c l = 0 → ∃ (xs : List (List Int)) (R : Nat), c.regs = (R : Int) ∧ Own (Kd.slice (Kd.int .u64)) 32 (FromB (H + 1)) w' (H + 1) v (xs ++ [stL R (finR c l).1]) ∧ xs.length ≤ 256)
set_option maxRecDepth 20000 in
set_option maxHeartbeats 4000000 in
theorem ref49_Trace (S Sl : Nat → Prop) (c : Cd) (p : CdAt) (l : List Int) (a : Option Addr) (ca : Nat) (w : World) (h : CdRd S w c p) (himm : ∀ x ∈ c.ins, 0 ≤ x.imm ∧ x.imm < 18446744073709551616) (hr : Rd (Kd.int .u64) Sl w a ca l) (hl : ∀ x ∈ l, 0 ≤ x ∧ x < 18446744073709551616) :
    Calls Tryz.prog 93 #[cdVal c p, .slice a l.length ca] w fun e w' => ∃ v, e = .returned (.tuple #[v, .int .i64 (errR c l)]) ∧ TrQ c l w.heap.size v w' ∧ Below w.heap.size w w' := by
  have CC := Lib.hid (fun W (b : Below w.heap.size w W) => ref48_Check S c p W (h.frame (Same.below b)) himm)
  obtain ⟨ia, ic, oa, oc⟩ := p
  have BW := Lib.hid (below_alloc (Below.refl w.heap.size w) (.cells (cellsC c ia ic oa oc) 25))
  have KC := Lib.hid (heap_alloc_new w (.cells (cellsC c ia ic oa oc) 25))
  have HC := Lib.hid h
  have HIM := Lib.hid himm
  have HR0 := Lib.hid hr
  have HL0 := Lib.hid hl
  have hol := h.out.le
  have hil := h.ins.le
  have hll := hr.le
  clear h hr hl himm
  unfold cdVal
  go_enter Tryz.func93, Tryz.ntmps93
  obtain ⟨z0, z1, z2, z3⟩ := cd_block4 KC.out
  go_wp2_with fail
  refine (CC.out _ BW.out).mono ?_
  rintro e w1 ⟨rfl, b1⟩
  have B1 := Lib.hid (below_both BW.out b1)
  have KC1 := Lib.hid (block_below b1 KC.out)
  clear b1 z0 z1 z2 z3 BW KC CC
  obtain ⟨z0, z1, z2, z3⟩ := cd_block4 KC1.out
  by_cases he : cdErr c = 0
  case neg =>
    have t0 : (cdErr c != 0) = true := by simpa using he
    have HE : Hid (errR c l = cdErr c) := by show _ = _; unfold errR; rw [if_pos he]
    have HZ : Hid (errR c l ≠ 0) := by show _ ≠ _; rw [HE.out]; exact he
    clear he
    go_wp2_with fail
    go_ret2
    exact ⟨_, by rw [HE.out]; rfl, ⟨⟨_, _, _, rfl⟩, fun hh => absurd hh HZ.out⟩, B1.out⟩
  have t0 : (cdErr c != 0) = false := by simpa using he
  have HOK := Lib.hid (cd_ok he)
  have HER : Hid (errR c l = if (finR c l).2 = true then 0 else 17) := by show _ = _; unfold errR; rw [if_neg (not_not_intro he)]
  clear he
  have hw1 := HOK.out.w1
  have hw2 := HOK.out.w2
  have hr1 := HOK.out.r1
  have hr2 := HOK.out.r2
  obtain ⟨n, hn⟩ := Int.eq_ofNat_of_zero_le (show 0 ≤ c.width by omega)
  obtain ⟨R, hR⟩ := Int.eq_ofNat_of_zero_le (show 0 ≤ c.regs by omega)
  have HN : Hid (c.width = (n : Int)) := hn
  have HR : Hid (c.regs = (R : Int)) := hR
  have hn1 : 1 ≤ n := by omega
  have hn2 : n ≤ 64 := by omega
  have hR1 : 1 ≤ R := by omega
  have hR8 : R ≤ 8 := by omega
  have HFR : Hid (finR c l = runN n c.ins (cutL n l)) := by show _ = _; unfold finR; rw [hn, Int.toNat_natCast]
  have hlen := HOK.out.len
  clear hw1 hw2 hr1 hr2 hn hR
  rw [HN.out] at z0
  rw [HR.out] at z1
  go_wp2_with fail
  refine (ref49_State Sl n R l a ca _ (HR0.out.frame (Same.below B1.out)) HL0.out hn1 hn2 hR8).mono ?_
  rintro e w2 ⟨g2, rfl, hg2, s2, b2⟩
  have B2 := Lib.hid (below_both B1.out b2)
  have KC2 := Lib.hid (block_below b2 KC1.out)
  have S2 := Lib.hid s2
  have HG2 : Hid (w.heap.size + 1 ≤ g2) := by
    show _ ≤ _
    have : w.heap.size < w1.heap.size := (Array.getElem?_eq_some_iff.1 KC1.out).1
    omega
  have H2 : Hid (w.heap.size + 1 ≤ w2.heap.size) := (Array.getElem?_eq_some_iff.1 KC2.out).1
  clear b2 s2 hg2 z0 z1 z2 z3 B1 KC1 t0
  obtain ⟨z0, z1, z2, z3⟩ := cd_block4 KC2.out
  rw [HN.out] at z0
  go_wp2_with fail
  go_loopw [8, 9, 10] (fun v u i wr => ∃ (k g : Nat) (s : Nat → Nat) (xs : List (List Int)), k ≤ c.ins.length ∧ v = .slice (some ⟨g, 0, none⟩) R R ∧ i = .int .i64 k ∧ Hid (runN n c.ins (cutL n l) = runN n (c.ins.drop k) s) ∧ Hid (∀ j, j < R → s j < 2 ^ n) ∧ Hid (St8 wr g R s) ∧ Hid (w.heap.size + 1 ≤ g) ∧ Hid (Own (Kd.slice (Kd.int .u64)) 32 (FromB (w.heap.size + 1)) wr (w.heap.size + 1) u (xs ++ [stL R s])) ∧ Hid (xs.length = k) ∧ Hid (Below w.heap.size w wr) ∧ Hid (wr.heap[w.heap.size]? = some (.cells (cellsC c ia ic oa oc) 25 (0, 0)))) (fun _ _ i _ => c.ins.length - (intOf i).toNat)
  case atStart =>
    refine ⟨0, g2, cutL n l, [], by omega, rfl, rfl, by show _ = _; rw [List.drop_zero], fun j hj => cutL_lt n l j, (S2.out.below (below_alloc (Below.refl _ _) _)), HG2.out, ?_, rfl, below_alloc B2.out _, block_alloc KC2.out _⟩
    exact ⟨[.slice (some ⟨g2, 0, none⟩) R R], ⟨rfl, .inr ⟨w2.heap.size, 1, #[.slice (some ⟨g2, 0, none⟩) R R], rfl, H2.out, heap_alloc_new w2 _, Nat.le_refl _, by simp [maxLen], rfl, rfl⟩⟩, Elems.single (st_elem8 (S2.out.below (below_alloc (Below.refl _ _) _)) hR8 _ ⟨HG2.out, fun e => by have h1 := S2.out.lt; have h2 : g2 = w2.heap.size := Option.some.inj e; omega⟩)⟩
  case round =>
    obtain ⟨k, g, s, xs, hk, rfl, rfl, HRUN, HV, HS, HG, HO, HXL, HB, KC3⟩ := hrel
    clear z0 z1 z2 z3
    obtain ⟨z0, z1, z2, z3⟩ := cd_block4 KC3.out
    rw [HN.out] at z0
    by_cases hlt : k < c.ins.length
    · obtain ⟨b, o, rfl, -, hbw0, hat0⟩ := in_elem (HC.out.ins.frame (Same.below HB.out)) hlt
      have HAT := Lib.hid hat0
      obtain ⟨c0, c1, c2, c3, c4, c5⟩ := hat0
      have hx := HOK.out.ins _ (List.getElem_mem hlt)
      have hi := HIM.out _ (List.getElem_mem hlt)
      have hdr := Lib.hid (runN_at (n := n) hlt s)
      rw [HN.out, HR.out] at hx
      have hf := ins_fields (by omega) hx
      have HES := Lib.hid (stepE_stepN (n := n) (s := s) hx hi.1)
      have HLT : Hid (∀ s2, stepN n s c.ins[k] = some s2 → ∀ i, i < R → s2 i < 2 ^ n) := fun s2 h2 => stepE_lt (x := c.ins[k]) hn1 hn2 (by omega) (by omega) (by omega) HV.out (by rw [HES.out]; exact h2)
      have CX := Lib.hid (fun W (hW : St8 W g R s) => ref49_Step n R g s c.ins[k] W hW hn1 hn2 hR1 hR8 HV.out hx hi)
      rw [HES.out] at CX
      clear hx hi hf HES
      generalize c.ins[k] = x at *
      generalize hq : stepN n s x = q at *
      have HQ := Lib.hid hq
      clear hq
      cases q with
      | none =>
        have HEND : Hid (errR c l = 17) := by
          show _ = _
          rw [HER.out, HFR.out, HRUN.out, hdr.out]
          rfl
        have HZ : Hid (errR c l ≠ 0) := by show _ ≠ _; rw [HEND.out]; decide
        obtain ⟨ua, uc, rfl⟩ := HO.out.form
        go_wp2_with fail
        go_region_held3 (fun w' => (w'.cell? ⟨w.heap.size, 0, none⟩ = some (.int .i64 (n : Int)) ∧ w'.cell? ⟨w.heap.size, 2, none⟩ = some (.slice (some ⟨b, o, none⟩) c.ins.length ic)) ∧
          w'.cell? ⟨b, o + k * 6, none⟩ = some (.int .i64 x.op) ∧ w'.cell? ⟨b, o + k * 6 + 1, none⟩ = some (.int .i64 x.dst) ∧ w'.cell? ⟨b, o + k * 6 + 2, none⟩ = some (.int .i64 x.a) ∧ w'.cell? ⟨b, o + k * 6 + 3, none⟩ = some (.int .i64 x.b) ∧ w'.cell? ⟨b, o + k * 6 + 4, none⟩ = some (.int .i64 x.c) ∧ w'.cell? ⟨b, o + k * 6 + 5, none⟩ = some (.int .u64 x.imm))
          (first | with_reducible exact ⟨⟨y0, y2⟩, e0, e1, e2, e3, e4, e5⟩ | exact ⟨⟨z0, z2⟩, c0, c1, c2, c3, c4, c5⟩)
          (first
          | (go_at_call 109; refine (CX.out _ (by exact HS.out.drawn (Drawn.refl wr).drew)).mono ?_; rintro e w4 ⟨hp, b4⟩; have B4 := Lib.hid (below_both ((Drawn.refl wr).drew.below wr.heap.size) b4); have KC4 := Lib.hid (block_below B4.out KC3.out); obtain ⟨y0, y1, y2, y3⟩ := cd_block4 KC4.out; rw [HN.out] at y0; obtain ⟨e0, e1, e2, e3, e4, e5⟩ := HAT.out.frame (w' := w4) (B4.out.block b hbw0); clear b4; obtain rfl := stepQ_none hp; clear hp)
          | fail)
        go_wp2_with fail
        go_ret2
        exact ⟨_, by rw [HEND.out]; rfl, ⟨⟨_, _, _, rfl⟩, fun hh => absurd hh HZ.out⟩, below_both HB.out B4.out⟩
      | some s3 =>
        have HV3 := Lib.hid (HLT.out s3 rfl)
        have HRUN3 : Hid (runN n c.ins (cutL n l) = runN n (c.ins.drop (k + 1)) s3) := HRUN.out.trans hdr.out
        have hxl := HXL.out
        have hxl2 : (xs ++ [stL R s]).length ≤ 1000 := by rw [List.length_append]; simp; omega
        obtain ⟨X, hX⟩ : ∃ X, X = xs ++ [stL R s] := ⟨_, rfl⟩
        rw [← hX] at HO hxl2
        have HXX := Lib.hid hX
        clear hX
        obtain ⟨ua, uc, rfl⟩ := HO.out.form
        go_wp2_with fail
        go_region_held3 (fun w' => (w'.cell? ⟨w.heap.size, 0, none⟩ = some (.int .i64 (n : Int)) ∧ w'.cell? ⟨w.heap.size, 2, none⟩ = some (.slice (some ⟨b, o, none⟩) c.ins.length ic)) ∧
          w'.cell? ⟨b, o + k * 6, none⟩ = some (.int .i64 x.op) ∧ w'.cell? ⟨b, o + k * 6 + 1, none⟩ = some (.int .i64 x.dst) ∧ w'.cell? ⟨b, o + k * 6 + 2, none⟩ = some (.int .i64 x.a) ∧ w'.cell? ⟨b, o + k * 6 + 3, none⟩ = some (.int .i64 x.b) ∧ w'.cell? ⟨b, o + k * 6 + 4, none⟩ = some (.int .i64 x.c) ∧ w'.cell? ⟨b, o + k * 6 + 5, none⟩ = some (.int .u64 x.imm))
          (first | with_reducible exact ⟨⟨y0, y2⟩, e0, e1, e2, e3, e4, e5⟩ | exact ⟨⟨z0, z2⟩, c0, c1, c2, c3, c4, c5⟩)
          (first
          | (go_at_call 109; refine (CX.out _ (by exact HS.out.drawn (Drawn.refl wr).drew)).mono ?_; rintro e w4 ⟨hp, b4⟩; have B4 := Lib.hid (below_both ((Drawn.refl wr).drew.below wr.heap.size) b4); have KC4 := Lib.hid (block_below B4.out KC3.out); obtain ⟨y0, y1, y2, y3⟩ := cd_block4 KC4.out; rw [HN.out] at y0; obtain ⟨e0, e1, e2, e3, e4, e5⟩ := HAT.out.frame (w' := w4) (B4.out.block b hbw0); clear b4; obtain ⟨g3, hg3, rfl, hs3⟩ := stepQ_some hp; clear hp; have S4 := Lib.hid hs3; have HG3 := Lib.hid hg3; have O4 := Lib.hid (HO.out.below B4.out); clear hs3 hg3)
          | fail)
        have HX : Hid ((Kd.slice (Kd.int .u64)).K (fun b' => FromB (w.heap.size + 1) b' ∧ some b' ≠ (Value.slice ua X.length uc).ownBlock) w4 [.slice (some ⟨g3, 0, none⟩) R R] (stL R s3)) := by
          refine st_elem8 S4.out hR8 _ ⟨?_, fun e => ?_⟩
          · have h1 := HG.out
            have h2 := HS.out.lt
            have h3 : wr.heap.size ≤ g3 := HG3.out
            show _ ≤ _
            omega
          · have h1 := (HO.out.lt _ e.symm).2
            have h3 : wr.heap.size ≤ g3 := HG3.out
            omega
        have H4 : Hid (w.heap.size + 1 ≤ w4.heap.size) := (Array.getElem?_eq_some_iff.1 KC4.out).1
        have BB4 := Lib.hid (below_both HB.out B4.out)
        clear z0 z1 z2 z3 c0 c1 c2 c3 c4 c5
        go_wp2_with (first
          | (at_builtin; refine wpList_append_ev _ rfl _ _ 37 rfl _ _ rfl rfl _ (run_app1 w4 infoU64s rfl _ O4.out 32 [.slice (some ⟨g3, 0, none⟩) R R] _ HX.out (by omega) (by omega) H4.out) ?_; rintro n5 w5 ⟨ow5, g5, -, _⟩; have B5 := Lib.hid (BB4.out.grown g5 BB4.out.size (fun k hk => Nat.le_of_succ_le (O4.out.lt k hk).1)); have KC5 := Lib.hid (block_grown g5 KC4.out (fun e => Nat.not_succ_le_self _ (O4.out.lt _ e.symm).1)); have O5 := Lib.hid ow5; have G5 := Lib.hid g5; clear ow5 g5)
          | fail)
        have S5 : Hid (St8 w5 g3 R s3) := S4.out.frame (G5.out.block g3 S4.out.lt (fun e => by
          have h1 := (HO.out.lt _ e.symm).2
          have h3 : wr.heap.size ≤ g3 := HG3.out
          omega))
        have HG5 : Hid (w.heap.size + 1 ≤ g3) := by
          show _ ≤ _
          have h1 := HG.out
          have h2 := HS.out.lt
          have h3 : wr.heap.size ≤ g3 := HG3.out
          omega
        have HX5 : Hid (X.length = k + 1) := by show _ = _; rw [HXX.out, List.length_append, HXL.out]; rfl
        go_roundw
        case rel => exact ⟨k + 1, g3, s3, X, by omega, rfl, by go_num, HRUN3.out, HV3.out, S5.out, HG5.out, O5.out, HX5.out, B5.out, KC5.out⟩
        case measure => simp [intOf]; omega
    · have hnl : ¬ ((k : Int) < (c.ins.length : Int)) := by omega
      have HFN : Hid (finR c l = (s, true)) := by
        show _ = _
        rw [HFR.out, HRUN.out, show k = c.ins.length by omega, List.drop_length]
        rfl
      have HEND : Hid (errR c l = 0) := by show _ = _; rw [HER.out, HFN.out]; rfl
      obtain ⟨X, hX⟩ : ∃ X, X = xs ++ [stL R s] := ⟨_, rfl⟩
      rw [← hX] at HO
      have HXX := Lib.hid hX
      clear hX
      obtain ⟨ua, uc, rfl⟩ := HO.out.form
      have hxl := HXL.out
      go_wp2_with fail
      go_ret2
      refine ⟨_, by rw [HEND.out]; rfl, ⟨⟨_, _, _, rfl⟩, fun _ => ⟨xs, R, HR.out, ?_, by omega⟩⟩, HB.out⟩
      rw [HFN.out, ← HXX.out]
      exact HO.out
set_option maxRecDepth 20000 in
set_option maxHeartbeats 2000000 in
theorem ref49_Run (S Sl : Nat → Prop) (c : Cd) (p : CdAt) (l : List Int) (a : Option Addr) (ca : Nat) (w : World) (h : CdRd S w c p) (himm : ∀ x ∈ c.ins, 0 ≤ x.imm ∧ x.imm < 18446744073709551616) (hr : Rd (Kd.int .u64) Sl w a ca l) (hl : ∀ x ∈ l, 0 ≤ x ∧ x < 18446744073709551616) :
    Calls Tryz.prog 76 #[cdVal c p, .slice a l.length ca] w fun e w' => ((∃ k : Int, errR c l ≠ 0 ∧ e = .returned (.tuple #[.slice none 0 0, .int .i64 k, .int .i64 (errR c l)])) ∨ (errR c l = 0 ∧ ∃ (sa : Option Addr) (sc R : Nat), c.regs = (R : Int) ∧ e = .returned (.tuple #[.slice sa R sc, .int .i64 0, .int .i64 0]) ∧ Rd (Kd.int .u64) (fun _ => True) w' sa sc (stL R (finR c l).1))) ∧ Below w.heap.size w w' := by
  have CC := Lib.hid (fun W (b : Below w.heap.size w W) => ref48_Check S c p W (h.frame (Same.below b)) himm)
  have CT := Lib.hid (fun W (b : Below w.heap.size w W) => ref49_Trace S Sl c p l a ca W (h.frame (Same.below b)) himm (hr.frame (Same.below b)) hl)
  obtain ⟨ia, ic, oa, oc⟩ := p
  have BW := Lib.hid (below_alloc (Below.refl w.heap.size w) (.cells (cellsC c ia ic oa oc) 25))
  have KC := Lib.hid (heap_alloc_new w (.cells (cellsC c ia ic oa oc) 25))
  have hol := h.out.le
  have hil := h.ins.le
  have hll := hr.le
  clear h hr hl himm
  unfold cdVal
  go_enter Tryz.func76, Tryz.ntmps76
  obtain ⟨z0, z1, z2, z3⟩ := cd_block4 KC.out
  go_wp2_with fail
  refine (CC.out _ BW.out).mono ?_
  rintro e w1 ⟨rfl, b1⟩
  have B1 := Lib.hid (below_both BW.out b1)
  have KC1 := Lib.hid (block_below b1 KC.out)
  clear b1 z0 z1 z2 z3 BW KC CC
  obtain ⟨z0, z1, z2, z3⟩ := cd_block4 KC1.out
  by_cases he : cdErr c = 0
  case neg =>
    have t0 : (cdErr c != 0) = true := by simpa using he
    have HE : Hid (errR c l = cdErr c) := by show _ = _; unfold errR; rw [if_pos he]
    have HZ : Hid (errR c l ≠ 0) := by show _ ≠ _; rw [HE.out]; exact he
    clear he
    go_wp2_with fail
    go_ret3
    exact ⟨.inl ⟨_, HZ.out, by rw [HE.out]; rfl⟩, B1.out⟩
  have t0 : (cdErr c != 0) = false := by simpa using he
  clear he
  go_wp2_with fail
  refine (CT.out _ B1.out).mono ?_
  rintro e w2 ⟨v2, rfl, ⟨⟨va, vm, vc, rfl⟩, hq⟩, b2⟩
  have HQ := Lib.hid hq
  have B2 := Lib.hid (below_both B1.out b2)
  clear b2 hq z0 z1 z2 z3 CT t0
  by_cases he : errR c l = 0
  · have HE := Lib.hid he
    have t0 : (errR c l != 0) = false := by simpa using he
    obtain ⟨xs, R, hR, hO, hxl⟩ := HQ.out he
    obtain ⟨va', vc', hv⟩ := hO.form
    injection hv with hv1 hv2 hv3
    subst hv1 hv2 hv3
    have hel : xs.length < (xs ++ [stL R (finR c l).1]).length := by rw [List.length_append]; simp
    obtain ⟨b, o, cs, rfl, -, hbw, hk, hcell⟩ := hO.rd'.elem hel
    rw [List.getElem_append_right (Nat.le_refl _)] at hk
    simp only [Nat.sub_self, List.getElem_cons_zero] at hk
    obtain ⟨sa, sc, rfl, hrd⟩ := hk
    have HRD : Hid (Rd (Kd.int .u64) (fun _ => True) w2 sa sc (stL R (finR c l).1)) := hrd.mono fun _ _ _ => trivial
    have c0 := hcell 0 _ rfl
    rw [stL_length] at c0
    have hlen : (xs ++ [stL R (finR c l).1]).length = xs.length + 1 := by rw [List.length_append]; rfl
    have HR := Lib.hid hR
    rw [hlen]
    have hsz : (Kd.slice (Kd.int .u64)).sz = 1 := rfl
    rw [hsz, Nat.mul_one, Nat.add_zero] at c0
    clear hO hel hcell hrd hlen hR hsz he HQ
    generalize xs.length = m at *
    go_wp2_with fail
    go_ret3
    exact ⟨.inr ⟨HE.out, sa, sc, R, HR.out, rfl, HRD.out⟩, B2.out⟩
  · have HZ := Lib.hid he
    have t0 : (errR c l != 0) = true := by simpa using he
    clear he HQ
    go_wp2_with fail
    go_ret3
    exact ⟨.inl ⟨_, HZ.out, rfl⟩, B2.out⟩
set_option maxRecDepth 20000 in
set_option maxHeartbeats 2000000 in
theorem ref49_Outs (S Sl : Nat → Prop) (c : Cd) (p : CdAt) (l : List Int) (a : Option Addr) (ca : Nat) (w : World) (h : CdRd S w c p) (ho : c.out.length ≤ 20) (himm : ∀ x ∈ c.ins, 0 ≤ x.imm ∧ x.imm < 18446744073709551616) (hr : Rd (Kd.int .u64) Sl w a ca l) (hl : ∀ x ∈ l, 0 ≤ x ∧ x < 18446744073709551616) :
    Calls Tryz.prog 49 #[cdVal c p, .slice a l.length ca] w fun e w' => ∃ v, e = .returned (.tuple #[v, .int .i64 (errR c l)]) ∧ Own (Kd.int .u64) 48 NoS w' w.heap.size v (outsL c l) ∧ Below w.heap.size w w' := by
  have CX := fun W (b : Below w.heap.size w W) => ref49_Run S Sl c p l a ca W (h.frame (Same.below b)) himm (hr.frame (Same.below b)) hl
  obtain ⟨ia, ic, oa, oc⟩ := p
  have BW := Lib.hid (below_alloc (Below.refl w.heap.size w) (.cells (cellsC c ia ic oa oc) 25))
  have KC := Lib.hid (heap_alloc_new w (.cells (cellsC c ia ic oa oc) 25))
  have HC := Lib.hid h
  have HX := Lib.hid CX
  have hol := h.out.le
  have hil := h.ins.le
  have hll := hr.le
  clear h hr hl himm CX
  unfold cdVal
  go_enter Tryz.func49, Tryz.ntmps49
  obtain ⟨z0, z1, z2, z3⟩ := cd_block4 KC.out
  go_wp2_with fail
  refine (HX.out _ BW.out).mono ?_
  rintro e w2 ⟨hor, b2⟩
  have B2 := Lib.hid (below_both BW.out b2)
  have KC2 := Lib.hid (block_below b2 KC.out)
  clear z0 z1 z2 z3
  rcases hor with ⟨k, hne, rfl⟩ | ⟨he, sa, sc, R, hR, rfl, hrd⟩
  · have HO : Hid (outsL c l = []) := by show _ = _; unfold outsL; rw [if_neg hne]
    have t0 : (errR c l != 0) = true := by simpa using hne
    clear hne b2 HX
    go_wp2_with fail
    go_ret2
    exact ⟨_, rfl, by rw [HO.out]; exact Own.nil _ _ _ _ _, B2.out⟩
  · have HE := Lib.hid he
    have S3 := Lib.hid hrd
    have HRR := Lib.hid hR
    have HCE : Hid (CdOK c) := by
      show CdOK c
      refine cd_ok ?_
      by_cases h0 : cdErr c = 0
      · exact h0
      · unfold errR at he
        rw [if_pos h0] at he
        exact he
    have HO : Hid (outsL c l = c.out.map (fun r => ((finR c l).1 r.toNat : Int))) := by show _ = _; unfold outsL; rw [if_pos he]
    obtain ⟨st, hst⟩ : ∃ st, st = (finR c l).1 := ⟨_, rfl⟩
    rw [← hst] at HO S3
    clear hst
    have hsz := b2.size
    have HSZ := Lib.hid B2.out.size
    clear he hrd hR b2 HX hsz
    obtain ⟨z0, z1, z2, z3⟩ := cd_block4 KC2.out
    go_wp2_with fail
    go_loopw [9, 10] (fun v i wr => ∃ k : Nat, k ≤ c.out.length ∧ i = .int .i64 k ∧ Hid (Own (Kd.int .u64) 48 NoS wr w2.heap.size v ((c.out.take k).map (fun r => (st r.toNat : Int)))) ∧ Hid (Below w2.heap.size w2 wr)) (fun _ i _ => c.out.length - (intOf i).toNat)
    case atStart => exact ⟨0, by omega, rfl, by rw [List.take_zero]; exact Own.nil _ _ _ _ _, Below.refl _ _⟩
    case round =>
      clear z0 z1 z2 z3
      obtain ⟨k, hk, rfl, O4, B4⟩ := hrel
      obtain ⟨z0, z1, z2, z3⟩ := cd_block4 (block_below B4.out KC2.out)
      by_cases hlt : k < c.out.length
      · have hkl : (k : Int) < (c.out.length : Int) := by omega
        obtain ⟨ob, oo, rfl, -, -, hc⟩ := ((HC.out.out.frame (Same.below B2.out)).frame (Same.below B4.out)).vals (by omega) 0
        have d5 := hc k hlt
        rw [getD_at _ hlt] at d5
        have hr := HCE.out.out _ (List.getElem_mem hlt)
        have HT : Hid ((c.out.take (k + 1)).map (fun r => (st r.toNat : Int)) = (c.out.take k).map (fun r => (st r.toNat : Int)) ++ [(st (c.out[k]).toNat : Int)]) := by show _ = _; rw [List.take_succ_eq_append_getElem hlt, List.map_append]; rfl
        have hXl : ((c.out.take k).map (fun r => (st r.toNat : Int))).length ≤ 20 := by rw [List.length_map, List.length_take]; omega
        clear hc
        generalize c.out[k] = r at *
        generalize (c.out.take k).map (fun r => (st r.toNat : Int)) = X at *
        obtain ⟨hr0, hr1⟩ := hr
        obtain ⟨m, rfl⟩ := Int.eq_ofNat_of_zero_le hr0
        rw [Int.toNat_natCast] at HT
        have hrr := HRR.out
        have hmR : m < R := by omega
        have hmR' : (m : Int) < (R : Int) := by omega
        obtain ⟨sb, so, rfl, -, -, hsc⟩ := (S3.out.frame (Same.below B4.out)).vals (by rw [stL_length]; omega) 0
        have s1 := hsc m (by rw [stL_length]; omega)
        rw [getD_at _ (by rw [stL_length]; omega), stL_get _ _ hmR] at s1
        generalize st m = y at *
        clear hr1 hrr hsc
        obtain ⟨a4, c4, rfl⟩ := O4.out.form
        go_wp2_with (first
          | (at_builtin; refine wpList_append_ev _ rfl _ _ 32 rfl _ _ rfl rfl _ (run_app1 wr infoU64 rfl _ O4.out 48 [.int .u64 _] _ rfl (by omega) (by omega) B4.out.size) ?_; rintro n2 w5 ⟨ow2, g2, v2, _⟩; have B5 := Lib.hid (B4.out.grown g2 B4.out.size (fun k hk => (O4.out.lt k hk).1)); have O5 := Lib.hid ow2; clear ow2 g2 v2)
          | fail)
        go_roundw
        case rel => exact ⟨k + 1, by omega, by go_num, by rw [HT.out]; exact O5.out, B5.out⟩
        case measure => simp [intOf]; omega
      · have hnl : ¬ ((k : Int) < (c.out.length : Int)) := by omega
        have h5 := O4.out
        rw [show k = c.out.length by omega, List.take_length, ← HO.out] at h5
        have O5 := Lib.hid h5
        clear h5
        clear hlt hk O4
        go_wp2_with fail
        go_ret2
        exact ⟨_, by rw [HE.out]; rfl, O5.out.mono (fun _ _ h => h) HSZ.out, below_both B2.out B4.out⟩
end Go.Proofs.Sat
