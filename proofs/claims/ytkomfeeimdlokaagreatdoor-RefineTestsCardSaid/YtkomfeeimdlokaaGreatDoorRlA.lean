/- Walks of the reference of ch. 49: State, value; ref48's Traps. -/
import Derived.Test.YtkomfeeimdlokaaGreatDoorExF
import Derived.Test.YtkomfeeimdlokaaGreatDoorR8C
import Derived.Test.YtkomfeeimdlokaaGreatDoorRaE
import Derived.BigQuiet
set_option linter.unusedVariables false
set_option linter.unusedSimpArgs false
namespace Go.Proofs.Sat
open Go Go.RowKit
/-- What an operation computes from its sources. -/
def valL (op : Int) (n I : Nat) (l : List Nat) : Nat := if op = 1 then I % 2 ^ n else if op = 19 then (if l.getD 0 0 ≠ 0 then l.getD 1 0 else l.getD 2 0) else valN op n (l.getD 0 0) (l.getD 1 0)
theorem rd_one {S : Nat → Prop} {w : World} {a : Option Addr} {c : Nat} {x : Int} (h : Rd (Kd.int .u64) S w a c [x]) : ∃ b o, a = some ⟨b, o, none⟩ ∧ w.cell? ⟨b, o, none⟩ = some (.int .u64 x) := by
  obtain ⟨b, o, rfl, -, -, hc⟩ := h.vals (by simp) 0
  exact ⟨b, o, rfl, hc 0 (by simp)⟩
theorem rd_two {S : Nat → Prop} {w : World} {a : Option Addr} {c : Nat} {x y : Int} (h : Rd (Kd.int .u64) S w a c [x, y]) : ∃ b o, a = some ⟨b, o, none⟩ ∧ w.cell? ⟨b, o, none⟩ = some (.int .u64 x) ∧ w.cell? ⟨b, o + 1, none⟩ = some (.int .u64 y) := by
  obtain ⟨b, o, rfl, -, -, hc⟩ := h.vals (by simp) 0
  exact ⟨b, o, rfl, hc 0 (by simp), hc 1 (by simp)⟩
theorem rd_three {S : Nat → Prop} {w : World} {a : Option Addr} {c : Nat} {x y z : Int} (h : Rd (Kd.int .u64) S w a c [x, y, z]) : ∃ b o, a = some ⟨b, o, none⟩ ∧ w.cell? ⟨b, o, none⟩ = some (.int .u64 x) ∧ w.cell? ⟨b, o + 1, none⟩ = some (.int .u64 y) ∧ w.cell? ⟨b, o + 2, none⟩ = some (.int .u64 z) := by
  obtain ⟨b, o, rfl, -, -, hc⟩ := h.vals (by simp) 0
  exact ⟨b, o, rfl, hc 0 (by simp), hc 1 (by simp), hc 2 (by simp)⟩
theorem len_one {α : Type} {l : List α} (h : l.length = 1) : ∃ a, l = [a] := by
  match l, h with
  | [a], _ => exact ⟨a, rfl⟩
theorem len_two {α : Type} {l : List α} (h : l.length = 2) : ∃ a b, l = [a, b] := by
  match l, h with
  | [a, b], _ => exact ⟨a, b, rfl⟩
theorem len_three {α : Type} {l : List α} (h : l.length = 3) : ∃ a b c, l = [a, b, c] := by
  match l, h with
  | [a, b, c], _ => exact ⟨a, b, c, rfl⟩
set_option maxRecDepth 20000 in
set_option maxHeartbeats 1000000 in
theorem ref49_State (S : Nat → Prop) (W n : Nat) (l : List Int) (a : Option Addr) (c : Nat) (w : World) (h : Rd (Kd.int .u64) S w a c l) (hl : ∀ x ∈ l, 0 ≤ x ∧ x < 18446744073709551616) (h1 : 1 ≤ W) (h2 : W ≤ 64) (hn : n ≤ 8) :
    Calls Tryz.prog 108 #[.int .i64 (W : Int), .int .i64 (n : Int), .slice a l.length c] w fun e w' => ∃ g, e = .returned (.slice (some ⟨g, 0, none⟩) n n) ∧ w.heap.size ≤ g ∧ St8 w' g n (cutL W l) ∧ Below w.heap.size w w' := by
  have HR := Lib.hid h
  have HL := Lib.hid hl
  have hll := h.le
  clear h hl
  go_enter Tryz.func108, Tryz.ntmps108
  go_wp2_with (first
    | ((with_reducible refine gate_m 32 (.tmp 9) (.tmp 9) rfl ?_); refine wpList_make_ev _ rfl (.tmp 9) (.tmp 9) 32 rfl _ _ rfl rfl _ (run_mkR _ _ _ _ _ n rfl rfl (by omega)) ?_; rintro v' w1 ⟨hG, hg, rfl⟩; have G1 := Lib.hid hG; have B1 := Lib.hid ((Below.refl w.heap.size w).grown hg (Nat.le_refl _) (fun k hk => by cases hk)); clear hG hg)
    | fail)
  go_loopw [8] (fun i wr => ∃ k : Nat, k ≤ n ∧ i = .int .i64 k ∧ Hid (St8 wr w.heap.size n (cutP W l k)) ∧ Hid (Below w.heap.size w wr)) (fun i _ => n - (intOf i).toNat)
  case atStart => exact ⟨0, by omega, rfl, G1.out.congr (fun i _ => by unfold cutP; rw [if_neg (by omega)]), B1.out⟩
  case round =>
    obtain ⟨k, hk, rfl, G2, B2⟩ := hrel
    by_cases hlt : k < n
    case neg =>
      have t0 : decide ((k : Int) < (n : Int)) = false := decide_eq_false (by omega)
      have hkm : k = n := by omega
      have G3 := Lib.hid (G2.out.congr (t := cutL W l) (fun i hi => by
        unfold cutP
        rw [if_pos (by omega)]))
      have hnl : ¬ ((k : Int) < (n : Int)) := by omega
      have hnl2 : ¬ (k < n) := by omega
      clear hkm hlt hk
      go_wp2_with fail
      go_ret
      exact ⟨w.heap.size, rfl, Nat.le_refl _, G3.out, B2.out⟩
    have t0 : decide ((k : Int) < (n : Int)) = true := decide_eq_true (by omega)
    by_cases hk2 : k < l.length
    case neg =>
      have t1 : decide ((k : Int) < (l.length : Int)) = false := decide_eq_false (by omega)
      have G3 := Lib.hid (G2.out.congr (t := cutL W l) (fun i hi => by
        unfold cutP
        by_cases e : i < k
        · rw [if_pos e]
        · rw [if_neg e]
          unfold cutL
          rw [List.getD_eq_getElem?_getD, List.getElem?_eq_none (by omega)]
          simp))
      have hnl : ¬ ((k : Int) < (l.length : Int)) := by omega
      clear hk2
      go_wp2_with fail
      go_ret
      exact ⟨w.heap.size, rfl, Nat.le_refl _, G3.out, B2.out⟩
    have t1 : decide ((k : Int) < (l.length : Int)) = true := decide_eq_true (by omega)
    obtain ⟨b, o, rfl, -, -, hc⟩ := (HR.out.frame (Same.below B2.out)).vals (by omega) 0
    have d5 := hc k hk2
    rw [getD_at _ hk2] at d5
    have hx := HL.out _ (List.getElem_mem hk2)
    have HE : Hid (cutP W l (k + 1) = updN (cutP W l k) k (l[k].toNat % 2 ^ W)) := by show _ = _; rw [cutP_succ]; unfold cutL; rw [getD_at _ hk2]
    clear hc
    generalize l[k] = x at *
    obtain ⟨hx0, hx1⟩ := hx
    obtain ⟨X, rfl⟩ := Int.eq_ofNat_of_zero_le hx0
    rw [Int.toNat_natCast] at HE
    have CC := Lib.hid (fun W' => ref01_Cut W X W' h1 h2 (by omega))
    generalize X % 2 ^ W = Y at *
    clear hx1
    go_wp2_with fail
    refine (CC.out _).mono ?_
    rintro e w3 ⟨rfl, d3⟩
    have G3 := Lib.hid (G2.out.drawn d3)
    have B3 := Lib.hid (below_both B2.out (d3.below _))
    obtain ⟨s1, s2, s3⟩ := G3.out.at hlt
    have US := Lib.hid s3
    clear d3 s3
    go_wp2_with fail
    go_roundw
    case rel => exact ⟨k + 1, by omega, by go_num, by rw [HE.out]; exact US.out Y, B3.out.setCell (Nat.le_refl _) _⟩
    case measure => simp [intOf]; omega
set_option maxHeartbeats 1000000 in
theorem ref48_Traps (op : Int) (w : World) : Calls Tryz.prog 115 #[.int .i64 op] w fun e w' => e = .returned (.bool (decide (op = 11 ∨ op = 12))) ∧ Drawn w w' := by
  go_enter Tryz.func115, Tryz.ntmps115
  by_cases e1 : op = 11
  · have HE : Hid (decide (op = 11 ∨ op = 12) = true) := decide_eq_true (.inl e1)
    rw [HE.out]
    subst e1
    clear HE
    go_wp2_with fail
    all_goals go_ret
    all_goals exact ⟨rfl, by first | exact Drawn.refl _ | exact Drawn.of _ _⟩
  have t1 : (op == 11) = false := by simpa using e1
  by_cases e2 : op = 12
  · have HE : Hid (decide (op = 11 ∨ op = 12) = true) := decide_eq_true (.inr e2)
    rw [HE.out]
    subst e2
    clear HE t1
    go_wp2_with fail
    all_goals go_ret
    all_goals exact ⟨rfl, by first | exact Drawn.refl _ | exact Drawn.of _ _⟩
  have t2 : (op == 12) = false := by simpa using e2
  have HE : Hid (decide (op = 11 ∨ op = 12) = false) := decide_eq_false (by omega)
  rw [HE.out]
  clear e1 e2 HE
  go_wp2_with fail
  all_goals go_ret
  all_goals exact ⟨rfl, by first | exact Drawn.refl _ | exact Drawn.of _ _⟩
set_option maxRecDepth 20000 in
set_option maxHeartbeats 4000000 in
theorem ref49_other (op : Int) (n I m : Nat) (l : List Nat) (S : Nat → Prop) (a : Option Addr) (c : Nat) (w : World) (h : Rd (Kd.int .u64) S w a c (l.map (fun (x : Nat) => (x : Int)))) (hm : l.length = m) (hs : srcN op = (m : Int)) (hl : ∀ x ∈ l, x < 18446744073709551616) (h1 : 1 ≤ n) (h2 : n ≤ 64) (ho : 13 ≤ op ∧ op ≤ 19) :
    Calls Tryz.prog 138 #[.int .i64 op, .int .i64 (n : Int), .slice a m c] w fun e w' => e = .returned (.int .u64 ((valL op n I l : Nat) : Int)) ∧ Drawn w w' := by
  go_enter Tryz.func138, Tryz.ntmps138
  rcases (show op = 13 ∨ op = 14 ∨ op = 15 ∨ op = 16 ∨ op = 17 ∨ op = 18 ∨ op = 19 by omega) with rfl | rfl | rfl | rfl | rfl | rfl | rfl
  · obtain rfl : m = 2 := by have : srcN 13 = 2 := by decide
                             omega
    obtain ⟨a0, a1, rfl⟩ := len_two hm
    obtain ⟨b, o, rfl, c0, c1⟩ := rd_two h
    have HX : Hid (valL 13 n I [a0, a1] = shlN n a0 a1) := rfl
    have CC := Lib.hid (fun W => ref01_Shl n a0 a1 W h1 h2 (hl a0 (by simp)) (hl a1 (by simp)))
    clear h hl
    go_wp2_with fail
    go_quiet ((go_at_call 146; exact Calls.quiet_of (CC.out _)))
    go_wp2_with fail
    go_ret
    exact ⟨ret_int (by rw [HX.out]), Drawn.of _ _⟩
  · obtain rfl : m = 2 := by have : srcN 14 = 2 := by decide
                             omega
    obtain ⟨a0, a1, rfl⟩ := len_two hm
    obtain ⟨b, o, rfl, c0, c1⟩ := rd_two h
    have HX : Hid (valL 14 n I [a0, a1] = lshrN n a0 a1) := rfl
    have CC := Lib.hid (fun W => ref01_Lshr n a0 a1 W h1 h2 (hl a0 (by simp)) (hl a1 (by simp)))
    clear h hl
    go_wp2_with fail
    go_quiet ((go_at_call 147; exact Calls.quiet_of (CC.out _)))
    go_wp2_with fail
    go_ret
    exact ⟨ret_int (by rw [HX.out]), Drawn.of _ _⟩
  · obtain rfl : m = 2 := by have : srcN 15 = 2 := by decide
                             omega
    obtain ⟨a0, a1, rfl⟩ := len_two hm
    obtain ⟨b, o, rfl, c0, c1⟩ := rd_two h
    have HX : Hid (valL 15 n I [a0, a1] = ashrN n a0 a1) := rfl
    have CC := Lib.hid (fun W => ref01_Ashr n a0 a1 W h1 h2 (hl a0 (by simp)) (hl a1 (by simp)))
    clear h hl
    go_wp2_with fail
    go_quiet ((go_at_call 148; exact Calls.quiet_of (CC.out _)))
    go_wp2_with fail
    go_ret
    exact ⟨ret_int (by rw [HX.out]), Drawn.of _ _⟩
  · obtain rfl : m = 2 := by have : srcN 16 = 2 := by decide
                             omega
    obtain ⟨a0, a1, rfl⟩ := len_two hm
    obtain ⟨b, o, rfl, c0, c1⟩ := rd_two h
    have HX : Hid (valL 16 n I [a0, a1] = eqN n a0 a1) := rfl
    have CC := Lib.hid (fun W => ref01_Eq n a0 a1 W h1 h2 (hl a0 (by simp)) (hl a1 (by simp)))
    clear h hl
    go_wp2_with fail
    go_quiet ((go_at_call 149; exact Calls.quiet_of (CC.out _)))
    go_wp2_with fail
    go_ret
    exact ⟨ret_int (by rw [HX.out]), Drawn.of _ _⟩
  · obtain rfl : m = 2 := by have : srcN 17 = 2 := by decide
                             omega
    obtain ⟨a0, a1, rfl⟩ := len_two hm
    obtain ⟨b, o, rfl, c0, c1⟩ := rd_two h
    have HX : Hid (valL 17 n I [a0, a1] = ultN n a0 a1) := rfl
    have CC := Lib.hid (fun W => ref01_Ult n a0 a1 W h1 h2 (hl a0 (by simp)) (hl a1 (by simp)))
    clear h hl
    go_wp2_with fail
    go_quiet ((go_at_call 150; exact Calls.quiet_of (CC.out _)))
    go_wp2_with fail
    go_ret
    exact ⟨ret_int (by rw [HX.out]), Drawn.of _ _⟩
  · obtain rfl : m = 2 := by have : srcN 18 = 2 := by decide
                             omega
    obtain ⟨a0, a1, rfl⟩ := len_two hm
    obtain ⟨b, o, rfl, c0, c1⟩ := rd_two h
    have HX : Hid (valL 18 n I [a0, a1] = sltN n a0 a1) := rfl
    have CC := Lib.hid (fun W => ref01_Slt n a0 a1 W h1 h2 (hl a0 (by simp)) (hl a1 (by simp)))
    clear h hl
    go_wp2_with fail
    go_quiet ((go_at_call 151; exact Calls.quiet_of (CC.out _)))
    go_wp2_with fail
    go_ret
    exact ⟨ret_int (by rw [HX.out]), Drawn.of _ _⟩
  · obtain rfl : m = 3 := by have : srcN 19 = 3 := by decide
                             omega
    obtain ⟨a0, a1, a2, rfl⟩ := len_three hm
    obtain ⟨b, o, rfl, c0, c1, c2⟩ := rd_three h
    have HX : Hid (valL 19 n I [a0, a1, a2] = if a0 ≠ 0 then a1 else a2) := rfl
    clear h hl
    by_cases e0 : a0 = 0
    · have t0 : ((a0 : Int) != 0) = false := by simp [e0]
      have HV : Hid (valL 19 n I [a0, a1, a2] = a2) := by show _ = _; rw [HX.out, if_neg (not_not_intro e0)]
      clear e0 HX
      go_wp2_with fail
      go_ret
      exact ⟨ret_int (by rw [HV.out]), by first | exact Drawn.refl _ | exact Drawn.of _ _⟩
    · have t0 : ((a0 : Int) != 0) = true := by simp; omega
      have HV : Hid (valL 19 n I [a0, a1, a2] = a1) := by show _ = _; rw [HX.out, if_pos e0]
      clear e0 HX
      go_wp2_with fail
      go_ret
      exact ⟨ret_int (by rw [HV.out]), by first | exact Drawn.refl _ | exact Drawn.of _ _⟩
set_option maxRecDepth 20000 in
set_option maxHeartbeats 4000000 in
theorem ref49_value (op : Int) (n I m : Nat) (l : List Nat) (S : Nat → Prop) (a : Option Addr) (c : Nat) (w : World) (h : Rd (Kd.int .u64) S w a c (l.map (fun (x : Nat) => (x : Int)))) (hm : l.length = m) (hs : srcN op = (m : Int)) (hl : ∀ x ∈ l, x < 18446744073709551616) (hI : I < 18446744073709551616) (h1 : 1 ≤ n) (h2 : n ≤ 64) (ho : 1 ≤ op ∧ op ≤ 19) :
    Calls Tryz.prog 116 #[.int .i64 op, .int .i64 (n : Int), .int .u64 (I : Int), .slice a m c] w fun e w' => e = .returned (.int .u64 ((valL op n I l : Nat) : Int)) ∧ Drawn w w' := by
  go_enter Tryz.func116, Tryz.ntmps116
  rcases (show op = 1 ∨ op = 2 ∨ op = 3 ∨ op = 4 ∨ op = 5 ∨ op = 6 ∨ op = 7 ∨ op = 8 ∨ op = 9 ∨ op = 10 ∨ op = 11 ∨ op = 12 ∨ 13 ≤ op by omega) with rfl | rfl | rfl | rfl | rfl | rfl | rfl | rfl | rfl | rfl | rfl | rfl | hge
  · have HX : Hid (valL 1 n I l = I % 2 ^ n) := rfl
    have CC := Lib.hid (ref01_Cut n I w h1 h2 hI)
    clear h hl
    generalize I % 2 ^ n = Y at *
    go_wp2_with fail
    refine CC.out.mono ?_
    rintro e w1 ⟨rfl, d1⟩
    have D1 := Lib.hid d1
    clear d1
    go_wp2_with fail
    go_ret
    exact ⟨ret_int (by rw [HX.out]), D1.out⟩
  · obtain rfl : m = 1 := by have : srcN 2 = 1 := by decide
                             omega
    obtain ⟨a0, rfl⟩ := len_one hm
    obtain ⟨b, o, rfl, c0⟩ := rd_one h
    have HX : Hid (valL 2 n I [a0] = a0) := rfl
    clear h hl
    go_wp2_with fail
    go_ret
    exact ⟨ret_int (by rw [HX.out]), by first | exact Drawn.refl _ | exact Drawn.of _ _⟩
  · obtain rfl : m = 1 := by have : srcN 3 = 1 := by decide
                             omega
    obtain ⟨a0, rfl⟩ := len_one hm
    obtain ⟨b, o, rfl, c0⟩ := rd_one h
    have HX : Hid (valL 3 n I [a0] = notN n a0) := rfl
    have CC := Lib.hid (ref01_Not n a0 w h1 h2 (hl a0 (by simp)))
    clear h hl
    go_wp2_with fail
    refine CC.out.mono ?_
    rintro e w1 ⟨rfl, d1⟩
    have D1 := Lib.hid d1
    clear d1
    go_wp2_with fail
    go_ret
    exact ⟨ret_int (by rw [HX.out]), D1.out⟩
  · obtain rfl : m = 1 := by have : srcN 4 = 1 := by decide
                             omega
    obtain ⟨a0, rfl⟩ := len_one hm
    obtain ⟨b, o, rfl, c0⟩ := rd_one h
    have HX : Hid (valL 4 n I [a0] = negN n a0) := rfl
    have CC := Lib.hid (ref01_Neg n a0 w h1 h2 (hl a0 (by simp)))
    clear h hl
    go_wp2_with fail
    refine CC.out.mono ?_
    rintro e w1 ⟨rfl, d1⟩
    have D1 := Lib.hid d1
    clear d1
    go_wp2_with fail
    go_ret
    exact ⟨ret_int (by rw [HX.out]), D1.out⟩
  · obtain rfl : m = 2 := by have : srcN 5 = 2 := by decide
                             omega
    obtain ⟨a0, a1, rfl⟩ := len_two hm
    obtain ⟨b, o, rfl, c0, c1⟩ := rd_two h
    have HX : Hid (valL 5 n I [a0, a1] = andN n a0 a1) := rfl
    have CC := Lib.hid (fun W => ref01_And n a0 a1 W h1 h2 (hl a0 (by simp)) (hl a1 (by simp)))
    clear h hl
    go_wp2_with fail
    go_quiet ((go_at_call 130; exact Calls.quiet_of (CC.out _)))
    go_wp2_with fail
    go_ret
    exact ⟨ret_int (by rw [HX.out]), Drawn.of _ _⟩
  · obtain rfl : m = 2 := by have : srcN 6 = 2 := by decide
                             omega
    obtain ⟨a0, a1, rfl⟩ := len_two hm
    obtain ⟨b, o, rfl, c0, c1⟩ := rd_two h
    have HX : Hid (valL 6 n I [a0, a1] = orN n a0 a1) := rfl
    have CC := Lib.hid (fun W => ref01_Or n a0 a1 W h1 h2 (hl a0 (by simp)) (hl a1 (by simp)))
    clear h hl
    go_wp2_with fail
    go_quiet ((go_at_call 131; exact Calls.quiet_of (CC.out _)))
    go_wp2_with fail
    go_ret
    exact ⟨ret_int (by rw [HX.out]), Drawn.of _ _⟩
  · obtain rfl : m = 2 := by have : srcN 7 = 2 := by decide
                             omega
    obtain ⟨a0, a1, rfl⟩ := len_two hm
    obtain ⟨b, o, rfl, c0, c1⟩ := rd_two h
    have HX : Hid (valL 7 n I [a0, a1] = xorN n a0 a1) := rfl
    have CC := Lib.hid (fun W => ref01_Xor n a0 a1 W h1 h2 (hl a0 (by simp)) (hl a1 (by simp)))
    clear h hl
    go_wp2_with fail
    go_quiet ((go_at_call 132; exact Calls.quiet_of (CC.out _)))
    go_wp2_with fail
    go_ret
    exact ⟨ret_int (by rw [HX.out]), Drawn.of _ _⟩
  · obtain rfl : m = 2 := by have : srcN 8 = 2 := by decide
                             omega
    obtain ⟨a0, a1, rfl⟩ := len_two hm
    obtain ⟨b, o, rfl, c0, c1⟩ := rd_two h
    have HX : Hid (valL 8 n I [a0, a1] = addN n a0 a1) := rfl
    have CC := Lib.hid (fun W => ref01_Add n a0 a1 W h1 h2 (hl a0 (by simp)) (hl a1 (by simp)))
    clear h hl
    go_wp2_with fail
    go_quiet ((go_at_call 133; exact Calls.quiet_of (CC.out _)))
    go_wp2_with fail
    go_ret
    exact ⟨ret_int (by rw [HX.out]), Drawn.of _ _⟩
  · obtain rfl : m = 2 := by have : srcN 9 = 2 := by decide
                             omega
    obtain ⟨a0, a1, rfl⟩ := len_two hm
    obtain ⟨b, o, rfl, c0, c1⟩ := rd_two h
    have HX : Hid (valL 9 n I [a0, a1] = subN n a0 a1) := rfl
    have CC := Lib.hid (fun W => ref01_Sub n a0 a1 W h1 h2 (hl a0 (by simp)) (hl a1 (by simp)))
    clear h hl
    go_wp2_with fail
    go_quiet ((go_at_call 134; exact Calls.quiet_of (CC.out _)))
    go_wp2_with fail
    go_ret
    exact ⟨ret_int (by rw [HX.out]), Drawn.of _ _⟩
  · obtain rfl : m = 2 := by have : srcN 10 = 2 := by decide
                             omega
    obtain ⟨a0, a1, rfl⟩ := len_two hm
    obtain ⟨b, o, rfl, c0, c1⟩ := rd_two h
    have HX : Hid (valL 10 n I [a0, a1] = mulN n a0 a1) := rfl
    have CC := Lib.hid (fun W => ref01_Mul n a0 a1 W h1 h2 (hl a0 (by simp)) (hl a1 (by simp)))
    clear h hl
    go_wp2_with fail
    go_quiet ((go_at_call 135; exact Calls.quiet_of (CC.out _)))
    go_wp2_with fail
    go_ret
    exact ⟨ret_int (by rw [HX.out]), Drawn.of _ _⟩
  · obtain rfl : m = 2 := by have : srcN 11 = 2 := by decide
                             omega
    obtain ⟨a0, a1, rfl⟩ := len_two hm
    obtain ⟨b, o, rfl, c0, c1⟩ := rd_two h
    have HX : Hid (valL 11 n I [a0, a1] = udivN n a0 a1) := rfl
    have CC := Lib.hid (fun W => ref01_Udiv n a0 a1 W h1 h2 (hl a0 (by simp)) (hl a1 (by simp)))
    clear h hl
    go_wp2_with fail
    go_quiet ((go_at_call 136; exact Calls.quiet_of (CC.out _)))
    go_wp2_with fail
    go_ret
    exact ⟨ret_int (by rw [HX.out]), Drawn.of _ _⟩
  · obtain rfl : m = 2 := by have : srcN 12 = 2 := by decide
                             omega
    obtain ⟨a0, a1, rfl⟩ := len_two hm
    obtain ⟨b, o, rfl, c0, c1⟩ := rd_two h
    have HX : Hid (valL 12 n I [a0, a1] = uremN n a0 a1) := rfl
    have CC := Lib.hid (fun W => ref01_Urem n a0 a1 W h1 h2 (hl a0 (by simp)) (hl a1 (by simp)))
    clear h hl
    go_wp2_with fail
    go_quiet ((go_at_call 137; exact Calls.quiet_of (CC.out _)))
    go_wp2_with fail
    go_ret
    exact ⟨ret_int (by rw [HX.out]), Drawn.of _ _⟩
  · have HO := Lib.hid (ref49_other op n I m l S a c w h hm hs hl h1 h2 (by omega))
    have t1 : (op == 1) = false := by simp; omega
    have t2 : (op == 2) = false := by simp; omega
    have t3 : (op == 3) = false := by simp; omega
    have t4 : (op == 4) = false := by simp; omega
    have t5 : (op == 5) = false := by simp; omega
    have t6 : (op == 6) = false := by simp; omega
    have t7 : (op == 7) = false := by simp; omega
    have t8 : (op == 8) = false := by simp; omega
    have t9 : (op == 9) = false := by simp; omega
    have t10 : (op == 10) = false := by simp; omega
    have t11 : (op == 11) = false := by simp; omega
    have t12 : (op == 12) = false := by simp; omega
    clear h hl ho hge hs
    go_wp2_with fail
    refine HO.out.mono ?_
    rintro e w1 ⟨rfl, d1⟩
    have D1 := Lib.hid d1
    clear d1
    go_wp2_with fail
    go_ret
    exact ⟨rfl, D1.out⟩
end Go.Proofs.Sat
