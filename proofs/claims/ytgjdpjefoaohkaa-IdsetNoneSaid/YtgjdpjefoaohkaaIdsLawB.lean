/- The walks of the laws IdsetNone, IdsetDrains and IdsetQueue. -/
import Derived.Test.YtgjdpjefoaohkaaIdsLawA
set_option linter.unusedVariables false
set_option linter.unusedSimpArgs false
namespace Go.Proofs.Sat
open Go Go.RowKit

set_option maxHeartbeats 400000 in
theorem queue_Len_nil (w : World) : Calls Try.prog 15 #[.pointer none] w fun e w' => e = .returned (.int .i64 0) ∧ Drawn w w' := by
  go_enter Try.func15, Try.ntmps15
  go_wp2
  go_ret
  exact ⟨rfl, Drawn.refl _⟩
set_option maxHeartbeats 400000 in
theorem queue_Pop_nil (w : World) : Calls Try.prog 12 #[.pointer none] w fun e w' => e = .returned (.tuple #[.int .i64 0, .bool false]) ∧ Drawn w w' := by
  go_enter Try.func12, Try.ntmps12
  go_wp2_with (first
    | (go_at_call 15; refine (queue_Len_nil _).mono ?_; rintro e w1 ⟨rfl, nd, rfl⟩)
    | fail)
  go_ret2
  exact ⟨rfl, Drawn.of _ _⟩
set_option maxHeartbeats 400000 in
theorem queue_Push_nil (w : World) (x : Int) : Calls Try.prog 11 #[.pointer none, .int .i64 x] w fun e w' => e = .returned (.bool false) ∧ Drawn w w' := by
  go_enter Try.func11, Try.ntmps11
  go_wp2
  go_ret
  exact ⟨rfl, Drawn.refl _⟩
set_option maxHeartbeats 400000 in
theorem queue_Items_nil (w : World) : Calls Try.prog 19 #[.pointer none] w fun e w' => e = .returned (.slice none 0 0) ∧ Drawn w w' := by
  go_enter Try.func19, Try.ntmps19
  go_wp2
  go_ret
  exact ⟨rfl, Drawn.refl _⟩
set_option maxHeartbeats 800000 in
theorem law_IdsetNone (x : Int) (w : World) : Calls Try.prog 5 #[.int .i64 x] w fun e w' => e = .returned (.bool true) ∧ Below w.heap.size w w' := by
  go_enter Try.func5, Try.ntmps5
  go_wp2_with (first
    | (go_at_call 12; refine (queue_Pop_nil _).mono ?_; rintro e w1 ⟨rfl, d1⟩)
    | (go_at_call 11; refine (queue_Push_nil _ _).mono ?_; rintro e w2 ⟨rfl, d2⟩)
    | (go_at_call 15; refine (queue_Len_nil _).mono ?_; rintro e w3 ⟨rfl, d3⟩)
    | (go_at_call 19; refine (queue_Items_nil _).mono ?_; rintro e w4 ⟨rfl, d4⟩)
    | (go_at_call 9; refine (law03_lives _).mono ?_; rintro e w5 ⟨rfl, b5⟩)
    | fail)
  go_ret
  exact ⟨rfl, below_both ((((d1.trans d2).trans d3).trans d4).below _) b5⟩

theorem Rd.belowM {α : Type} {d : Kd α} {w w' : World} {a : Option Addr} {c M : Nat} {l : List α} (h : Rd d (fun b => b < M) w a c l) (hb : Below M w w') : Rd d (fun b => b < M) w' a c l := h.frame ⟨hb.size, fun b h1 _ => hb.block b h1⟩
set_option maxHeartbeats 1600000 in
theorem law_IdsetDrains (S : Nat → Prop) (a : Option Addr) (c : Nat) (l : List Int) (w : World) (r0 : Rd (Kd.int .i64) S w a c l) :
    Calls Try.prog 3 #[.slice a l.length c] w fun e w' => e = .returned (.bool true) ∧ Below w.heap.size w w' := by
  have hl := r0.le
  have r0 := r0.lt
  go_enter Try.func3, Try.ntmps3
  by_cases hn : l.length ≤ 300
  · have hd : decide ((300 : Int) < l.length) = false := by simp; omega
    go_wp2_with (first
      | (go_at_call 10; refine (queue_New w).mono ?_; rintro e w1 ⟨g, rfl, q1, b1⟩)
      | fail)
    have Q1 := Lib.hid q1
    have B1 := Lib.hid b1
    clear q1 b1 hd
    go_loopw [4] (fun i wr => ∃ (k : Nat) (rb : Option Nat), k ≤ l.length ∧ i = .int .i64 k ∧ Hid (IsQ wr g w.heap.size rb (ofL (l.take k))) ∧ Hid (Below w.heap.size w wr)) (fun i _ => l.length - (intOf i).toNat)
    case atStart => exact ⟨0, none, by omega, rfl, Q1.out, B1.out⟩
    case round =>
      obtain ⟨k, rb, hk, rfl, HQ, HB⟩ := hrel
      by_cases hlt : k < l.length
      · have HN : Hid (ofL (l.take (k + 1)) = ins (ofL (l.take k)) l[k]) := by show _ = _; rw [take_succ_at l hlt, ofL_snoc]
        have hln : (ofL (l.take k)).length ≤ 1099511627776 := by have := length_ofL (l.take k); simp at this; omega
        have R0 := r0.belowM HB.out
        obtain ⟨b, o, rfl, _, _, hc⟩ := R0.vals (by omega) 0
        have d := hc k hlt
        clear hc R0
        go_wp2_with (first
          | (go_at_call 11; refine (queue_Push wr g _ rb _ _ HQ.out HB.out.size hln).mono ?_; rintro e w2 ⟨rfl, rb2, q2, b2, _, _⟩; have Q2 := Lib.hid q2; have B2 := Lib.hid b2; clear q2 b2)
          | fail)
        go_roundw
        case rel => exact ⟨k + 1, rb2, by omega, by go_num, by show IsQ _ _ _ _ _; rw [HN.out]; exact Q2.out, HB.out.trans B2.out⟩
        case measure => simp [intOf]; omega
      · have e1 : l.take k = l := List.take_of_length_le (by omega)
        rw [e1] at HQ
        have hlo := length_ofL l
        obtain ⟨H, hH⟩ : ∃ H, H = wr.heap.size := ⟨_, rfl⟩
        have HL := Lib.hid (show g < H ∧ ∀ k, rb = some k → w.heap.size ≤ k ∧ k < H from hH ▸ HQ.out.lt)
        have hHw : w.heap.size ≤ H := hH ▸ HB.out.size
        have HH := Lib.hid hH
        clear hH
        go_wp2
        go_loopw [5, 6] (fun v i w3 => ∃ (j : Nat) (rest out : List Int), j ≤ l.length ∧ i = .int .i64 j ∧ out.length = j ∧ Hid (ofL l = out ++ rest) ∧ Hid (IsQ w3 g w.heap.size rb rest) ∧ Hid (Own (Kd.int .i64) 3 NoS w3 H v out) ∧ Hid (Below w.heap.size w w3) ∧ H ≤ w3.heap.size) (fun _ i _ => l.length + 1 - (intOf i).toNat)
        case atStart => exact ⟨0, ofL l, [], by omega, rfl, rfl, rfl, HQ.out, Own.nil _ _ _ _ _, HB.out, by rw [HH.out]; exact Nat.le_refl _⟩
        case round =>
          obtain ⟨j, rest, out, hj, rfl, hjl, HE, HQ3, HO3, HB3, hsz3⟩ := hrel
          have HJ := Lib.hid hjl
          clear hjl
          cases rest with
          | nil =>
            have ho := HO3.out
            have e2 : out = ofL l := by have := HE.out; simpa using this.symm
            obtain ⟨A, C, rfl, hr⟩ := ho.rd
            have HR := Lib.hid hr.lt
            have HE2 := Lib.hid e2
            have r3 := Lib.hid ((r0.belowM HB3.out))
            clear ho hr e2 HE
            go_wp2_with (first
              | (go_at_call 12; refine (queue_Pop_none _ g _ rb HQ3.out).mono ?_; rintro e w4 ⟨rfl, d4⟩; have Q4 := Lib.hid (HQ3.out.drawn d4); have R4 := Lib.hid (HR.out.frame (Same.drawn _ d4)); have r4 := Lib.hid (r3.out.frame (Same.drawn _ d4)); have B4 := Lib.hid (HB3.out.trans (d4.below _)); clear d4)
              | (go_at_call 14; refine (ref03_Of _ a c l _ r4.out (by omega)).mono ?_; rintro e w5 ⟨v5, rfl, o5, b5⟩; obtain ⟨p5, q5, rfl, r5⟩ := o5.rd; have Q5 := Lib.hid (Q4.out.below b5); have R5 := Lib.hid (R4.out.frame (Same.below b5)); have B5 := Lib.hid (below_then B4.out B4.out.size b5); clear b5 o5)
              | (go_at_call 13; have hs := ref03_Same _ _ A p5 C q5 out (ofL l) _ R5.out r5; rw [show decide (out = ofL l) = true from decide_eq_true HE2.out] at hs; refine hs.mono ?_; clear hs; rintro e w6 ⟨rfl, d6⟩; have Q6 := Lib.hid (Q5.out.drawn d6); have B6 := Lib.hid (B5.out.trans (d6.below _)); clear d6)
              | (go_at_call 15; refine (queue_Len _ g _ rb [] Q6.out).mono ?_; rintro e w7 ⟨rfl, d7⟩; have B7 := Lib.hid (B6.out.trans (d7.below _)); clear d7)
              | (go_at_call 9; refine (law03_lives _).mono ?_; rintro e w8 ⟨rfl, b8⟩; have B8 := Lib.hid (below_then B7.out B7.out.size b8))
              | fail)
            go_ret
            exact ⟨rfl, B8.out⟩
          | cons x rest =>
            have hrl : rest.length ≤ 1099511627776 ∧ j < l.length := by
              have h1 := congrArg List.length HE.out
              simp at h1
              have := HJ.out
              omega
            have hrl1 := hrl.1
            have hjlt := hrl.2
            have hjj : out.length ≤ 300 := by have := HJ.out; omega
            clear hrl
            go_wp2_with (first
              | (go_at_call 12; refine (queue_Pop _ g _ rb x rest HQ3.out hrl1).mono ?_; rintro e w4 ⟨rfl, q4, b4, s4⟩; have Q4 := Lib.hid q4; have B4 := Lib.hid (HB3.out.trans b4); have O4 := Lib.hid (HO3.out.same (s4.mono fun b hb => by rcases hb with hb | hb; exact hb.elim; have := (HO3.out.lt b hb.symm).1; have := HL.out.1; omega)); have z4 : H ≤ w4.heap.size := Nat.le_trans hsz3 b4.size; clear q4 b4 s4)
              | (at_builtin; refine wpList_append_ev _ rfl _ _ 22 rfl _ _ rfl rfl _ (run_app1 w4 infoInt rfl _ O4.out 3 [.int .i64 x] x rfl (by omega) (by omega) z4) ?_; rintro n5 w5 ⟨ow5, g5, v5, _⟩; have Q5 := Lib.hid (Q4.out.same (Same.grown g5 fun b hb e => by have h1 := (O4.out.lt b e.symm).1; have h2 := HL.out; rcases hb with rfl | hb; omega; have := (h2.2 b hb.symm).2; omega)); have B5 := Lib.hid (B4.out.grown g5 B4.out.size fun k hk => Nat.le_trans hHw (O4.out.lt k hk).1); have z5 : H ≤ w5.heap.size := Nat.le_trans z4 g5.size)
              | fail)
            go_roundw
            case rel => exact ⟨j + 1, rest, out ++ [x], by omega, by go_num, by have := HJ.out; simp; omega, by show _ = _; rw [HE.out]; simp, Q5.out, ow5, B5.out, z5⟩
            case measure => simp [intOf]; omega
  · have hd : decide ((300 : Int) < l.length) = true := by simp; omega
    go_wp2_with (first
      | (go_at_call 9; refine (law03_lives _).mono ?_; rintro e w8 ⟨rfl, b8⟩)
      | fail)
    go_ret
    exact ⟨rfl, b8⟩
end Go.Proofs.Sat
