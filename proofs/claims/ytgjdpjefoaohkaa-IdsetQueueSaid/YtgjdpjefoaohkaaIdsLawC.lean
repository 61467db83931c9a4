/- The walk of the law IdsetQueue. -/
import Derived.Test.YtgjdpjefoaohkaaIdsLawB
import Derived.Deep.RegionHeld3
set_option linter.unusedVariables false
set_option linter.unusedSimpArgs false
namespace Go.Proofs.Sat
open Go Go.RowKit

/-- Two whole numbers, one behind the other. -/
def Kd.two : Kd (Int × Int) := Kd.flat (fun p => [.int .i64 p.1, .int .i64 p.2]) 2 (fun _ => rfl) (fun p u hu => by simp at hu; rcases hu with rfl | rfl <;> rfl)
theorem Rd.two {S : Nat → Prop} {w : World} {a : Option Addr} {c : Nat} {l : List (Int × Int)} (h : Rd Kd.two S w a c l) {j : Nat} (hj : j < l.length) :
    ∃ b o, a = some ⟨b, o, none⟩ ∧ w.cell? ⟨b, o + j * 2, none⟩ = some (.int .i64 l[j].1) ∧ w.cell? ⟨b, o + j * 2 + 1, none⟩ = some (.int .i64 l[j].2) := by
  obtain ⟨b, o, cs, e, _, _, hk, hc⟩ := h.elem hj
  have hk' : cs = [.int .i64 l[j].1, .int .i64 l[j].2] := hk
  subst hk'
  exact ⟨b, o, e, by simpa [Kd.two, Kd.flat] using hc 0 _ rfl, by simpa [Kd.two, Kd.flat] using hc 1 _ rfl⟩
theorem ins_eq {s : List Int} (hs : SS s) (x : Int) : ofL (s ++ [x]) = ins s x := by rw [ofL_snoc, ofL_self hs]
theorem rem_head {y : Int} {t : List Int} (hs : SS (y :: t)) : ((ofL (y :: t)).filter fun z => z != y) = t := by
  rw [ofL_self hs, List.filter_cons]
  simp only [bne_self_eq_false, Bool.false_eq_true, if_false]
  rw [List.filter_eq_self]
  intro z hz
  have := (List.pairwise_cons.1 hs).1 z hz
  simp
  omega
/-- What lies apart from a work list. -/
def Off (g : Nat) (rb : Option Nat) : Nat → Prop := fun b => b ≠ g ∧ some b ≠ rb
theorem Rd.off {w : World} {B g M : Nat} {rb : Option Nat} {v : Value} {e : TypeId} {xs l : List Int} {w0 : World} (h : Own (Kd.int .i64) e NoS w B v xs) (hq : IsQ w0 g M rb l) (hB : w0.heap.size ≤ B) : ∃ a c, v = .slice a xs.length c ∧ Rd (Kd.int .i64) (Off g rb) w a c xs := by
  obtain ⟨a, c, rfl, hr⟩ := h.rd
  refine ⟨a, c, rfl, hr.mono fun b _ hb => ?_⟩
  have hl := hq.lt
  rcases hb with hb | hb
  · exact hb.elim
  · refine ⟨by omega, fun e => ?_⟩
    have := (hl.2 b e.symm).2
    omega
set_option maxRecDepth 100000 in
set_option maxHeartbeats 4000000 in
theorem law_IdsetQueue (S : Nat → Prop) (a : Option Addr) (c : Nat) (l : List (Int × Int)) (w : World) (r0 : Rd Kd.two S w a c l) :
    Calls Try.prog 4 #[.slice a l.length c] w fun e w' => e = .returned (.bool true) ∧ Below w.heap.size w w' := by
  have hl := r0.le
  have r0 := r0.lt
  go_enter Try.func4, Try.ntmps4
  by_cases hn : l.length ≤ 300
  · have hd : decide ((300 : Int) < l.length) = false := by simp; omega
    go_wp2_with (first
      | (go_at_call 10; refine (queue_New w).mono ?_; rintro e w1 ⟨g, rfl, q1, b1⟩)
      | fail)
    have Q1 := Lib.hid q1
    have B1 := Lib.hid b1
    clear q1 b1 hd
    go_loopw [4, 5] (fun v i wr => ∃ (k : Nat) (rb : Option Nat) (s : List Int) (A : Option Addr) (C : Nat), k ≤ l.length ∧ i = .int .i64 k ∧ v = .slice A s.length C ∧ s.length ≤ k ∧ Hid (SS s) ∧ Hid (Rd (Kd.int .i64) (Off g rb) wr A C s) ∧ Hid (IsQ wr g w.heap.size rb s) ∧ Hid (Below w.heap.size w wr)) (fun _ i _ => l.length - (intOf i).toNat)
    case atStart => exact ⟨0, none, [], none, 0, by omega, rfl, rfl, by simp, .nil, Rd.nil _ _ _ _ _ (by omega), Q1.out, B1.out⟩
    case round =>
      obtain ⟨k, rb, s, A, C, hk, rfl, rfl, hsk, HS, HR, HQ, HB⟩ := hrel
      have hs3 : s.length ≤ 1099511627776 := by omega
      by_cases hlt : k < l.length
      · have RW := Lib.hid (r0.belowM HB.out)
        obtain ⟨b, o, rfl, d1, d2⟩ := RW.out.two hlt
        have hblt := World.block_lt_of_cell? _ _ d2
        have hbM : b < w.heap.size := by
          obtain ⟨b', o', cs, e, h1, _⟩ := RW.out.elem hlt
          cases e
          exact h1
        generalize hkd : l[k].1 = kd at *
        generalize hx : l[k].2 = x at *
        clear hkd hx
        by_cases h0 : kd = 0
        · have t0 : (kd == 0) = true := by simp [h0]
          clear h0
          have hlnx : (ins s x).length ≤ s.length + 1 := length_ins s x
          go_wp2_with fail
          go_region_held3 (fun w' => w'.cell? ⟨b, o + k * 2 + 1, none⟩ = some (.int .i64 x)) (first | exact d2 | exact d3 | exact d4)
            (first
            | (go_at_call 11; refine (queue_Push _ g _ rb s x (by first | exact HQ.out | exact HQ.out.drawn ⟨1, rfl⟩) (by first | exact HB.out.size | exact (below_drewN HB.out 1).size) hs3).mono ?_; rintro e w2 ⟨rfl, rb2, q2, b2, s2, v2⟩; have Q2 := Lib.hid q2; have V2 := Lib.hid v2; have B2 := Lib.hid ((below_drewN HB.out 1).trans b2); have R2 := Lib.hid ((HR.out.frame (Same.drewN _ wr 1)).frame s2); have d3 : w2.cell? ⟨b, o + k * 2 + 1, none⟩ = some (.int .i64 x) := (World.cell?_of_block (w := wr) (b2.block b hbM)).trans d2; clear q2 b2 s2 v2)
            | (go_at_call 16; refine (ref03_Has _ A C s x _ R2.out).mono ?_; rintro e w3 ⟨rfl, dd⟩; have Q3 := Lib.hid (Q2.out.drawn dd); have R3 := Lib.hid (R2.out.frame (Same.drawn _ dd)); have B3 := Lib.hid (B2.out.trans (dd.below _)); have d4 : w3.cell? ⟨b, o + k * 2 + 1, none⟩ = some (.int .i64 x) := dd.cell d3; clear dd))
          go_wp2_with (first
            | (go_at_call 17; refine (ref03_Add _ A C s x _ R3.out (by omega)).mono ?_; rw [ins_eq HS.out x]; rintro e w4 ⟨v4, rfl, o4, b4⟩; obtain ⟨A4, C4, rfl, r4⟩ := Rd.off o4 Q3.out (Nat.le_refl _); have Q4 := Lib.hid (Q3.out.below b4); have R4 := Lib.hid r4; have B4 := Lib.hid (below_then B3.out B3.out.size b4); clear o4 b4 r4)
            | fail)
          go_roundw
          case rel => exact ⟨k + 1, rb2, ins s x, A4, C4, by omega, by go_num, rfl, by omega, ss_ins HS.out x, R4.out, Q4.out, B4.out⟩
          case measure => simp [intOf]; omega
        · have t0 : (kd == 0) = false := by simp [h0]
          clear h0
          by_cases h1 : kd = 1
          · have t1 : (kd == 1) = true := by simp [h1]
            clear h1
            cases s with
            | nil =>
              go_wp2_with (first
                | (go_at_call 12; refine (queue_Pop_none _ g _ rb HQ.out).mono ?_; rintro e w4 ⟨rfl, d4⟩; have Q4 := Lib.hid (HQ.out.drawn d4); have R4 := Lib.hid (HR.out.frame (Same.drawn _ d4)); have B4 := Lib.hid (HB.out.trans (d4.below _)); clear d4)
                | fail)
              go_roundw
              case rel => exact ⟨k + 1, rb, [], A, C, by omega, by go_num, rfl, by simp, HS.out, R4.out, Q4.out, B4.out⟩
              case measure => simp [intOf]; omega
            | cons y s =>
              have hy : (y != y) = false := by simp
              have t2 : (((s.length : Int) + 1) == 0) = false := by rw [beq_eq_false_iff_ne]; omega
              simp only [List.length_cons] at hsk hs3
              go_wp2_with (first
                | (go_at_call 12; refine (queue_Pop _ g _ rb y s HQ.out (by omega)).mono ?_; rintro e w4 ⟨rfl, q4, b4, s4⟩; have Q4 := Lib.hid q4; have R4 := Lib.hid (HR.out.frame (s4.mono fun b hb => hb.1)); have B4 := Lib.hid (HB.out.trans b4); obtain ⟨by_, oy, rfl, cy⟩ := R4.out.head; clear q4 b4 s4)
                | (go_at_call 18; refine (ref03_Remove _ _ C (y :: s) y _ R4.out (by simp; omega)).mono ?_; rw [rem_head HS.out]; rintro e w5 ⟨v5, rfl, o5, b5⟩; obtain ⟨A5, C5, rfl, r5⟩ := Rd.off o5 Q4.out (Nat.le_refl _); have Q5 := Lib.hid (Q4.out.below b5); have R5 := Lib.hid r5; have B5 := Lib.hid (below_then B4.out B4.out.size b5); clear o5 b5 r5)
                | fail)
              go_roundw
              case rel => exact ⟨k + 1, rb, s, A5, C5, by omega, by go_num, rfl, by omega, (List.pairwise_cons.1 HS.out).2, R5.out, Q5.out, B5.out⟩
              case measure => simp [intOf]; omega
          · have t1 : (kd == 1) = false := by simp [h1]
            clear h1
            by_cases h2 : kd = 2
            · have t2 : (kd == 2) = true := by simp [h2]
              clear h2
              go_wp2_with (first
                | (go_at_call 15; refine (queue_Len _ g _ rb s HQ.out).mono ?_; rintro e w4 ⟨rfl, d4⟩; have Q4 := Lib.hid (HQ.out.drawn d4); have R4 := Lib.hid (HR.out.frame (Same.drawn _ d4)); have B4 := Lib.hid (HB.out.trans (d4.below _)); clear d4)
                | fail)
              go_roundw
              case rel => exact ⟨k + 1, rb, s, A, C, by omega, by go_num, rfl, by omega, HS.out, R4.out, Q4.out, B4.out⟩
              case measure => simp [intOf]; omega
            · have t2 : (kd == 2) = false := by simp [h2]
              clear h2
              go_wp2_with (first
                | (go_at_call 19; refine (queue_Items _ g _ rb s HQ.out hs3).mono ?_; rintro e w4 ⟨v4, rfl, o4, b4⟩; obtain ⟨p4, q4, rfl, r4⟩ := o4.rd; have Q4 := Lib.hid (HQ.out.below b4); have R4 := Lib.hid (HR.out.frame (Same.below b4)); have B4 := Lib.hid (below_then HB.out HB.out.size b4); clear o4 b4)
                | (go_at_call 13; have hs := ref03_Same _ _ p4 A q4 C s s w4 r4 R4.out; rw [show decide (s = s) = true from decide_eq_true rfl] at hs; refine hs.mono ?_; clear hs; rintro e w5 ⟨rfl, d5⟩; have Q5 := Lib.hid (Q4.out.drawn d5); have R5 := Lib.hid (R4.out.frame (Same.drawn _ d5)); have B5 := Lib.hid (B4.out.trans (d5.below _)); clear d5)
                | fail)
              go_roundw
              case rel => exact ⟨k + 1, rb, s, A, C, by omega, by go_num, rfl, by omega, HS.out, R5.out, Q5.out, B5.out⟩
              case measure => simp [intOf]; omega
      · go_wp2_with (first
          | (go_at_call 15; refine (queue_Len _ g _ rb s HQ.out).mono ?_; rintro e w4 ⟨rfl, d4⟩; have Q4 := Lib.hid (HQ.out.drawn d4); have R4 := Lib.hid (HR.out.frame (Same.drawn _ d4)); have B4 := Lib.hid (HB.out.trans (d4.below _)); clear d4)
          | (go_at_call 19; refine (queue_Items _ g _ rb s Q4.out hs3).mono ?_; rintro e w5 ⟨v5, rfl, o5, b5⟩; obtain ⟨p5, q5, rfl, r5⟩ := o5.rd; have R5 := Lib.hid (R4.out.frame (Same.below b5)); have B5 := Lib.hid (below_then B4.out B4.out.size b5); clear o5 b5)
          | (go_at_call 13; have hs := ref03_Same _ _ p5 A q5 C s s w5 r5 R5.out; rw [show decide (s = s) = true from decide_eq_true rfl] at hs; refine hs.mono ?_; clear hs; rintro e w6 ⟨rfl, d6⟩; have B6 := Lib.hid (B5.out.trans (d6.below _)); clear d6)
          | (go_at_call 9; refine (law03_lives _).mono ?_; rintro e w8 ⟨rfl, b8⟩; have B8 := Lib.hid (below_then B6.out B6.out.size b8))
          | fail)
        go_ret
        exact ⟨rfl, B8.out⟩
  · have hd : decide ((300 : Int) < l.length) = true := by simp; omega
    go_wp2_with (first
      | (go_at_call 9; refine (law03_lives _).mono ?_; rintro e w8 ⟨rfl, b8⟩)
      | fail)
    go_ret
    exact ⟨rfl, b8⟩
end Go.Proofs.Sat
