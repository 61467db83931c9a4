/- Sets of registers: the walk of live.states. -/
import Derived.Test.YtkomfeeimdlokaaDoorLvB
import Derived.Test.YtkomfeeimdlokaaDoorIsaK
import Derived.IntWalk
set_option linter.unusedVariables false
set_option linter.unusedSimpArgs false
namespace Go.Proofs.Sat
open Go Go.RowKit
/-- A row of n sets: F i r tells whether register r is in set i. -/
def Grid (w : World) (g n : Nat) (F : Nat → Nat → Bool) : Prop := ∃ cur : Array Value, w.heap[g]? = some (.cells cur 90 (0, 0)) ∧ ∀ i r, i < n → r < 8 → cur[i * 8 + r]? = some (.bool (F i r))
theorem Grid.cell {w : World} {g n : Nat} {F : Nat → Nat → Bool} (h : Grid w g n F) {i r : Nat} (hi : i < n) (hr : r < 8) : w.cell? ⟨g, i * 8 + r, none⟩ = some (.bool (F i r)) := by
  obtain ⟨cur, hg, hc⟩ := h
  rw [cell_of_row _ _ _ _ _ _ hg]
  exact hc i r hi hr
theorem Grid.cells {w : World} {g n : Nat} {F : Nat → Nat → Bool} (h : Grid w g n F) {i : Nat} (hi : i < n) :
    w.cell? ⟨g, i * 8, none⟩ = some (.bool (F i 0)) ∧ w.cell? ⟨g, i * 8 + 1, none⟩ = some (.bool (F i 1)) ∧ w.cell? ⟨g, i * 8 + 2, none⟩ = some (.bool (F i 2)) ∧ w.cell? ⟨g, i * 8 + 3, none⟩ = some (.bool (F i 3)) ∧ w.cell? ⟨g, i * 8 + 4, none⟩ = some (.bool (F i 4)) ∧ w.cell? ⟨g, i * 8 + 5, none⟩ = some (.bool (F i 5)) ∧ w.cell? ⟨g, i * 8 + 6, none⟩ = some (.bool (F i 6)) ∧ w.cell? ⟨g, i * 8 + 7, none⟩ = some (.bool (F i 7)) :=
  ⟨h.cell hi (r := 0) (by omega), h.cell hi (r := 1) (by omega), h.cell hi (r := 2) (by omega), h.cell hi (r := 3) (by omega), h.cell hi (r := 4) (by omega), h.cell hi (r := 5) (by omega), h.cell hi (r := 6) (by omega), h.cell hi (r := 7) (by omega)⟩
theorem Grid.frozen {w : World} {g n : Nat} {F : Nat → Nat → Bool} (h : Grid w g n F) (o : Nat) : w.frozen? ⟨g, o, none⟩ = false := by
  obtain ⟨cur, hg, _⟩ := h
  exact frozen_of_block hg
theorem Grid.lt {w : World} {g n : Nat} {F : Nat → Nat → Bool} (h : Grid w g n F) : g < w.heap.size := by
  obtain ⟨cur, hg, _⟩ := h
  exact (Array.getElem?_eq_some_iff.1 hg).1
theorem Grid.frame {w w' : World} {g n : Nat} {F : Nat → Nat → Bool} (h : Grid w g n F) (hb : w'.heap[g]? = w.heap[g]?) : Grid w' g n F := by
  obtain ⟨cur, hg, hc⟩ := h
  exact ⟨cur, hb.trans hg, hc⟩
theorem Grid.below {w w' : World} {g n : Nat} {F : Nat → Nat → Bool} (h : Grid w g n F) (hb : Below w.heap.size w w') : Grid w' g n F := h.frame (hb.block _ h.lt)
theorem Grid.congr {w : World} {g n : Nat} {F G : Nat → Nat → Bool} (h : Grid w g n F) (e : ∀ i r, i < n → r < 8 → F i r = G i r) : Grid w g n G := by
  obtain ⟨cur, hg, hc⟩ := h
  exact ⟨cur, hg, fun i r hi hr => by rw [hc i r hi hr, e i r hi hr]⟩
theorem Grid.set {w : World} {g n : Nat} {F : Nat → Nat → Bool} (h : Grid w g n F) {i r : Nat} (hi : i < n) (hr : r < 8) (b : Bool) :
    Grid (w.setCell ⟨g, i * 8 + r, none⟩ (.bool b)) g n (fun j k => if j = i ∧ k = r then b else F j k) := by
  obtain ⟨cur, hg, hc⟩ := h
  refine ⟨cur.setIfInBounds (i * 8 + r) (.bool b), by simp [World.setCell, Array.getElem?_modify, hg], fun j k hj hk => ?_⟩
  have hz := hc i r hi hr
  have hlt : i * 8 + r < cur.size := (Array.getElem?_eq_some_iff.1 hz).1
  rw [Array.getElem?_setIfInBounds]
  by_cases he : i * 8 + r = j * 8 + k
  · have e2 : j = i ∧ k = r := by omega
    rw [if_pos he, if_pos hlt]
    simp [e2]
  · have e2 : ¬ (j = i ∧ k = r) := by omega
    rw [if_neg he, hc j k hj hk]
    simp only [e2, if_false]
theorem Grid.row {w : World} {g n : Nat} {F : Nat → Nat → Bool} (h : Grid w g n F) {i : Nat} (hi : i < n) (s : Nat → Bool) :
    Grid ((((((((w.setCell ⟨g, i * 8, none⟩ (.bool (s 0))).setCell ⟨g, i * 8 + 1, none⟩ (.bool (s 1))).setCell ⟨g, i * 8 + 2, none⟩ (.bool (s 2))).setCell ⟨g, i * 8 + 3, none⟩ (.bool (s 3))).setCell ⟨g, i * 8 + 4, none⟩ (.bool (s 4))).setCell ⟨g, i * 8 + 5, none⟩ (.bool (s 5))).setCell ⟨g, i * 8 + 6, none⟩ (.bool (s 6))).setCell ⟨g, i * 8 + 7, none⟩ (.bool (s 7)))
      g n (fun j k => if j = i then s k else F j k) := by
  have h0 := h.set hi (r := 0) (by omega) (s 0)
  have h1 := h0.set hi (r := 1) (by omega) (s 1)
  have h2 := h1.set hi (r := 2) (by omega) (s 2)
  have h3 := h2.set hi (r := 3) (by omega) (s 3)
  have h4 := h3.set hi (r := 4) (by omega) (s 4)
  have h5 := h4.set hi (r := 5) (by omega) (s 5)
  have h6 := h5.set hi (r := 6) (by omega) (s 6)
  have h7 := h6.set hi (r := 7) (by omega) (s 7)
  refine h7.congr fun j k hj hk => ?_
  by_cases e : j = i
  · rcases (show k = 0 ∨ k = 1 ∨ k = 2 ∨ k = 3 ∨ k = 4 ∨ k = 5 ∨ k = 6 ∨ k = 7 by omega) with rfl | rfl | rfl | rfl | rfl | rfl | rfl | rfl <;> simp [e]
  · simp [e]
theorem eight_far (w : World) (g o : Nat) (s : Nat → Bool) (b : Nat) (hb : b ≠ g) : ((((((((w.setCell ⟨g, o, none⟩ (.bool (s 0))).setCell ⟨g, o + 1, none⟩ (.bool (s 1))).setCell ⟨g, o + 2, none⟩ (.bool (s 2))).setCell ⟨g, o + 3, none⟩ (.bool (s 3))).setCell ⟨g, o + 4, none⟩ (.bool (s 4))).setCell ⟨g, o + 5, none⟩ (.bool (s 5))).setCell ⟨g, o + 6, none⟩ (.bool (s 6))).setCell ⟨g, o + 7, none⟩ (.bool (s 7))).heap[b]? = w.heap[b]? := by
  rw [Below.heap_setCell _ _ _ b hb, Below.heap_setCell _ _ _ b hb, Below.heap_setCell _ _ _ b hb, Below.heap_setCell _ _ _ b hb, Below.heap_setCell _ _ _ b hb, Below.heap_setCell _ _ _ b hb, Below.heap_setCell _ _ _ b hb, Below.heap_setCell _ _ _ b hb]
theorem eight_below {B : Nat} {w0 w : World} {g : Nat} (h : Below B w0 w) (hg : B ≤ g) (o : Nat) (s : Nat → Bool) : Below B w0 ((((((((w.setCell ⟨g, o, none⟩ (.bool (s 0))).setCell ⟨g, o + 1, none⟩ (.bool (s 1))).setCell ⟨g, o + 2, none⟩ (.bool (s 2))).setCell ⟨g, o + 3, none⟩ (.bool (s 3))).setCell ⟨g, o + 4, none⟩ (.bool (s 4))).setCell ⟨g, o + 5, none⟩ (.bool (s 5))).setCell ⟨g, o + 6, none⟩ (.bool (s 6))).setCell ⟨g, o + 7, none⟩ (.bool (s 7))) :=
  (((((((h.setCell hg _).setCell hg _).setCell hg _).setCell hg _).setCell hg _).setCell hg _).setCell hg _).setCell hg _
theorem infoSet : ElemInfo Tryd.prog 91 90 (.agg #[.bool false, .bool false, .bool false, .bool false, .bool false, .bool false, .bool false, .bool false]) 8 8 := ⟨Tryd.underlying91, by kernel_rfl, rfl, by decide⟩
theorem run_mk8 (w : World) (kl kc : IntKind) (L C : Int) (n : Nat) (hL : L = n) (hC : C = n) (hn : n ≤ 1000000) :
    ∃ v' w', (Instr.makeSlice 91 (.int kl L) (.int kc C)).run Tryd.prog w = .ok v' w' ∧ Grid w' w.heap.size n (fun _ _ => false) ∧ w.grownBy w' none ∧ v' = .slice (some ⟨w.heap.size, 0, none⟩) n n := by
  subst hL hC
  obtain ⟨i, hi, h2, h3, h4⟩ := info_parts infoSet.hi
  obtain ⟨w', hr, ho, hg⟩ := run_make_full (P := Tryd.prog) w w.heap.size 91 90 i _ 8 infoSet.ht hi h2 h3 kl kc n (by rw [h4]; omega) (by simp [maxLen]; omega) (Nat.le_refl _)
  refine ⟨_, w', hr, ?_, hg, rfl⟩
  rcases ho.2 with ⟨h, _⟩ | ⟨g, cap, cur, hv, hb', hg', q1, q2, q3, q4⟩
  · cases h
  · cases hv
    refine ⟨cur, hg', fun j c hj hc => ?_⟩
    have hz : j * 8 + c < n * 8 := by omega
    have e1 : (cur.toList.take (n * 8))[j * 8 + c]? = cur[j * 8 + c]? := by rw [List.getElem?_take_of_lt hz, Array.getElem?_toList]
    rw [← e1, q4]
    rw [Array.getElem?_toList]
    unfold madeCells
    have hz2 : j * 8 + c < (Array.range (n * 8)).size := by simpa using hz
    rw [Array.getElem?_map, Array.getElem?_eq_getElem hz2]
    have hm : (j * 8 + c) % 8 = c := by omega
    simp [hm]
    rcases (show c = 0 ∨ c = 1 ∨ c = 2 ∨ c = 3 ∨ c = 4 ∨ c = 5 ∨ c = 6 ∨ c = 7 by omega) with rfl | rfl | rfl | rfl | rfl | rfl | rfl | rfl <;> simp [hm, Value.cells]
/-- What is live before instructions. -/
def stateR (out : List Int) : List In → (Nat → Bool)
  | [] => fun k => decide ((k : Int) ∈ out)
  | x :: l => backS (stateR out l) x
theorem inR_iff (n regs : Int) : inR n regs = true ↔ 0 ≤ n ∧ n < regs := by unfold inR; exact decide_eq_true_iff
theorem ins_ok {width regs : Int} {x : In} (h : insErr width regs x = 0) : knownI x.op = true ∧ (defsI x = true → 0 ≤ x.dst ∧ x.dst < regs) ∧ ∀ r ∈ usesI x, 0 ≤ r ∧ r < regs := by
  unfold insErr at h
  by_cases h1 : knownI x.op = false
  · rw [if_pos h1] at h; cases h
  rw [if_neg h1] at h
  by_cases h2 : defsI x = true ∧ inR x.dst regs = false
  · rw [if_pos h2] at h; cases h
  rw [if_neg h2] at h
  by_cases h3 : (usesI x).all (fun r => inR r regs) = false
  · rw [if_pos h3] at h; cases h
  refine ⟨by simpa using h1, fun hd => (inR_iff _ _).1 ?_, fun r hr => (inR_iff _ _).1 ?_⟩
  · cases hh : inR x.dst regs
    · exact absurd ⟨hd, hh⟩ h2
    · rfl
  · rw [Bool.not_eq_false, List.all_eq_true] at h3
    exact h3 r hr
structure CdOK (c : Cd) : Prop where
  w1 : 1 ≤ c.width
  w2 : c.width ≤ 64
  r1 : 1 ≤ c.regs
  r2 : c.regs ≤ 8
  len : c.ins.length ≤ 256
  ins : ∀ x ∈ c.ins, insErr c.width c.regs x = 0
  out : ∀ r ∈ c.out, 0 ≤ r ∧ r < c.regs
  dup : c.out.Nodup
theorem cd_ok {c : Cd} (h : cdErr c = 0) : CdOK c := by
  unfold cdErr at h
  by_cases h1 : ¬ (1 ≤ c.width ∧ c.width ≤ 64)
  · rw [if_pos h1] at h; cases h
  rw [if_neg h1] at h
  by_cases h2 : ¬ (1 ≤ c.regs ∧ c.regs ≤ 8)
  · rw [if_pos h2] at h; cases h
  rw [if_neg h2] at h
  by_cases h3 : 256 < c.ins.length
  · rw [if_pos h3] at h; cases h
  rw [if_neg h3] at h
  by_cases h4 : insErrs c.width c.regs c.ins ≠ 0
  · rw [if_pos h4] at h; exact absurd h h4
  rw [if_neg h4] at h
  by_cases h5 : c.out.all (fun r => inR r c.regs) = false
  · rw [if_pos h5] at h; cases h
  rw [if_neg h5] at h
  by_cases h6 : ¬ c.out.Nodup
  · rw [if_pos h6] at h; cases h
  refine ⟨by omega, by omega, by omega, by omega, by omega, insErrs_zero.1 (by omega), fun r hr => ?_, by simpa using h6⟩
  rw [Bool.not_eq_false, List.all_eq_true] at h5
  exact (inR_iff _ _).1 (h5 r hr)
theorem stateR_drop (out : List Int) (l : List In) {k : Nat} (h : k < l.length) : stateR out (l.drop k) = backS (stateR out (l.drop (k + 1))) l[k] := by
  rw [List.drop_eq_getElem_cons h]
  rfl
set_option maxRecDepth 20000 in
set_option maxHeartbeats 4000000 in
theorem live_states (S : Nat → Prop) (c : Cd) (p : CdAt) (w : World) (hK : IsaT w) (h : CdRd S w c p) (hok : CdOK c) : Calls Tryd.prog 49 #[cdVal c p] w fun e w' => ∃ g, e = .returned (.slice (some ⟨g, 0, none⟩) (c.ins.length + 1) (c.ins.length + 1)) ∧ w.heap.size ≤ g ∧ Grid w' g (c.ins.length + 1) (fun i => stateR c.out (c.ins.drop i)) ∧ Below w.heap.size w w' := by
  obtain ⟨ia, ic, oa, oc⟩ := p
  have HI : Hid (Rd kIn S w ia ic c.ins) := h.ins
  have HO : Hid (Rd (Kd.int .i64) S w oa oc c.out) := h.out
  have HOK := Lib.hid hok
  have hil := h.ins.le
  have hol := h.out.le
  have hl := hok.len
  clear hok h
  have BW := Lib.hid (below_alloc (Below.refl w.heap.size w) (.cells #[.int .i64 c.width, .int .i64 c.regs, .slice ia c.ins.length ic, .slice oa c.out.length oc] 38))
  have KC := Lib.hid (heap_alloc_new w (.cells #[.int .i64 c.width, .int .i64 c.regs, .slice ia c.ins.length ic, .slice oa c.out.length oc] 38))
  unfold cdVal
  go_enter Tryd.func49, Tryd.ntmps49
  go_wp2_with (first
    | ((with_reducible refine gate_m 91 (.tmp 10) (.tmp 10) rfl ?_); refine wpList_make_ev _ rfl (.tmp 10) (.tmp 10) 91 rfl _ _ rfl rfl _ (run_mk8 _ _ _ _ _ (c.ins.length + 1) (by simp) (by simp) (by omega)) ?_; rintro v' w1 ⟨hG, hg, rfl⟩; have G1 := Lib.hid (show Grid w1 (w.heap.size + 1) (c.ins.length + 1) (fun _ _ => false) from (by simpa using hG)); have B1 := Lib.hid (BW.out.grown hg BW.out.size (fun k hk => by cases hk)); have KC1 := Lib.hid (block_grown hg KC.out (by simp)); obtain ⟨z0, z1, z2, z3⟩ := cd_block4 KC1.out; clear hG hg)
    | fail)
  go_loopw [15] (fun i wr => ∃ k : Nat, k ≤ c.out.length ∧ i = .int .i64 k ∧ Hid (Grid wr (w.heap.size + 1) (c.ins.length + 1) (fun i r => decide (i = c.ins.length) && decide ((r : Int) ∈ c.out.take k))) ∧ Hid (Same (fun b => b ≠ w.heap.size + 1) w1 wr) ∧ Hid (Below w.heap.size w wr)) (fun i _ => c.out.length - (intOf i).toNat)
  case atStart => exact ⟨0, by omega, rfl, G1.out.congr (by simp), Same.refl _ _, B1.out⟩
  case round =>
    clear z0 z1 z2 z3
    obtain ⟨k, hk9, rfl, G2, HS, HB⟩ := hrel
    have KC2 : Hid (wr.heap[w.heap.size]? = _) := (HS.out.2 w.heap.size (by show w.heap.size ≠ w.heap.size + 1; omega) (Array.getElem?_eq_some_iff.1 KC1.out).1).trans KC1.out
    obtain ⟨z0, z1, z2, z3⟩ := cd_block4 KC2.out
    by_cases hlt : k < c.out.length
    · obtain ⟨b, o, rfl, -, -, hc⟩ := (HO.out.frame (Same.below HB.out)).vals (by omega) 0
      have d5 := hc k hlt
      rw [getD_at _ hlt] at d5
      have hr := HOK.out.out _ (List.getElem_mem hlt)
      have hr2 := HOK.out.r2
      have HT := Lib.hid (List.take_succ_eq_append_getElem hlt)
      clear hc
      generalize c.out[k] = r at *
      obtain ⟨hr0, hr1⟩ := hr
      obtain ⟨m, rfl⟩ := Int.eq_ofNat_of_zero_le hr0
      have hm8 : m < 8 := by omega
      have hm8' : (m : Int) < 8 := by omega
      clear hr1 hr2
      have e1 := G2.out.cell (i := c.ins.length) (r := m) (by omega) hm8
      have e2 := G2.out.frozen (c.ins.length * 8 + m)
      have E3 := Lib.hid (G2.out.set (i := c.ins.length) (r := m) (by omega) hm8 true)
      go_wp2_with fail
      go_roundw
      case rel =>
        refine ⟨k + 1, by omega, by go_num, ?_, ?_, ?_⟩
        · exact E3.out.congr (fun i r _ _ => by
            simp only [HT.out, List.mem_append, List.mem_singleton]
            by_cases e : i = c.ins.length ∧ r = m
            · rw [if_pos e]; simp [e.1, e.2]
            · rw [if_neg e]
              by_cases ei : i = c.ins.length
              · have er : r ≠ m := fun h => e ⟨ei, h⟩
                simp [ei]; omega
              · simp [ei])
        · exact HS.out.trans (Same.setCell _ _ (fun b hb => hb))
        · exact HB.out.setCell (by show w.heap.size ≤ w.heap.size + 1; omega) _
      case measure => simp [intOf]; omega
    · obtain ⟨w2, hw2'⟩ : ∃ w2, w2 = wr := ⟨_, rfl⟩
      subst hw2'
      go_wp2_with fail
      go_loopw [6] (fun i wr => ∃ k : Nat, k ≤ c.ins.length ∧ i = .int .i64 ((k : Int) - 1) ∧ Hid (Grid wr (w.heap.size + 1) (c.ins.length + 1) (fun i r => if k ≤ i then stateR c.out (c.ins.drop i) r else false)) ∧ Hid (wr.heap[w.heap.size]? = some (.cells #[.int .i64 c.width, .int .i64 c.regs, .slice ia c.ins.length ic, .slice oa c.out.length oc] 38 (0, 0))) ∧ Hid (Below w.heap.size w wr)) (fun i _ => (intOf i + 1).toNat)
      case atStart =>
        refine ⟨c.ins.length, by omega, rfl, G2.out.congr (fun i r hi _ => ?_), KC2.out, HB.out⟩
        rw [List.take_of_length_le (by omega)]
        by_cases e : c.ins.length ≤ i
        · have e' : i = c.ins.length := by omega
          subst e'
          rw [if_pos (by omega), List.drop_length]
          simp [stateR]
        · rw [if_neg e]
          have e' : ¬ i = c.ins.length := by omega
          simp [e']
      case round =>
        clear z0 z1 z2 z3
        obtain ⟨k, hk9, rfl, G3, KC3, HB3⟩ := hrel
        obtain ⟨z0, z1, z2, z3⟩ := cd_block4 KC3.out
        by_cases hlt : 0 < k
        · obtain ⟨j, rfl⟩ : ∃ j, k = j + 1 := ⟨k - 1, by omega⟩
          have hj : j < c.ins.length := by omega
          rw [show ((j + 1 : Nat) : Int) - 1 = (j : Int) from by omega]
          obtain ⟨b, o, rfl, -, hbw0, hat0⟩ := in_elem HI.out hj
          have hat := hat0.frame (w' := wr) (HB3.out.block b hbw0)
          have hbw : b < wr.heap.size := Nat.lt_of_lt_of_le hbw0 HB3.out.size
          have hbn : b ≠ w.heap.size + 1 := by omega
          have hhn : w.heap.size ≠ w.heap.size + 1 := by omega
          clear hat0
          have HX := Lib.hid (HOK.out.ins _ (List.getElem_mem hj))
          have HS2 := Lib.hid (stateR_drop c.out c.ins hj)
          have hr2 := HOK.out.r2
          generalize c.ins[j] = x at *
          have HAT := Lib.hid hat
          obtain ⟨c0, c1, c2, c3, c4, c5⟩ := hat
          have G4 := Lib.hid (G3.out.cells (i := j + 1) (by omega))
          simp only [Nat.le_refl, if_true] at G4
          have CB : Hid (∀ W, IsaT W → Calls Tryd.prog 58 #[setVal (stateR c.out (c.ins.drop (j + 1))), inVal x] W fun e w' => e = .returned (setVal (stateR c.out (c.ins.drop j))) ∧ Below W.heap.size W w') := fun W hW => by
            rw [HS2.out]
            exact live_back _ x W hW (fun hd => by have := (ins_ok HX.out).2.1 hd; omega) (fun r hr => by have := (ins_ok HX.out).2.2 r hr; omega)
          have HFZ := Lib.hid (G3.out.frozen)
          generalize hs1 : stateR c.out (c.ins.drop (j + 1)) = s1 at *
          generalize hs0 : stateR c.out (c.ins.drop j) = s0 at *
          have HS1 := Lib.hid hs1
          have HS0 := Lib.hid hs0
          clear hs1 hs0
          obtain ⟨f0, f1, f2, f3, f4, f5, f6, f7⟩ := G4.out
          have TI := Lib.hid (hK.below HB3.out)
          have hj0 : (0 : Int) ≤ (j : Int) := by omega
          have hj1 : (j : Int) < (c.ins.length : Int) := by omega
          have hz0 : (0 : Int) ≤ (j : Int) + 1 := by omega
          have hz1 : (j : Int) + 1 < (c.ins.length : Int) + 1 := by omega
          have hj2 : (j : Int) < (c.ins.length : Int) + 1 := by omega
          have hzt : ((j : Int) + 1).toNat = j + 1 := by omega
          have hw : IntKind.i64.wrap ((j : Int) + 1) = (j : Int) + 1 := IntWalk.i64_in _ (by omega)
          go_wp2_with fail
          go_region_held3 (fun w' => w'.cell? ⟨w.heap.size, 2, none⟩ = some (.slice (some ⟨b, o, none⟩) c.ins.length ic) ∧
            (w'.cell? ⟨w.heap.size + 1, (j + 1) * 8, none⟩ = some (.bool (s1 0)) ∧ w'.cell? ⟨w.heap.size + 1, (j + 1) * 8 + 1, none⟩ = some (.bool (s1 1)) ∧ w'.cell? ⟨w.heap.size + 1, (j + 1) * 8 + 2, none⟩ = some (.bool (s1 2)) ∧ w'.cell? ⟨w.heap.size + 1, (j + 1) * 8 + 3, none⟩ = some (.bool (s1 3)) ∧ w'.cell? ⟨w.heap.size + 1, (j + 1) * 8 + 4, none⟩ = some (.bool (s1 4)) ∧ w'.cell? ⟨w.heap.size + 1, (j + 1) * 8 + 5, none⟩ = some (.bool (s1 5)) ∧ w'.cell? ⟨w.heap.size + 1, (j + 1) * 8 + 6, none⟩ = some (.bool (s1 6)) ∧ w'.cell? ⟨w.heap.size + 1, (j + 1) * 8 + 7, none⟩ = some (.bool (s1 7))) ∧
            w'.cell? ⟨b, o + j * 6, none⟩ = some (.int .i64 x.op) ∧ w'.cell? ⟨b, o + j * 6 + 1, none⟩ = some (.int .i64 x.dst) ∧ w'.cell? ⟨b, o + j * 6 + 2, none⟩ = some (.int .i64 x.a) ∧ w'.cell? ⟨b, o + j * 6 + 3, none⟩ = some (.int .i64 x.b) ∧ w'.cell? ⟨b, o + j * 6 + 4, none⟩ = some (.int .i64 x.c) ∧ w'.cell? ⟨b, o + j * 6 + 5, none⟩ = some (.int .u64 x.imm))
            (first | with_reducible exact ⟨y2, ⟨g0, g1, g2, g3, g4, g5, g6, g7⟩, d0, d1, d2, d3, d4, d5⟩ | with_reducible exact ⟨(World.cell?_of_block (EF _ hhn)).trans y2, G11, (World.cell?_of_block (EF _ hbn)).trans d0, (World.cell?_of_block (EF _ hbn)).trans d1, (World.cell?_of_block (EF _ hbn)).trans d2, (World.cell?_of_block (EF _ hbn)).trans d3, (World.cell?_of_block (EF _ hbn)).trans d4, (World.cell?_of_block (EF _ hbn)).trans d5⟩ | exact ⟨z2, ⟨f0, f1, f2, f3, f4, f5, f6, f7⟩, c0, c1, c2, c3, c4, c5⟩)
            (first
            | (go_at_call 58; refine (CB.out _ (TI.out.frame (w' := wr.drew) rfl)).mono ?_; rintro e w9 ⟨rfl, b9⟩; have b9' := below_both (below_drewN (Below.refl wr.heap.size wr) 1) b9; have G9 := Lib.hid (G3.out.below b9'); have KC9 := Lib.hid (block_below b9' KC3.out); have B9 := Lib.hid (below_both HB3.out b9'); have hat9 := HAT.out.frame (w' := w9) (b9'.block b hbw); obtain ⟨d0, d1, d2, d3, d4, d5⟩ := hat9; have G9' := G9.out.cells (i := j + 1) (Nat.succ_lt_succ hj); simp only [Nat.le_refl, if_true] at G9'; rw [HS1.out] at G9'; obtain ⟨g0, g1, g2, g3, g4, g5, g6, g7⟩ := G9'; obtain ⟨y0, y1, y2, y3⟩ := cd_block4 KC9.out; have zf9 := G9.out.frozen; have G10 := Lib.hid (G9.out.row (i := j) (Nat.lt_succ_of_lt hj) s0); have EF := eight_far w9 (w.heap.size + 1) (j * 8) s0; have G11 := G10.out.cells (i := j + 1) (Nat.succ_lt_succ hj); simp only [Nat.succ_ne_self, if_false, Nat.le_refl, if_true] at G11; rw [HS1.out] at G11; have G9c := G9.out.cells (i := j) (Nat.lt_succ_of_lt hj); obtain ⟨k0, k1, k2, k3, k4, k5, k6, k7⟩ := G9c)
            | fail)
          clear hw hzt hz0 hz1 EF
          go_wp2_with fail
          go_roundw
          case rel =>
            refine ⟨j, by omega, by go_num, ?_, ?_, ?_⟩
            · exact G10.out.congr (fun i r hi _ => by
                by_cases e : i = j
                · subst e
                  simp only [if_true, Nat.le_refl, HS0.out]
                · by_cases e2 : j + 1 ≤ i
                  · simp only [e, if_false, e2, if_true, show j ≤ i by omega]
                  · simp only [e, if_false, e2, show ¬ j ≤ i by omega])
            · exact (eight_far w9 (w.heap.size + 1) (j * 8) s0 _ hhn).trans KC9.out
            · exact eight_below B9.out (by omega) _ _
          case measure => simp [intOf] <;> omega
        · obtain rfl : k = 0 := by omega
          go_wp2_with fail
          go_ret
          refine ⟨w.heap.size + 1, rfl, by omega, ?_, HB3.out⟩
          exact G3.out.congr (fun i r _ _ => by rw [if_pos (by omega)])
end Go.Proofs.Sat
