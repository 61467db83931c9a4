/- The walks of what is built on unions and differences: idset.Add, Remove, Subset, Equal; the reference's pick, Meet, Minus, Subset. -/
import Derived.Test.YtgjdpjefoaohkaaIdsM
import Derived.Test.YtgjdpjefoaohkaaIdsR
set_option linter.unusedVariables false
set_option linter.unusedSimpArgs false
namespace Go.Proofs.Sat
open Go Go.RowKit

theorem Rd.new {α : Type} {enc : α → Value} {h1 : ∀ x, (enc x).oneCell' = true} (w : World) (t : TypeId) (x : α) : Rd (Kd.val enc h1) (fun _ => True) (w.alloc (.cells #[enc x] t)) (some ⟨w.heap.size, 0, none⟩) 1 [x] :=
  Rd.of_vals x (by simp) (by omega) (fun _ => ⟨trivial, by simp⟩) (fun j hj => by
    obtain rfl : j = 0 := by simpa using hj
    have := cell_one_new w (enc x) t 0 (enc x) (by simp)
    rw [add_plain] at this
    exact this)
set_option maxHeartbeats 400000 in
theorem idset_Add (S : Nat → Prop) (a : Option Addr) (c : Nat) (l : List Int) (x : Int) (w : World) (h : Rd (Kd.int .i64) S w a c l) (hsz : l.length ≤ 549755813888) :
    Calls Try.prog 27 #[.slice a l.length c, .int .i64 x] w fun e w' => ∃ v, e = .returned v ∧ Own (Kd.int .i64) 3 NoS w' w.heap.size v (ofL (l ++ [x])) ∧ Below w.heap.size w w' := by
  have hx := h.frame (Same.alloc S w (.cells #[.int .i64 x] 3))
  go_enter Try.func27, Try.ntmps27
  go_wp2_with (first
    | (go_at_call 29; refine (idset_Union S _ a _ c 1 l [x] _ hx (Rd.new w 3 x) (by omega) (by simp)).mono ?_; rintro e w1 ⟨v, rfl, ho, hb⟩)
    | fail)
  go_ret
  exact ⟨v, rfl, ho.mono (fun _ _ h => h) (by simp), below_then (Below.alloc (Below.refl w.heap.size w) (Nat.le_refl _) _) (by simp) hb⟩
set_option maxHeartbeats 400000 in
theorem idset_Remove (S : Nat → Prop) (a : Option Addr) (c : Nat) (l : List Int) (x : Int) (w : World) (h : Rd (Kd.int .i64) S w a c l) (hsz : l.length ≤ 549755813888) :
    Calls Try.prog 28 #[.slice a l.length c, .int .i64 x] w fun e w' => ∃ v, e = .returned v ∧ Own (Kd.int .i64) 3 NoS w' w.heap.size v ((ofL l).filter fun z => z != x) ∧ Below w.heap.size w w' := by
  have hx := h.frame (Same.alloc S w (.cells #[.int .i64 x] 3))
  go_enter Try.func28, Try.ntmps28
  go_wp2_with (first
    | (go_at_call 33; refine (idset_Minus S _ a _ c 1 l [x] _ hx (Rd.new w 3 x) (by omega) (by simp)).mono ?_; rintro e w1 ⟨v, rfl, ho, hb⟩)
    | fail)
  go_ret
  have e : ((ofL l).filter fun z => !decide (z ∈ [x])) = (ofL l).filter fun z => z != x := by
    refine List.filter_congr fun z _ => ?_
    by_cases hz : z = x <;> simp [hz]
  rw [e] at ho
  exact ⟨v, rfl, ho.mono (fun _ _ h => h) (by simp), below_then (Below.alloc (Below.refl w.heap.size w) (Nat.le_refl _) _) (by simp) hb⟩
theorem len_zero {α : Type} [DecidableEq α] (l : List α) : ((l.length : Int) == 0) = decide (l = []) := by
  cases l with
  | nil => rfl
  | cons x l => simp; omega
theorem minus_nil (l1 l2 : List Int) : decide (((ofL l1).filter fun z => !decide (z ∈ l2)) = []) = decide (∀ z ∈ l1, z ∈ l2) := by
  rw [decide_eq_decide]
  simp [List.filter_eq_nil_iff, mem_ofL]
set_option maxHeartbeats 400000 in
theorem idset_Subset (S1 S2 : Nat → Prop) (a1 a2 : Option Addr) (c1 c2 : Nat) (l1 l2 : List Int) (w : World) (h1 : Rd (Kd.int .i64) S1 w a1 c1 l1) (h2 : Rd (Kd.int .i64) S2 w a2 c2 l2) (hz1 : l1.length ≤ 549755813888) (hz2 : l2.length ≤ 549755813888) :
    Calls Try.prog 35 #[.slice a1 l1.length c1, .slice a2 l2.length c2] w fun e w' => e = .returned (.bool (decide (∀ z ∈ l1, z ∈ l2))) ∧ Below w.heap.size w w' := by
  have hm := Lib.hid (minus_nil l1 l2)
  have hln := List.length_filter_le (fun z => !decide (z ∈ l2)) (ofL l1)
  have hl1 := length_ofL l1
  go_enter Try.func35, Try.ntmps35
  go_wp2_with (first
    | (go_at_call 33; refine (idset_Minus S1 S2 a1 a2 c1 c2 l1 l2 _ h1 h2 (by omega) (by omega)).mono ?_; rintro e w1 ⟨v, rfl, ho, hb⟩; obtain ⟨A, C, rfl⟩ := ho.form)
    | fail)
  go_ret
  exact ⟨ret_bool ((len_zero _).trans hm.out), hb⟩
theorem equal_rd (S1 S2 : Nat → Prop) (a1 a2 : Option Addr) (c1 c2 : Nat) (l1 l2 : List Int) (w : World) (h1 : Rd (Kd.int .i64) S1 w a1 c1 l1) (h2 : Rd (Kd.int .i64) S2 w a2 c2 l2) :
    Calls Try.prog 48 #[.slice a1 l1.length c1, .slice a2 l2.length c2] w fun e w' => e = .returned (.bool (decide (l1 = l2))) ∧ Drawn w w' := by
  rcases Nat.eq_zero_or_pos l1.length with h0 | hp1
  · obtain rfl : l1 = [] := List.eq_nil_of_length_eq_zero h0
    refine (Try.slices_Equal_int_empty a1 a2 c1 l2.length c2 w h2.le).mono ?_
    rintro e w' ⟨rfl, rfl⟩
    refine ⟨ret_bool ?_, Drawn.refl _⟩
    rw [decide_eq_decide, List.length_eq_zero_iff, eq_comm]
  · rcases Nat.eq_zero_or_pos l2.length with h0 | hp2
    · obtain rfl : l2 = [] := List.eq_nil_of_length_eq_zero h0
      refine (Try.slices_Equal_int_lens a1 a2 l1.length c1 0 c2 w (by omega)).mono ?_
      rintro e w' ⟨rfl, rfl⟩
      refine ⟨ret_bool ?_, Drawn.refl _⟩
      symm
      rw [decide_eq_false_iff_not]
      rintro rfl
      simp at hp1
    · obtain ⟨b1, o1, rfl, _, _, hc1⟩ := h1.vals hp1 0
      obtain ⟨b2, o2, rfl, _, _, hc2⟩ := h2.vals hp2 0
      refine (Try.slices_Equal_int b1 o1 l1.length c1 b2 o2 l2.length c2 l1 l2 w (Nat.le_refl _) (Nat.le_refl _) h1.le h2.le hc1 hc2).mono ?_
      rintro e w' ⟨rfl, n, rfl⟩
      refine ⟨ret_bool ?_, Drawn.of _ _⟩
      rw [List.take_length, List.take_length]
      by_cases e : l1 = l2 <;> simp [e]
set_option maxHeartbeats 400000 in
theorem idset_Equal (S1 S2 : Nat → Prop) (a1 a2 : Option Addr) (c1 c2 : Nat) (l1 l2 : List Int) (w : World) (h1 : Rd (Kd.int .i64) S1 w a1 c1 l1) (h2 : Rd (Kd.int .i64) S2 w a2 c2 l2) (hz1 : l1.length ≤ 549755813888) (hz2 : l2.length ≤ 549755813888) :
    Calls Try.prog 37 #[.slice a1 l1.length c1, .slice a2 l2.length c2] w fun e w' => e = .returned (.bool (decide (ofL l1 = ofL l2))) ∧ Below w.heap.size w w' := by
  go_enter Try.func37, Try.ntmps37
  go_wp2_with (first
    | (go_at_call 42; refine (idset_set S1 a1 c1 l1 _ h1 (by omega)).mono ?_; rintro e w1 ⟨p1, q1, rfl, r1, b1⟩; have h2 := h2.frame (Same.below b1))
    | (go_at_call 42; refine (idset_set S2 a2 c2 l2 _ h2 (by omega)).mono ?_; rintro e w2 ⟨p2, q2, rfl, r2, b2⟩; have r1 := r1.frame (Same.below b2))
    | (go_at_call 48; refine (equal_rd _ _ p1 p2 q1 q2 _ _ _ r1 r2).mono ?_; rintro e w3 ⟨rfl, hd⟩)
    | fail)
  go_ret
  exact ⟨rfl, (below_both b1 b2).trans (hd.below _)⟩
set_option maxHeartbeats 800000 in
theorem ref03_pick (S1 S2 : Nat → Prop) (a1 a2 : Option Addr) (c1 c2 : Nat) (l1 l2 : List Int) (p : Bool) (w : World) (h1 : Rd (Kd.int .i64) S1 w a1 c1 l1) (h2 : Rd (Kd.int .i64) S2 w a2 c2 l2) (hz1 : l1.length ≤ 549755813888) (hz2 : l2.length ≤ 549755813888) :
    Calls Try.prog 46 #[.slice a1 l1.length c1, .slice a2 l2.length c2, .bool p] w fun e w' => ∃ v, e = .returned v ∧ Own (Kd.int .i64) 3 NoS w' w.heap.size v ((ofL l1).filter fun z => decide (z ∈ l2) == p) ∧ Below w.heap.size w w' := by
  have hle := length_ofL l1
  have h2 := h2.lt
  go_enter Try.func46, Try.ntmps46
  go_wp2_with (first
    | (go_at_call 14; refine (ref03_Of S1 a1 c1 l1 _ h1 (by omega)).mono ?_; rintro e w1 ⟨v, rfl, ho, hb⟩; obtain ⟨A, C, rfl, hr⟩ := ho.rd)
    | fail)
  have hr := hr.lt
  have h2 := (h2.frame (Same.below hb)).lt
  have HB1 := Lib.hid hb
  clear ho hb
  go_loopw [7, 8] (fun v i wr => ∃ k : Nat, k ≤ (ofL l1).length ∧ i = .int .i64 k ∧ Hid (Own (Kd.int .i64) 3 NoS wr w1.heap.size v (((ofL l1).take k).filter fun z => decide (z ∈ l2) == p)) ∧ Hid (Below w1.heap.size w1 wr)) (fun _ i _ => (ofL l1).length - (intOf i).toNat)
  case atStart => exact ⟨0, by omega, rfl, Own.nil _ _ _ _ _, Below.refl _ _⟩
  case round =>
    obtain ⟨k, hk, rfl, HO, HB⟩ := hrel
    by_cases hlt : k < (ofL l1).length
    · have HF := Lib.hid (filter_take_succ hlt fun z => decide (z ∈ l2) == p)
      have hfl : (((ofL l1).take k).filter fun z => decide (z ∈ l2) == p).length ≤ 549755813888 := Nat.le_trans (List.length_filter_le _ _) (by simp; omega)
      have R0 := hr.frame (w' := wr) ⟨HB.out.size, fun b hb _ => HB.out.block b hb⟩
      have R2 := Lib.hid (h2.frame (w' := wr) ⟨HB.out.size, fun b hb _ => HB.out.block b hb⟩)
      obtain ⟨b, o, rfl, _, _, hc⟩ := R0.vals (by omega) 0
      have d := hc k hlt
      clear hc R0
      generalize hx : (ofL l1)[k] = x at *
      have HX := Lib.hid hx
      replace d : wr.cell? ⟨b, o + k, none⟩ = some (.int .i64 x) := by rw [d, getD_at _ hlt, hx]
      clear hx
      by_cases hq : decide (x ∈ l2) = p
      · have hq' : (decide (x ∈ l2) == p) = true := by simp [hq]
        have HQ := Lib.hid hq'
        clear hq
        go_wp2_with (first
          | (go_at_call 16; refine (ref03_Has _ a2 c2 l2 x _ R2.out).mono ?_; rintro e w2 ⟨rfl, nd, rfl⟩)
          | (at_builtin; refine wpList_append_ev _ rfl _ _ 22 rfl _ _ rfl rfl _ (run_app1 (wr.drewN nd) infoInt rfl _ (HO.out.drewN nd) 3 [.int .i64 x] x rfl (by omega) (by omega) HB.out.size) ?_; rintro n2 w2 ⟨ow2, g2, v2, _⟩; have B2 := Lib.hid ((below_drewN HB.out nd).grown g2 HB.out.size (fun k hk => (HO.out.lt k hk).1)))
          | fail)
        go_roundw
        case rel =>
          refine ⟨k + 1, by omega, by go_num, ?_, B2.out⟩
          show Own _ _ _ _ _ _ _
          rw [HF.out, HQ.out]
          exact ow2
        case measure => simp [intOf]; omega
      · have hq' : (decide (x ∈ l2) == p) = false := by simp [hq]
        have HQ := Lib.hid hq'
        clear hq
        go_wp2_with (first
          | (go_at_call 16; refine (ref03_Has _ a2 c2 l2 x _ R2.out).mono ?_; rintro e w2 ⟨rfl, nd, rfl⟩)
          | fail)
        go_roundw
        case rel =>
          refine ⟨k + 1, by omega, by go_num, ?_, below_drewN HB.out _⟩
          show Own _ _ _ _ _ _ _
          rw [HF.out, HQ.out]
          simpa using HO.out.drewN _
        case measure => simp [intOf]; omega
    · go_wp2
      go_ret
      have hfin := HO.out
      have e1 : (ofL l1).take k = ofL l1 := List.take_of_length_le (by omega)
      rw [e1] at hfin
      exact ⟨_, rfl, hfin.mono (fun _ _ h => h) HB1.out.size, below_both HB1.out HB.out⟩
set_option maxHeartbeats 400000 in
theorem ref03_Meet (S1 S2 : Nat → Prop) (a1 a2 : Option Addr) (c1 c2 : Nat) (l1 l2 : List Int) (w : World) (h1 : Rd (Kd.int .i64) S1 w a1 c1 l1) (h2 : Rd (Kd.int .i64) S2 w a2 c2 l2) (hz1 : l1.length ≤ 549755813888) (hz2 : l2.length ≤ 549755813888) :
    Calls Try.prog 32 #[.slice a1 l1.length c1, .slice a2 l2.length c2] w fun e w' => ∃ v, e = .returned v ∧ Own (Kd.int .i64) 3 NoS w' w.heap.size v ((ofL l1).filter fun z => decide (z ∈ l2)) ∧ Below w.heap.size w w' := by
  go_enter Try.func32, Try.ntmps32
  go_wp2_with (first
    | (go_at_call 46; refine (ref03_pick S1 S2 a1 a2 c1 c2 l1 l2 true _ h1 h2 hz1 hz2).mono ?_; rintro e w1 ⟨v, rfl, ho, hb⟩)
    | fail)
  go_ret
  exact ⟨v, rfl, by simpa using ho, hb⟩
set_option maxHeartbeats 400000 in
theorem ref03_Minus (S1 S2 : Nat → Prop) (a1 a2 : Option Addr) (c1 c2 : Nat) (l1 l2 : List Int) (w : World) (h1 : Rd (Kd.int .i64) S1 w a1 c1 l1) (h2 : Rd (Kd.int .i64) S2 w a2 c2 l2) (hz1 : l1.length ≤ 549755813888) (hz2 : l2.length ≤ 549755813888) :
    Calls Try.prog 34 #[.slice a1 l1.length c1, .slice a2 l2.length c2] w fun e w' => ∃ v, e = .returned v ∧ Own (Kd.int .i64) 3 NoS w' w.heap.size v ((ofL l1).filter fun z => !decide (z ∈ l2)) ∧ Below w.heap.size w w' := by
  go_enter Try.func34, Try.ntmps34
  go_wp2_with (first
    | (go_at_call 46; refine (ref03_pick S1 S2 a1 a2 c1 c2 l1 l2 false _ h1 h2 hz1 hz2).mono ?_; rintro e w1 ⟨v, rfl, ho, hb⟩)
    | fail)
  go_ret
  exact ⟨v, rfl, by simpa using ho, hb⟩
set_option maxHeartbeats 400000 in
theorem ref03_Subset (S1 S2 : Nat → Prop) (a1 a2 : Option Addr) (c1 c2 : Nat) (l1 l2 : List Int) (w : World) (h1 : Rd (Kd.int .i64) S1 w a1 c1 l1) (h2 : Rd (Kd.int .i64) S2 w a2 c2 l2) (hz1 : l1.length ≤ 549755813888) (hz2 : l2.length ≤ 549755813888) :
    Calls Try.prog 36 #[.slice a1 l1.length c1, .slice a2 l2.length c2] w fun e w' => e = .returned (.bool (decide (∀ z ∈ l1, z ∈ l2))) ∧ Below w.heap.size w w' := by
  have hm := Lib.hid (minus_nil l1 l2)
  have hln := List.length_filter_le (fun z => decide (z ∈ l2) == false) (ofL l1)
  have hl1 := length_ofL l1
  have he := Lib.hid (show ((ofL l1).filter fun z => decide (z ∈ l2) == false) = (ofL l1).filter fun z => !decide (z ∈ l2) from by congr 1; funext z; simp)
  go_enter Try.func36, Try.ntmps36
  go_wp2_with (first
    | (go_at_call 46; refine (ref03_pick S1 S2 a1 a2 c1 c2 l1 l2 false _ h1 h2 (by omega) (by omega)).mono ?_; rintro e w1 ⟨v, rfl, ho, hb⟩; obtain ⟨A, C, rfl⟩ := ho.form)
    | fail)
  go_ret
  exact ⟨ret_bool ((len_zero _).trans (by rw [← hm.out, ← he.out])), hb⟩
end Go.Proofs.Sat
