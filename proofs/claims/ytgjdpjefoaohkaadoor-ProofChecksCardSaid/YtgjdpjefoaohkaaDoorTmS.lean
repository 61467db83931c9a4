/- The walk of term.Same. -/
import Derived.Test.YtgjdpjefoaohkaaDoorTmC
set_option linter.unusedVariables false
set_option linter.unusedSimpArgs false
namespace Go.Proofs.Sat
open Go Go.RowKit
set_option maxHeartbeats 1000000 in
theorem eqf_Tm (S1 S2 : Nat → Prop) (a1 a2 : Option Addr) (c1 c2 : Nat) (l1 l2 : List Tm) (w : World) (h1 : Rd kT S1 w a1 c1 l1) (h2 : Rd kT S2 w a2 c2 l2) (hS : ∀ x ∈ l1, SameTells 46 x) :
    Calls Tryd.prog 56 #[.slice a1 l1.length c1, .slice a2 l2.length c2, .func (.func 46) #[] #[]] w fun e w' => e = .returned (.bool (decide (l1 = l2))) ∧ Below w.heap.size w w' := by
  go_enter Tryd.func56, Tryd.ntmps56
  have hl1 := h1.le
  have hl2 := h2.le
  by_cases he : l1.length = l2.length
  · have hb : (l1.length != l2.length) = false := by simp [he]
    have hb' : ((l1.length : Int) != (l2.length : Int)) = false := by simp [he]
    have HE := Lib.hid he
    clear he
    go_wp2
    go_loopw [17] (fun i wr => ∃ k : Nat, k ≤ l1.length ∧ i = .int .i64 k ∧ Hid (∀ i (h : i < l1.length) (h' : i < l2.length), i < k → l1[i] = l2[i]) ∧ Hid (Below w.heap.size w wr)) (fun i _ => l1.length - (intOf i).toNat)
    case atStart => exact ⟨0, by omega, rfl, fun i h => by omega, Below.refl _ _⟩
    case round =>
      obtain ⟨k, hk, rfl, hv, HB⟩ := hrel
      by_cases hlt : k < l1.length
      · have hlt2 : k < l2.length := by have := HE.out; omega
        obtain ⟨b1, o1, a1', c1', rfl, lt1, hr1, P⟩ := tm_elem (h1.frame (Same.below HB.out)) hlt
        obtain ⟨b2, o2, a2', c2', rfl, lt2, hr2, Q⟩ := tm_elem (h2.frame (Same.below HB.out)) hlt2
        have CT := Lib.hid fun o o' => hS l1[k] (List.getElem_mem hlt) l2[k] _ _ _ _ _ _ ((wr.alloc o).alloc o') (hr1.frame ((Same.alloc _ wr o).trans (Same.alloc _ _ o'))) (hr2.frame ((Same.alloc _ wr o).trans (Same.alloc _ _ o')))
        obtain ⟨p0, p1, p2, p3, p4⟩ := P
        have QA := fun ob => Q.frame (Below.heap_alloc wr ob b2 lt2)
        have q0 := fun ob => (QA ob).1
        have q1 := fun ob => (QA ob).2.1
        have q2 := fun ob => (QA ob).2.2.1
        have q3 := fun ob => (QA ob).2.2.2.1
        have q4 := fun ob => (QA ob).2.2.2.2
        clear hb hb' hr1 hr2 QA Q
        generalize hx1 : l1[k] = x1 at *
        generalize hx2 : l2[k] = x2 at *
        have HX1 := Lib.hid hx1
        have HX2 := Lib.hid hx2
        clear hx1 hx2
        by_cases hq : x1 = x2
        · have hq' : decide (x1 = x2) = true := by simpa using hq
          have HQ := Lib.hid hq
          clear hq
          rw [hq'] at CT
          go_wp2_with (first
            | (go_at_call 46; refine (CT.out _ _).mono ?_; rintro e w1 ⟨rfl, hb1⟩; replace hb1 := Lib.hid hb1)
            | fail)
          go_roundw
          case rel =>
            refine ⟨k + 1, by omega, by go_num, fun i hi hi2 hik => ?_, below_both (below_alloc (below_alloc HB.out _) _) hb1.out⟩
            rcases Nat.lt_or_ge i k with h' | h'
            · exact hv.out i hi hi2 h'
            · obtain rfl : i = k := by omega
              rw [HX1.out, HX2.out, HQ.out]
          case measure => simp [intOf]; omega
        · have hq' : decide (x1 = x2) = false := by simpa using hq
          have HQ := Lib.hid hq
          clear hq
          rw [hq'] at CT
          go_wp2_with (first
            | (go_at_call 46; refine (CT.out _ _).mono ?_; rintro e w1 ⟨rfl, hb1⟩; replace hb1 := Lib.hid hb1)
            | fail)
          go_ret
          refine ⟨ret_bool ?_, below_both (below_alloc (below_alloc HB.out _) _) hb1.out⟩
          symm
          rw [decide_eq_false_iff_not]
          rintro rfl
          exact HQ.out (HX1.out.symm.trans HX2.out)
      · clear hb hb'
        go_wp2
        go_ret
        refine ⟨ret_bool ?_, HB.out⟩
        symm
        rw [decide_eq_true_eq, eq_iff_elems]
        exact ⟨HE.out, fun i hi hi2 => hv.out i hi hi2 (by omega)⟩
  · have hb : (l1.length != l2.length) = true := by simp [he]
    have hb' : ((l1.length : Int) != (l2.length : Int)) = true := by simp; omega
    go_wp2
    go_ret
    refine ⟨ret_bool ?_, Below.refl _ _⟩
    symm
    rw [decide_eq_false_iff_not]
    rintro rfl
    exact he rfl
set_option maxHeartbeats 2000000 in
theorem term_Same : ∀ (m : Nat) (x : Tm), SizeOf.sizeOf x ≤ m → SameTells 46 x := by
  intro m
  induction m with
  | zero => intro x hx; exact absurd hx (by have : 0 < SizeOf.sizeOf x := by cases x; simp; omega
                                            omega)
  | succ m ih =>
    intro x hx y S1 S2 a1 a2 c1 c2 w h1 h2
    have HA := Lib.hid fun o o' => eqf_Tm S1 S2 a1 a2 c1 c2 x.args y.args ((w.alloc o).alloc o') (h1.frame ((Same.alloc _ w o).trans (Same.alloc _ _ o'))) (h2.frame ((Same.alloc _ w o).trans (Same.alloc _ _ o'))) (fun z hz => ih z (by have := x.arg_lt hz; omega))
    have HE := Lib.hid (Tm.ext_iff (x := x) (y := y))
    unfold tmVal
    go_enter Tryd.func46, Tryd.ntmps46
    by_cases e1 : x.op = y.op
    case neg =>
      have b1 : (x.op == y.op) = false := by simpa using e1
      have b1' : (x.op != y.op) = true := by simpa using e1
      have HF := Lib.hid (show decide (x = y) = false from decide_eq_false fun h => e1 (HE.out.1 h).1)
      clear e1
      rw [HF.out]
      go_wp2
      all_goals go_ret
      all_goals exact ⟨rfl, ((Below.refl _ _).alloc (Nat.le_refl _) _).alloc (by simp) _⟩
    have b1 : (x.op == y.op) = true := by simpa using e1
    have b1' : (x.op != y.op) = false := by simpa using e1
    replace e1 := Lib.hid e1
    by_cases e2 : x.width = y.width
    case neg =>
      have b2 : (x.width == y.width) = false := by simpa using e2
      have b2' : (x.width != y.width) = true := by simpa using e2
      have HF := Lib.hid (show decide (x = y) = false from decide_eq_false fun h => e2 (HE.out.1 h).2.1)
      clear e2
      rw [HF.out]
      go_wp2
      all_goals go_ret
      all_goals exact ⟨rfl, ((Below.refl _ _).alloc (Nat.le_refl _) _).alloc (by simp) _⟩
    have b2 : (x.width == y.width) = true := by simpa using e2
    have b2' : (x.width != y.width) = false := by simpa using e2
    replace e2 := Lib.hid e2
    by_cases e3 : x.val = y.val
    case neg =>
      have b3 : (x.val == y.val) = false := by simpa using e3
      have b3' : (x.val != y.val) = true := by simpa using e3
      have HF := Lib.hid (show decide (x = y) = false from decide_eq_false fun h => e3 (HE.out.1 h).2.2.1)
      clear e3
      rw [HF.out]
      go_wp2
      all_goals go_ret
      all_goals exact ⟨rfl, ((Below.refl _ _).alloc (Nat.le_refl _) _).alloc (by simp) _⟩
    have b3 : (x.val == y.val) = true := by simpa using e3
    have b3' : (x.val != y.val) = false := by simpa using e3
    replace e3 := Lib.hid e3
    by_cases e4 : x.name = y.name
    case neg =>
      have b4 : (x.name.toList == y.name.toList) = false := by rw [bytes_beq]; exact decide_eq_false e4
      have b4' : (x.name.toList != y.name.toList) = true := by rw [bne, b4]; rfl
      have HF := Lib.hid (show decide (x = y) = false from decide_eq_false fun h => e4 (HE.out.1 h).2.2.2.1)
      clear e4
      rw [HF.out]
      go_wp2
      all_goals go_ret
      all_goals exact ⟨rfl, ((Below.refl _ _).alloc (Nat.le_refl _) _).alloc (by simp) _⟩
    have b4 : (x.name.toList == y.name.toList) = true := by rw [e4]; simp
    have b4' : (x.name.toList != y.name.toList) = false := by rw [e4]; simp
    replace e4 := Lib.hid e4
    have HD : Hid (decide (x.args = y.args) = decide (x = y)) := by
      show _ = _
      rw [decide_eq_decide, HE.out]
      exact ⟨fun h => ⟨e1.out, e2.out, e3.out, e4.out, h⟩, fun h => h.2.2.2.2⟩
    rw [← HD.out]
    go_wp2_with (first
      | (go_at_call 56; refine (HA.out _ _).mono ?_; rintro e w1 ⟨rfl, hb1⟩)
      | fail)
    go_ret
    exact ⟨rfl, below_both (((Below.refl _ _).alloc (Nat.le_refl _) _).alloc (by simp) _) hb1⟩
end Go.Proofs.Sat
