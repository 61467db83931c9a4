/- The walks of the checks of a proof's form: both sides. -/
import Derived.Test.YtgjdpjefoaohkaaDoorPrT
import Derived.Test.YtgjdpjefoaohkaaDoorStW
set_option linter.unusedVariables false
set_option linter.unusedSimpArgs false
namespace Go.Proofs.Sat
open Go Go.RowKit
theorem getD_at (l : List Int) {k : Nat} (h : k < l.length) : l.getD k 0 = l[k] := by simp [h]
theorem all_false {l : List Int} {f : Int → Bool} {k : Nat} (h : k < l.length) (hf : f (l.getD k 0) = false) : l.all f = false := by
  rw [getD_at l h] at hf
  rw [List.all_eq_false]
  exact ⟨l[k], List.getElem_mem h, by simp [hf]⟩
theorem all_true {l : List Int} {f : Int → Bool} (h : ∀ j, j < l.length → f (l.getD j 0) = true) : l.all f = true := by
  rw [List.all_eq_true]
  intro x hx
  obtain ⟨j, hj, rfl⟩ := List.getElem_of_mem hx
  have := h j hj
  rwa [getD_at l hj] at this
/-- Are the Refs of a step of the right number? -/
def numOk (x : St) : Bool := decide (0 ≤ refLo x.kind) && decide (refLo x.kind ≤ x.refs.length) && decide ((x.refs.length : Int) ≤ refHi x.kind) && (!(x.kind == 4 || x.kind == 8) || decide (x.refs.length = x.a.args.length))
def wellB (x : St) (at_ : Int) : Bool := numOk x && x.refs.all fun r => decide (0 ≤ r) && decide (r < at_)
set_option maxHeartbeats 1000000 in
theorem ref34_well (S : Nat → Prop) (x : St) (p : StAt) (at_ : Int) (w : World) (h : StRd S w x p) (h1 : 0 ≤ at_) (h2 : at_ ≤ 9223372036854775807) :
    Calls Tryd.prog 39 #[stVal x p, .int .i64 at_] w fun e w' => e = .returned (.bool (wellB x at_)) ∧ Below w.heap.size w w' := by
  have hl := h.refs.le
  have hla := h.a.le
  have hrd := h.refs
  clear h
  obtain ⟨ra, rc, sa, sc, aa, ac, ba, bc⟩ := p
  dsimp only at *
  have hB := Lib.hid ((Below.refl w.heap.size w).alloc (Nat.le_refl _) (.cells (stCells x ⟨ra, rc, sa, sc, aa, ac, ba, bc⟩).toArray 36))
  unfold stVal
  go_enter Tryd.func39, Tryd.ntmps39
  by_cases hn : numOk x = true
  · have hn' := hn
    simp only [numOk, Bool.and_eq_true, Bool.or_eq_true, decide_eq_true_eq, Bool.not_eq_true', beq_iff_eq, beq_eq_false_iff_ne] at hn'
    obtain ⟨⟨⟨n1, n2⟩, n3⟩, n4⟩ := hn'
    have t1 : decide (refLo x.kind < 0) = false := by simp; omega
    have t2 : decide ((x.refs.length : Int) < refLo x.kind) = false := by simp; omega
    have t3 : decide (refHi x.kind < (x.refs.length : Int)) = false := by simp; omega
    have HN := Lib.hid hn
    have t5 : (x.kind == 4 || x.kind == 8) = true → ((x.refs.length : Int) != (x.a.args.length : Int)) = false := fun h => by
      rcases n4 with h' | h'
      · rw [h] at h'; cases h'
      · simp [h']
    clear hn n1 n2 n3 n4
    have hR := Lib.hid hrd
    clear hrd
    cases h4 : (x.kind == 4) <;> cases h8 : (x.kind == 8) <;> (try have t5' := t5 (by rw [h4, h8]; rfl)) <;> clear t5
    all_goals
      go_wp2_with (first
        | (go_at_call 9; refine (ref34_Refs x.kind _).mono ?_; rintro e w1 ⟨rfl, nd, rfl⟩)
        | fail)
      go_loopw [7] (fun i wr => ∃ k : Nat, k ≤ x.refs.length ∧ i = .int .i64 k ∧ Hid (∀ j, j < k → 0 ≤ x.refs.getD j 0 ∧ x.refs.getD j 0 < at_) ∧ Hid (Below w.heap.size w wr) ∧ wr.heap[w.heap.size]? = some (.cells (stCells x ⟨ra, rc, sa, sc, aa, ac, ba, bc⟩).toArray 36 (0, 0))) (fun i _ => x.refs.length - (intOf i).toNat)
      case atStart => exact ⟨0, by omega, rfl, fun j h => by omega, below_drewN hB.out _, heap_alloc_new w _⟩
      case round =>
        obtain ⟨k, hk, rfl, hv, HB, hblk⟩ := hrel
        have c1 : wr.cell? ⟨w.heap.size, 1, none⟩ = some (.slice ra x.refs.length rc) := (cell_of_row _ _ 1 _ _ (0, 0) hblk).trans rfl
        have HBK := Lib.hid hblk
        clear hblk
        by_cases hlt : k < x.refs.length
        · obtain ⟨b, o, rfl, _, _, hc⟩ := (hR.out.frame (Same.below HB.out)).vals (by omega) 0
          have d := hc k hlt
          have HX := Lib.hid (getD_at x.refs hlt)
          rw [HX.out] at d
          generalize x.refs[k] = r at *
          clear hc
          by_cases hr : 0 ≤ r ∧ r < at_
          · obtain ⟨r0, r1⟩ := hr
            go_wp2
            go_roundw
            case rel =>
              refine ⟨k + 1, by omega, by go_num, fun j hj => ?_, HB.out, HBK.out⟩
              rcases Nat.lt_or_ge j k with h' | h'
              · exact hv.out j h'
              · obtain rfl : j = k := by omega
                rw [HX.out]; exact ⟨r0, r1⟩
            case measure => simp [intOf]; omega
          · have HW := Lib.hid (show wellB x at_ = false by
              unfold wellB
              rw [all_false hlt (by rw [HX.out]; simp; omega), Bool.and_false])
            by_cases r0 : r < 0
            · go_wp2
              go_ret
              exact ⟨ret_bool HW.out.symm, HB.out⟩
            · have r1 : ¬ r < at_ := by omega
              go_wp2
              go_ret
              exact ⟨ret_bool HW.out.symm, HB.out⟩
        · go_wp2
          go_ret
          refine ⟨ret_bool ?_, HB.out⟩
          unfold wellB
          rw [HN.out, Bool.true_and]
          exact (all_true (fun j hj => by have := hv.out j (by omega); rw [decide_eq_true this.1, decide_eq_true this.2]; rfl)).symm
  · have HW := Lib.hid (show wellB x at_ = false by simp [wellB, hn])
    have hn' : ¬ (((0 ≤ refLo x.kind ∧ refLo x.kind ≤ x.refs.length) ∧ (x.refs.length : Int) ≤ refHi x.kind) ∧ ((x.kind == 4 || x.kind == 8) = false ∨ x.refs.length = x.a.args.length)) := by
      simpa only [numOk, Bool.and_eq_true, Bool.or_eq_true, decide_eq_true_eq, Bool.not_eq_true'] using hn
    rw [HW.out]
    clear hn
    by_cases n1 : refLo x.kind < 0
    · clear hn'
      go_wp2_with (first
        | (go_at_call 9; refine (ref34_Refs x.kind _).mono ?_; rintro e w1 ⟨rfl, nd, rfl⟩)
        | fail)
      all_goals go_ret
      all_goals exact ⟨rfl, below_drewN hB.out _⟩
    by_cases n2 : (x.refs.length : Int) < refLo x.kind
    · clear hn'
      go_wp2_with (first
        | (go_at_call 9; refine (ref34_Refs x.kind _).mono ?_; rintro e w1 ⟨rfl, nd, rfl⟩)
        | fail)
      all_goals go_ret
      all_goals exact ⟨rfl, below_drewN hB.out _⟩
    by_cases n3 : refHi x.kind < (x.refs.length : Int)
    · clear hn'
      go_wp2_with (first
        | (go_at_call 9; refine (ref34_Refs x.kind _).mono ?_; rintro e w1 ⟨rfl, nd, rfl⟩)
        | fail)
      all_goals go_ret
      all_goals exact ⟨rfl, below_drewN hB.out _⟩
    have n4 : (x.kind == 4 || x.kind == 8) = true := by
      cases hb : (x.kind == 4 || x.kind == 8)
      · exact absurd ⟨⟨⟨by omega, by omega⟩, by omega⟩, .inl hb⟩ hn'
      · rfl
    have n5 : ((x.refs.length : Int) != (x.a.args.length : Int)) = true := by
      rw [bne_iff_ne]
      intro e
      exact hn' ⟨⟨⟨by omega, by omega⟩, by omega⟩, .inr (by omega)⟩
    have t1 : decide (refLo x.kind < 0) = false := by simp; omega
    have t2 : decide ((x.refs.length : Int) < refLo x.kind) = false := by simp; omega
    have t3 : decide (refHi x.kind < (x.refs.length : Int)) = false := by simp; omega
    clear hn' n1 n2 n3
    cases h4 : (x.kind == 4) <;> cases h8 : (x.kind == 8)
    case false.false => rw [h4, h8] at n4; cases n4
    all_goals
      clear n4
      go_wp2_with (first
        | (go_at_call 9; refine (ref34_Refs x.kind _).mono ?_; rintro e w1 ⟨rfl, nd, rfl⟩)
        | fail)
      go_ret
      exact ⟨rfl, below_drewN hB.out _⟩
theorem numOk_iff (x : St) : numOk x = true ↔ 0 ≤ refLo x.kind ∧ refLo x.kind ≤ x.refs.length ∧ (x.refs.length : Int) ≤ refHi x.kind ∧ ((x.kind == 4 || x.kind == 8) = true → x.refs.length = x.a.args.length) := by
  unfold numOk
  cases (x.kind == 4 || x.kind == 8) <;> simp [and_assoc]
set_option maxHeartbeats 1000000 in
theorem proof_right (S : Nat → Prop) (x : St) (p : StAt) (at_ : Int) (w : World) (h : StRd S w x p) (hK : Kinds w) :
    Calls Tryd.prog 32 #[stVal x p, .int .i64 at_] w fun e w' => e = .returned (.bool (wellB x at_)) ∧ Below w.heap.size w w' := by
  have hl := h.refs.le
  have hla := h.a.le
  have hrd := h.refs
  clear h
  obtain ⟨ra, rc, sa, sc, aa, ac, ba, bc⟩ := p
  dsimp only at *
  have hB := Lib.hid ((Below.refl w.heap.size w).alloc (Nat.le_refl _) (.cells (stCells x ⟨ra, rc, sa, sc, aa, ac, ba, bc⟩).toArray 36))
  have hK' := Lib.hid (hK.below (below_alloc (Below.refl w.heap.size w) (.cells (stCells x ⟨ra, rc, sa, sc, aa, ac, ba, bc⟩).toArray 36)))
  unfold stVal
  go_enter Tryd.func32, Tryd.ntmps32
  have HC : Hid (∀ j, (x.kind == 4) = true ∨ (x.kind == 8) = true → j = refLo x.kind → j = 0) := by
    rintro j (h | h) rfl <;> (have := eq_of_beq h; rw [this]; rfl)
  have hnum := numOk_iff x
  by_cases hn : numOk x = true
  · have HN := Lib.hid hn
    have hn' := hnum.1 hn
    have hR := Lib.hid hrd
    clear hrd hn hnum hK
    cases h4 : (x.kind == 4) <;> cases h8 : (x.kind == 8)
    all_goals
      have n1 := hn'.1
      have n2 := hn'.2.1
      have n3 := hn'.2.2.1
      have n4 := hn'.2.2.2
      rw [h4, h8] at n4
      simp only [Bool.or_true, Bool.or_false, Bool.true_or, forall_const, Bool.false_eq_true, false_implies] at n4
      (try have n5 := Nat.le_of_eq n4)
      (try have n6 := Nat.le_of_eq n4.symm)
      (try clear n4)
      clear hn'
      go_wp2_with (first
        | (go_at_call 8; refine (proof_Refs x.kind _ hK'.out).mono ?_; rintro e w1 ⟨rfl, nd, rfl⟩)
        | fail)
    all_goals try (exfalso; omega)
    all_goals
      go_loopw [49] (fun i wr => ∃ k : Nat, k ≤ x.refs.length ∧ i = .int .i64 k ∧ Hid (∀ j, j < k → 0 ≤ x.refs.getD j 0 ∧ x.refs.getD j 0 < at_) ∧ Hid (Below w.heap.size w wr)) (fun i _ => x.refs.length - (intOf i).toNat)
      case atStart => exact ⟨0, by omega, rfl, fun j h => by omega, below_drewN hB.out _⟩
      case round =>
        obtain ⟨k, hk, rfl, hv, HB⟩ := hrel
        by_cases hlt : k < x.refs.length
        · obtain ⟨b, o, rfl, _, _, hc⟩ := (hR.out.frame (Same.below HB.out)).vals (by omega) 0
          have d := hc k hlt
          have HX := Lib.hid (getD_at x.refs hlt)
          rw [HX.out] at d
          generalize x.refs[k] = r at *
          clear hc
          by_cases hr : 0 ≤ r ∧ r < at_
          · obtain ⟨r0, r1⟩ := hr
            go_wp2
            go_roundw
            case rel =>
              refine ⟨k + 1, by omega, by go_num, fun j hj => ?_, HB.out⟩
              rcases Nat.lt_or_ge j k with h' | h'
              · exact hv.out j h'
              · obtain rfl : j = k := by omega
                rw [HX.out]; exact ⟨r0, r1⟩
            case measure => simp [intOf]; omega
          · have HW := Lib.hid (show wellB x at_ = false by
              unfold wellB
              rw [all_false hlt (by rw [HX.out]; simp; omega), Bool.and_false])
            by_cases r0 : r < 0
            · go_wp2
              go_ret
              exact ⟨ret_bool HW.out.symm, HB.out⟩
            · have r1 : ¬ r < at_ := by omega
              go_wp2
              go_ret
              exact ⟨ret_bool HW.out.symm, HB.out⟩
        · go_wp2
          go_ret
          refine ⟨ret_bool ?_, HB.out⟩
          unfold wellB
          rw [HN.out, Bool.true_and]
          exact (all_true (fun j hj => by have := hv.out j (by omega); rw [decide_eq_true this.1, decide_eq_true this.2]; rfl)).symm
  · have HW := Lib.hid (show wellB x at_ = false by simp [wellB, hn])
    have hn' : ¬ (0 ≤ refLo x.kind ∧ refLo x.kind ≤ x.refs.length ∧ (x.refs.length : Int) ≤ refHi x.kind ∧ ((x.kind == 4 || x.kind == 8) = true → x.refs.length = x.a.args.length)) := fun h => hn (hnum.2 h)
    rw [HW.out]
    clear hn hnum hK hrd
    cases h4 : (x.kind == 4) <;> cases h8 : (x.kind == 8)
    all_goals
      rw [h4, h8] at hn'
      simp only [Bool.or_true, Bool.or_false, Bool.true_or, forall_const, Bool.false_eq_true, false_implies, and_true] at hn'
      (try have n7 := HC.out (refLo x.kind) (.inl h4) rfl)
      (try have n7 := HC.out (refLo x.kind) (.inr h8) rfl)
      go_wp2_with (first
        | (go_at_call 8; refine (proof_Refs x.kind _ hK'.out).mono ?_; rintro e w1 ⟨rfl, nd, rfl⟩)
        | fail)
    all_goals first
      | (exfalso; omega)
      | (go_ret; exact ⟨rfl, below_drewN hB.out _⟩)
end Go.Proofs.Sat
