/- The walk of the reference's Depth. -/
import Derived.Test.YtgjdpjefoaohkaaDoorPrE0
import Derived.Test.YtgjdpjefoaohkaaDoorR3
set_option linter.unusedVariables false
set_option linter.unusedSimpArgs false
namespace Go.Proofs.Sat
open Go Go.RowKit
set_option maxRecDepth 20000 in
set_option maxHeartbeats 1000000 in
theorem ref34_Depth (S : Nat → Prop) (a : Option Addr) (c : Nat) (l : List St) (w : World) (h : Rd kSt S w a c l) :
    Calls Tryd.prog 29 #[.slice a l.length c] w fun e w' => e = .returned (.int .i64 (depthOf l)) ∧ Below w.heap.size w w' := by
  have hl := h.le
  go_enter Tryd.func29, Tryd.ntmps29
  by_cases he : (chk l).2 = 0
  · have t0 : ((chk l).2 != 0) = false := by simp [he]
    obtain ⟨hpos, h64, hwell⟩ := chk_ok he
    have HWL := Lib.hid hwell
    have HE := Lib.hid (show depthOf l = (deepN l l.length).getD (l.length - 1) 0 from if_pos he)
    clear hwell
    go_wp2_with (first
      | (go_at_call 23; refine (ref34_Check _ a c l w h).mono ?_; rintro e w1 ⟨rfl, hb1⟩)
      | fail)
    go_loopw [5, 6] (fun v i wr => ∃ j : Nat, j ≤ l.length ∧ i = .int .i64 j ∧ Hid (Own (Kd.int .i64) 3 NoS wr w.heap.size v (deepN l j)) ∧ Hid (Below w.heap.size w wr)) (fun _ i _ => l.length - (intOf i).toNat)
    case atStart => exact ⟨0, by omega, rfl, Own.nil _ _ _ _ _, hb1⟩
    case round =>
      obtain ⟨j, hj, rfl, HO, HB⟩ := hrel
      have HL : Hid ((deepN l j).length = j) := deepN_length l j
      obtain ⟨av, cv, hv⟩ := HO.out.form
      rw [HL.out] at hv
      subst hv
      by_cases hlt : j < l.length
      · obtain ⟨b, o, p, rfl, hbl, hr, IN⟩ := st_elem h hlt
        have HR := Lib.hid hr.refs
        have HW : Hid (∀ r ∈ l[j].refs, 0 ≤ r ∧ r < (j : Int)) := wellB_refs (HWL.out _ hlt)
        have HD := Lib.hid (deepN_succ l hlt)
        have HDB : Hid (∀ m, 0 ≤ (deepN l j).getD m 0 ∧ (deepN l j).getD m 0 ≤ 65536) := fun m => deepN_at_bound l (by omega) m
        have HMB : Hid (∀ rs, 0 ≤ maxD (deepN l j) rs ∧ maxD (deepN l j) rs ≤ 65536) := fun rs => maxD_bound _ _ (by omega) (fun x hx => by have := deepN_bound l j x hx; omega) rs
        have HMT := Lib.hid (fun rs k hk => maxD_take (deepN l j) rs (k := k) hk)
        generalize deepN l j = acc at *
        generalize l[j] = x at *
        obtain ⟨ra, rc, sa, sc, aa, ac, ba, bc⟩ := p
        have HIN := Lib.hid IN
        have hbl' := Lib.hid hbl
        have hrl := HR.out.le
        dsimp only at hrl HR
        have hk0 : Hid ((0 : Int) = maxD acc (x.refs.take 0)) := rfl
        clear hr IN hbl
        obtain ⟨W1, hW⟩ : ∃ W1, W1 = wr := ⟨_, rfl⟩
        subst hW
        go_wp2
        go_loopw [7, 8] (fun v i wr => ∃ k : Nat, k ≤ x.refs.length ∧ (i = .int .i64 k ∧ v = .int .i64 (maxD acc (x.refs.take k))) ∧ Hid (Below W1.heap.size W1 wr)) (fun _ i _ => x.refs.length - (intOf i).toNat)
        case atStart => exact ⟨0, by omega, ⟨rfl, rfl⟩, Below.refl _ _⟩
        case round =>
          obtain ⟨k, hk, ⟨rfl, rfl⟩, HB2⟩ := hrel
          have i1 := (HIN.out.frame ((HB2.out.block b (Nat.lt_of_lt_of_le hbl'.out HB.out.size)).trans (HB.out.block _ hbl'.out))).c1
          dsimp only at i1
          have hbd := HMB.out (x.refs.take k)
          by_cases hlt2 : k < x.refs.length
          · obtain ⟨b2, o2, rfl, _, _, hc⟩ := (HR.out.frame (Same.below (below_both HB.out HB2.out))).vals (by omega) 0
            have d := hc k hlt2
            rw [getD_at x.refs hlt2] at d
            have hr0 := HW.out x.refs[k] (List.getElem_mem hlt2)
            have HT := Lib.hid (HMT.out x.refs k hlt2)
            generalize x.refs[k] = r at *
            obtain ⟨hr1, hr2⟩ := hr0
            obtain ⟨m, rfl⟩ := Int.eq_ofNat_of_zero_le hr1
            have hmj : m < j := by omega
            obtain ⟨gA, oA, hAe, _, _, hcA⟩ := (Own.rd' (HO.out.below HB2.out)).vals (by rw [HL.out]; omega) 0
            subst hAe
            have u1 := hcA m (by rw [HL.out]; exact hmj)
            have hda := HDB.out m
            have HT' : Hid (maxD acc (x.refs.take (k + 1)) = max (maxD acc (x.refs.take k)) (acc.getD m 0)) := by have := HT.out; rw [Int.toNat_natCast] at this; exact this
            generalize acc.getD m 0 = dm at *
            generalize maxD acc (x.refs.take k) = cur at *
            clear hc hcA HT
            go_wp2
            go_roundw
            case rel =>
              refine ⟨k + 1, by omega, ⟨by go_num, ?_⟩, HB2.out⟩
              rw [HT'.out]
              congr 1
              split <;> omega
            case measure => simp [intOf]; omega
          · obtain rfl : k = x.refs.length := by omega
            have hbd2 : 0 ≤ maxD acc x.refs ∧ maxD acc x.refs ≤ 65536 := HMB.out x.refs
            rw [List.take_length]
            go_wp2_with (first
              | (at_builtin
                 refine wpList_append_ev _ rfl _ _ 28 rfl _ _ rfl rfl _ (run_app1 wr infoInt rfl _ (HO.out.below HB2.out) 3 [.int .i64 _] _ rfl (by have := HL.out; omega) (by have := HL.out; omega) (below_both HB.out HB2.out).size) ?_
                 rintro n2 w2 ⟨ow2, g2, v2, _⟩
                 have B2 := Lib.hid ((below_both HB.out HB2.out).grown g2 (below_both HB.out HB2.out).size (fun k hk => (HO.out.lt k hk).1))
                 have O2 := Lib.hid ow2
                 clear ow2 g2 v2)
              | fail)
            go_roundw
            case rel =>
              refine ⟨j + 1, by omega, by go_num, ?_, B2.out⟩
              show Own _ _ _ _ _ _ _
              rw [HD.out]
              exact O2.out
            case measure => simp [intOf]; omega
      · obtain rfl : j = l.length := by omega
        obtain ⟨gA, oA, hAe, _, _, hcA⟩ := (Own.rd' HO.out).vals (by rw [HL.out]; omega) 0
        subst hAe
        have u1 := hcA (l.length - 1) (by rw [HL.out]; omega)
        rw [← HE.out] at u1
        have g0 : (0 : Int) ≤ (l.length : Int) - 1 := by omega
        have g1 : (l.length : Int) - 1 < (l.length : Int) := by omega
        have g2 : ((l.length : Int) - 1).toNat = l.length - 1 := by omega
        clear hcA
        go_wp2
        go_ret
        exact ⟨rfl, HB.out⟩
  · have t0 : ((chk l).2 != 0) = true := by simp [he]
    have HE := Lib.hid (show depthOf l = 0 from if_neg he)
    rw [HE.out]
    go_wp2_with (first
      | (go_at_call 23; refine (ref34_Check _ a c l w h).mono ?_; rintro e w1 ⟨rfl, hb1⟩)
      | fail)
    go_ret
    exact ⟨rfl, hb1⟩
end Go.Proofs.Sat
