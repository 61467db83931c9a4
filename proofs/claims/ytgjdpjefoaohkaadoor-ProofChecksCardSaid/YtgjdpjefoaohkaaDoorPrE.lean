/- The walk of proof.Depth. -/
import Derived.Test.YtgjdpjefoaohkaaDoorPrE0
import Derived.Deep.RegionLaw
set_option linter.unusedVariables false
set_option linter.unusedSimpArgs false
namespace Go.Proofs.Sat
open Go Go.RowKit
set_option maxRecDepth 20000 in
set_option maxHeartbeats 1000000 in
theorem proof_Depth (S : Nat → Prop) (a : Option Addr) (c : Nat) (l : List St) (w : World) (h : Rd kSt S w a c l) (hK : Kinds w) :
    Calls Tryd.prog 24 #[.slice a l.length c] w fun e w' => e = .returned (.int .i64 (depthOf l)) ∧ Below w.heap.size w w' := by
  have hl := h.le
  go_enter Tryd.func24, Tryd.ntmps24
  by_cases he : (chk l).2 = 0
  · have t0 : ((chk l).2 != 0) = false := by simp [he]
    obtain ⟨hpos, h64, hwell⟩ := chk_ok he
    have HWL := Lib.hid hwell
    have HE := Lib.hid (show depthOf l = (deepN l l.length).getD (l.length - 1) 0 from if_pos he)
    clear hwell
    go_wp2_with (first
      | (go_at_call 13; refine (proof_Check _ a c l w h hK).mono ?_; rintro e w1 ⟨rfl, hb1⟩)
      | ((with_reducible refine gate_m 28 (.tmp 18) (.tmp 18) rfl ?_); refine wpList_make_ev _ rfl (.tmp 18) (.tmp 18) 28 rfl _ _ rfl rfl _ (run_mk _ (enc := fun x => .int .i64 x) (fun _ => rfl) infoInt NoS _ _ _ _ l.length rfl rfl (by omega) (by omega) hb1.size) ?_; rintro v' w2 ⟨ho, hg, rfl⟩
         have HO0 : Hid (Own (Kd.int .i64) 3 NoS w2 w.heap.size (.slice (some ⟨w1.heap.size, 0, none⟩) l.length l.length) (deepRow l 0)) := ho
         have B2 := Lib.hid (hb1.grown hg hb1.size (fun k hk => by cases hk))
         clear ho hg)
      | fail)
    go_loopw [22] (fun i wr => ∃ j : Nat, j ≤ l.length ∧ i = .int .i64 j ∧ Hid (Own (Kd.int .i64) 3 NoS wr w.heap.size (.slice (some ⟨w1.heap.size, 0, none⟩) l.length l.length) (deepRow l j)) ∧ Hid (Below w.heap.size w wr)) (fun i _ => l.length - (intOf i).toNat)
    case atStart => exact ⟨0, by omega, rfl, HO0.out, B2.out⟩
    case round =>
      obtain ⟨j, hj, rfl, HO, HB⟩ := hrel
      have HL : Hid ((deepRow l j).length = l.length) := deepRow_length l hj
      have hG : w1.heap.size < wr.heap.size := (HO.out.lt w1.heap.size rfl).2
      obtain ⟨hat, hfr⟩ := HO.out.at HL.out
      by_cases hlt : j < l.length
      · obtain ⟨b, o, p, rfl, hbl, hr, IN⟩ := st_elem h hlt
        have HR := Lib.hid hr.refs
        have HW : Hid (∀ r ∈ l[j].refs, 0 ≤ r ∧ r < (j : Int)) := wellB_refs (HWL.out _ hlt)
        have HD := Lib.hid (deepRow_succ l hlt)
        have HDA : Hid (∀ m v, m < j → ((deepRow l j).set j v)[m]? = some ((deepN l j).getD m 0)) := fun m v hm => deepRow_at l v hj hm
        have HDB : Hid (∀ m, 0 ≤ (deepN l j).getD m 0 ∧ (deepN l j).getD m 0 ≤ 65536) := fun m => deepN_at_bound l (by omega) m
        have HMB : Hid (∀ rs, 0 ≤ maxD (deepN l j) rs ∧ maxD (deepN l j) rs ≤ 65536) := fun rs => maxD_bound _ _ (by omega) (fun x hx => by have := deepN_bound l j x hx; omega) rs
        have HMT := Lib.hid (fun rs k hk => maxD_take (deepN l j) rs (k := k) hk)
        generalize deepN l j = acc at *
        generalize deepRow l j = R at *
        generalize l[j] = x at *
        obtain ⟨ra, rc, sa, sc, aa, ac, ba, bc⟩ := p
        obtain ⟨i0, i1, i2, i3, i4, i5, i6, i7, i8, i9, i10, i11, i12, i13⟩ := IN.frame (HB.out.block _ hbl)
        have hrl := HR.out.le
        have hjR : j < R.length := by rw [HL.out]; exact hlt
        have u1 : ∀ ob, (wr.alloc ob).cell? ⟨w1.heap.size, j, none⟩ = some (.int .i64 R[j]) := fun ob => (World.cell?_of_block (Below.heap_alloc wr ob _ hG)).trans (hat j hjR)
        have u3 : ∀ ob, (wr.alloc ob).frozen? ⟨w1.heap.size, j, none⟩ = false := fun ob => ((HO.out.alloc ob).at HL.out).2 j
        have HS : Hid (∀ ob, Own (Kd.int .i64) 3 NoS ((wr.setCell ⟨w1.heap.size, j, none⟩ (.int .i64 1)).alloc ob) w.heap.size (.slice (some ⟨w1.heap.size, 0, none⟩) l.length l.length) (R.set j 1)) := fun ob => (HO.out.set HL.out j hlt 1).alloc ob
        have HBS : Hid (∀ ob, Below w.heap.size w ((wr.setCell ⟨w1.heap.size, j, none⟩ (.int .i64 1)).alloc ob)) := fun ob => below_alloc (HB.out.setCell (p := ⟨w1.heap.size, j, none⟩) (by show w.heap.size ≤ w1.heap.size; exact hb1.size) _) ob
        generalize R[j] = old at *
        dsimp only at *
        clear hr hat hfr IN
        go_wp2
        generalize hrs : x.refs = rs at *
        go_loopw [33] (fun i wr => ∃ k : Nat, k ≤ rs.length ∧ i = .int .i64 k ∧ Hid (Own (Kd.int .i64) 3 NoS wr w.heap.size (.slice (some ⟨w1.heap.size, 0, none⟩) l.length l.length) (R.set j (maxD acc (rs.take k) + 1))) ∧ Hid (Below w.heap.size w wr)) (fun i _ => rs.length - (intOf i).toNat)
        case atStart => exact ⟨0, by omega, rfl, HS.out _, HBS.out _⟩
        case round =>
          obtain ⟨k, hk, rfl, HO2, HB2⟩ := hrel
          have HC : ∀ v, (R.set j v).length = l.length := fun v => by rw [List.length_set]; exact HL.out
          by_cases hlt2 : k < rs.length
          · obtain ⟨b2, o2, rfl, _, _, hc⟩ := (HR.out.frame (Same.below HB2.out)).vals (by omega) 0
            have d := hc k hlt2
            rw [getD_at rs hlt2] at d
            have hr0 := HW.out rs[k] (List.getElem_mem hlt2)
            have HT := Lib.hid (HMT.out rs k hlt2)
            have hbd := HMB.out (rs.take k)
            generalize rs[k] = r at *
            obtain ⟨hr1, hr2⟩ := hr0
            obtain ⟨m, rfl⟩ := Int.eq_ofNat_of_zero_le hr1
            clear hc
            obtain ⟨hat, hfr⟩ := HO2.out.at (HC _)
            have hml : m < l.length := by omega
            have u1 := hat m (by rw [HC]; exact hml)
            have u2 := hat j (by rw [HC]; exact hlt)
            have u3 := hfr j
            have u4 : (R.set j (maxD acc (rs.take k) + 1))[m]'(by rw [HC]; exact hml) = acc.getD m 0 := by
              have := HDA.out m (maxD acc (rs.take k) + 1) (by omega)
              rw [List.getElem?_eq_getElem (by rw [HC]; exact hml)] at this
              simpa using this
            rw [u4] at u1
            rw [List.getElem_set_self] at u2
            have hda := HDB.out m
            have HF : Hid (∀ v, v = max (maxD acc (rs.take k) + 1) (acc.getD m 0 + 1) → Own (Kd.int .i64) 3 NoS (wr.setCell ⟨w1.heap.size, j, none⟩ (.int .i64 v)) w.heap.size (.slice (some ⟨w1.heap.size, 0, none⟩) l.length l.length) (R.set j (maxD acc (rs.take (k + 1)) + 1))) := fun v hv => by
              have := HO2.out.set (HC _) j hlt v
              rw [List.set_set] at this
              rw [HT.out, Int.toNat_natCast, show max (maxD acc (rs.take k)) (acc.getD m 0) + 1 = v from by omega]
              exact this
            have HBS2 : Hid (∀ v, Below w.heap.size w (wr.setCell ⟨w1.heap.size, j, none⟩ v)) := fun v => HB2.out.setCell (p := ⟨w1.heap.size, j, none⟩) (by show w.heap.size ≤ w1.heap.size; exact hb1.size) v
            generalize acc.getD m 0 = dm at *
            generalize maxD acc (rs.take k) = cur at *
            clear hat hfr u4
            go_wp2
            go_region_law (fail)
            all_goals
              go_wp2
              go_roundw
              case rel =>
                refine ⟨k + 1, by omega, by go_num, (HF.out _ ?_).drew, below_drewN (HBS2.out _) 1⟩
                split <;> omega
              case measure => simp [intOf]; omega
          · go_wp2
            go_roundw
            case rel =>
              refine ⟨j + 1, by omega, by go_num, ?_, HB2.out⟩
              show Own _ _ _ _ _ _ _
              obtain rfl : k = rs.length := by omega
              have := HO2.out
              rw [List.take_length] at this
              have hd := HD.out _ rfl
              rw [← hd]
              exact this
            case measure => simp [intOf]; omega
      · obtain rfl : j = l.length := by omega
        have hR : deepRow l l.length = deepN l l.length := by unfold deepRow; rw [Nat.sub_self, List.replicate_zero, List.append_nil]
        have hk := hat (l.length - 1) (by rw [HL.out]; omega)
        have hv : (deepRow l l.length)[l.length - 1]'(by rw [HL.out]; omega) = depthOf l := by
          rw [HE.out, List.getD_eq_getElem?_getD, List.getElem?_eq_getElem (by rw [deepN_length]; omega)]
          simp [hR]
        rw [hv] at hk
        have g0 : (0 : Int) ≤ (l.length : Int) - 1 := by omega
        have g1 : (l.length : Int) - 1 < (l.length : Int) := by omega
        have g2 : ((l.length : Int) - 1).toNat = l.length - 1 := by omega
        clear hat hfr hR hv
        go_wp2
        go_ret
        exact ⟨rfl, HB.out⟩
  · have t0 : ((chk l).2 != 0) = true := by simp [he]
    have HE := Lib.hid (show depthOf l = 0 from if_neg he)
    rw [HE.out]
    go_wp2_with (first
      | (go_at_call 13; refine (proof_Check _ a c l w h hK).mono ?_; rintro e w1 ⟨rfl, hb1⟩)
      | fail)
    go_ret
    exact ⟨rfl, hb1⟩
end Go.Proofs.Sat
