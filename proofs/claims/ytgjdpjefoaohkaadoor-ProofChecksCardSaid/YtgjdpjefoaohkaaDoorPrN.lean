/- The walk of proof.Needed. -/
import Derived.Test.YtgjdpjefoaohkaaDoorPrN0
set_option linter.unusedVariables false
set_option linter.unusedSimpArgs false
namespace Go.Proofs.Sat
open Go Go.RowKit
set_option maxRecDepth 20000 in
set_option maxHeartbeats 1000000 in
theorem proof_Needed (S : Nat → Prop) (a : Option Addr) (c : Nat) (l : List St) (w : World) (h : Rd kSt S w a c l) (hK : Kinds w) :
    Calls Tryd.prog 16 #[.slice a l.length c] w fun e w' => ∃ v, e = .returned v ∧ Own (Kd.int .i64) 3 NoS w' w.heap.size v (needed l) ∧ Below w.heap.size w w' ∧ ((chk l).2 ≠ 0 → v = .slice none 0 0) := by
  have hl := h.le
  go_enter Tryd.func16, Tryd.ntmps16
  by_cases he : (chk l).2 = 0
  · have t0 : ((chk l).2 != 0) = false := by simp [he]
    obtain ⟨hpos, h64, hwell⟩ := chk_ok he
    have HWL := Lib.hid hwell
    have HE := Lib.hid he
    clear hwell
    go_wp2_with (first
      | (go_at_call 13; refine (proof_Check _ a c l w h hK).mono ?_; rintro e w1 ⟨rfl, hb1⟩)
      | ((with_reducible refine gate_m 58 (.tmp 20) (.tmp 20) rfl ?_); refine wpList_make_ev _ rfl (.tmp 20) (.tmp 20) 58 rfl _ _ rfl rfl _ (run_mk _ (enc := fun x => .bool x) (fun _ => rfl) infoBool NoS _ _ _ _ l.length rfl rfl (by omega) (by omega) hb1.size) ?_; rintro v' w2 ⟨ho, hg, rfl⟩
         have HO := Lib.hid ho
         have B2 := Lib.hid (hb1.grown hg hb1.size (fun k hk => by cases hk))
         have zc : w2.cell? ⟨w1.heap.size, l.length - 1, none⟩ = some (.bool false) := ((ho.at (by rw [List.length_replicate])).1 (l.length - 1) (by rw [List.length_replicate]; omega)).trans (by rw [List.getElem_replicate])
         have zf : w2.frozen? ⟨w1.heap.size, l.length - 1, none⟩ = false := (ho.at (by simp)).2 _
         have g0 : (0 : Int) ≤ (l.length : Int) - 1 := by omega
         have g1 : (l.length : Int) - 1 < (l.length : Int) := by omega
         have g2 : ((l.length : Int) - 1).toNat = l.length - 1 := by omega
         clear ho hg)
      | fail)
    have H0 := Lib.hid (HO.out.set (by rw [List.length_replicate]) (l.length - 1) (by omega) true)
    have HB0 := Lib.hid (B2.out.setCell (p := ⟨w1.heap.size, l.length - 1, none⟩) (by show w.heap.size ≤ w1.heap.size; exact hb1.size) (.bool true))
    clear zc zf g0 g1 g2 HO B2
    go_loopw [6] (fun i wr => ∃ j : Nat, j ≤ l.length ∧ i = .int .i64 ((l.length : Int) - 1 - j) ∧ Hid (Own Kd.bool 4 NoS wr w.heap.size (.slice (some ⟨w1.heap.size, 0, none⟩) l.length l.length) (needK l j)) ∧ Hid (Below w.heap.size w wr)) (fun i _ => (intOf i + 1).toNat)
    case atStart => exact ⟨0, by omega, by simp, H0.out, HB0.out⟩
    case round =>
      obtain ⟨j, hj, rfl, HO, HB⟩ := hrel
      by_cases hlt : j < l.length
      · have hil : l.length - 1 - j < l.length := by omega
        obtain ⟨b, o, p, rfl, hbl, hr, IN⟩ := st_elem h hil
        obtain ⟨ra, rc, sa, sc, aa, ac, ba, bc⟩ := p
        have HR := Lib.hid hr.refs
        have i1 := (IN.frame (HB.out.block _ hbl)).c1
        have HW : Hid (∀ r ∈ l[l.length - 1 - j].refs, 0 ≤ r ∧ r < ((l.length - 1 - j : Nat) : Int)) := wellB_refs (HWL.out _ hil)
        have HN : Hid (needK l (j + 1) = curNeed (needK l j) ((needK l j).getD (l.length - 1 - j) false) l[l.length - 1 - j].refs l[l.length - 1 - j].refs.length) := needK_succ l j hil
        have HL := Lib.hid (needK_length l j)
        have hi : ((l.length : Int) - 1 - j) = ((l.length - 1 - j : Nat) : Int) := by omega
        have HI := Lib.hid hi
        clear hr IN
        rw [hi]
        dsimp only at i1 HR
        generalize l[l.length - 1 - j].refs = rs at *
        generalize needK l j = nd at *
        generalize hn : l.length - 1 - j = n at *
        have HNN := Lib.hid hn
        clear hn hi
        have hrl := HR.out.le
        generalize hbn : nd.getD n false = bn at *
        have HA0 : ∀ k, k ≤ rs.length → (curNeed nd bn rs k)[n]? = some bn := fun k _ => by
          rw [curNeed_at nd bn rs k n fun r hr => by have := HW.out r hr; omega]
          rw [List.getD_eq_getElem?_getD, List.getElem?_eq_getElem (by rw [HL.out]; exact hil)] at hbn
          rw [List.getElem?_eq_getElem (by rw [HL.out]; exact hil), ← hbn]; rfl
        clear hbn
        go_wp2
        go_loopw [40] (fun i wr => ∃ k : Nat, k ≤ rs.length ∧ i = .int .i64 k ∧ Hid (Own Kd.bool 4 NoS wr w.heap.size (.slice (some ⟨w1.heap.size, 0, none⟩) l.length l.length) (curNeed nd bn rs k)) ∧ Hid (Below w.heap.size w wr)) (fun i _ => rs.length - (intOf i).toNat)
        case atStart => exact ⟨0, by omega, rfl, by rw [curNeed_zero]; exact HO.out, HB.out⟩
        case round =>
          obtain ⟨k, hk, rfl, HO2, HB2⟩ := hrel
          have HC : Hid ((curNeed nd bn rs k).length = l.length) := (curNeed_length nd bn rs k).trans HL.out
          by_cases hlt2 : k < rs.length
          · obtain ⟨b2, o2, rfl, _, _, hc⟩ := (HR.out.frame (Same.below HB2.out)).vals (by omega) 0
            have d := hc k hlt2
            rw [getD_at rs hlt2] at d
            have hr0 := HW.out rs[k] (List.getElem_mem hlt2)
            have HS := Lib.hid (fun hq => curNeed_succ nd bn rs hlt2 hq)
            have HA : Hid ((curNeed nd bn rs k)[n]? = some bn) := HA0 k (by omega)
            generalize rs[k] = r at *
            obtain ⟨hr1, hr2⟩ := hr0
            obtain ⟨m, rfl⟩ := Int.eq_ofNat_of_zero_le hr1
            clear hc
            obtain ⟨hat, hfr⟩ := HO2.out.at HC.out
            have hm : m < (curNeed nd bn rs k).length := by rw [HC.out]; omega
            have u1 := hat m hm
            have u2 := hat n (by rw [HC.out]; exact hil)
            have u3 := hfr m
            have hnc : n < (curNeed nd bn rs k).length := by rw [HC.out]; exact hil
            have u4 : (curNeed nd bn rs k)[n] = bn := by have := HA.out; rw [List.getElem?_eq_getElem hnc] at this; simpa using this
            rw [u4] at u2
            have HS' : Hid (∀ c, (curNeed nd bn rs k)[m] = c → curNeed nd bn rs (k + 1) = (curNeed nd bn rs k).set m (c || bn)) := fun c hc => by subst hc; exact HS.out hm
            have HSET := Lib.hid (fun v => HO2.out.set HC.out m (by omega) v)
            have HBS : Hid (∀ v, Below w.heap.size w (wr.setCell ⟨w1.heap.size, m, none⟩ v)) := fun v => HB2.out.setCell (p := ⟨w1.heap.size, m, none⟩) (by show w.heap.size ≤ w1.heap.size; exact hb1.size) v
            generalize hcm : (curNeed nd bn rs k)[m] = cm at *
            have HSC := Lib.hid (HS'.out cm rfl)
            have HF : Hid (∀ v, v = (cm || bn) → Own Kd.bool 4 NoS (wr.setCell ⟨w1.heap.size, m, none⟩ (.bool v)) w.heap.size (.slice (some ⟨w1.heap.size, 0, none⟩) l.length l.length) (curNeed nd bn rs (k + 1))) := fun v hv => by subst hv; rw [HSC.out]; exact HSET.out _
            clear hat hfr hcm HS HS' u4
            have hml : m < l.length := by omega
            rcases Bool.eq_false_or_eq_true cm with rfl | rfl <;> rcases Bool.eq_false_or_eq_true bn with hb | hb <;> rw [hb] at u2
            all_goals
              go_wp2
              go_roundw
              case rel =>
                refine ⟨k + 1, by omega, by go_num, ?_, HBS.out _⟩
                exact HF.out _ (by rw [hb]; rfl)
              case measure => simp [intOf]; omega
          · go_wp2
            go_roundw
            case rel =>
              refine ⟨j + 1, by omega, by have := HNN.out; go_num, ?_, HB2.out⟩
              show Own _ _ _ _ _ _ _
              obtain rfl : k = rs.length := by omega
              rw [HN.out]
              exact HO2.out
            case measure => simp [intOf]
      · obtain rfl : j = l.length := by omega
        have hi : (l.length : Int) - 1 - l.length = -1 := by omega
        rw [hi]
        have HF : Hid (Own Kd.bool 4 NoS wr w.heap.size (.slice (some ⟨w1.heap.size, 0, none⟩) l.length l.length) (needAll l)) := HO.out
        have HL : Hid ((needAll l).length = l.length) := needK_length l l.length
        clear hi HO
        have HS0 : Hid (w1.heap.size < wr.heap.size) := ((HF.out.lt w1.heap.size rfl).2)
        have HX : Hid (needed l = trueK (needAll l) (needAll l).length) := by show _ = _; rw [HL.out]; exact if_pos HE.out
        obtain ⟨W1, hW⟩ : ∃ W1, W1 = wr := ⟨_, rfl⟩
        subst hW
        generalize needAll l = nds at *
        go_wp2
        go_loopw [9, 60] (fun v i wr => ∃ k : Nat, k ≤ l.length ∧ i = .int .i64 k ∧ Hid (Own (Kd.int .i64) 3 NoS wr W1.heap.size v (trueK nds k)) ∧ Hid (Below W1.heap.size W1 wr)) (fun _ i _ => l.length - (intOf i).toNat)
        case atStart => exact ⟨0, by omega, rfl, Own.nil _ _ _ _ _, Below.refl _ _⟩
        case round =>
          obtain ⟨k, hk, rfl, HO, HB1⟩ := hrel
          have hbk := trueK_length nds k
          by_cases hlt : k < l.length
          · obtain ⟨hat, hfr⟩ := (HF.out.below HB1.out).at HL.out
            have hkn : k < nds.length := by rw [HL.out]; exact hlt
            have d := hat k hkn
            have HT := Lib.hid (trueK_succ nds hkn)
            generalize nds[k] = bk at *
            clear hat hfr
            cases bk
            · go_wp2
              go_roundw
              case rel => exact ⟨k + 1, by omega, by go_num, by rw [HT.out]; exact HO.out, HB1.out⟩
              case measure => simp [intOf]; omega
            · go_wp2_with (first
                | (at_builtin; refine wpList_append_ev _ rfl _ _ 28 rfl _ _ rfl rfl _ (run_app1 wr infoInt rfl _ HO.out 3 [.int .i64 _] _ rfl (by omega) (by omega) HB1.out.size) ?_; rintro n2 w2 ⟨ow2, g2, v2, _⟩; have B2 := Lib.hid (HB1.out.grown g2 HB1.out.size (fun k hk => (HO.out.lt k hk).1)))
                | fail)
              go_roundw
              case rel =>
                refine ⟨k + 1, by omega, by go_num, ?_, B2.out⟩
                show Own _ _ _ _ _ _ _
                rw [HT.out]
                exact ow2
              case measure => simp [intOf]; omega
          · go_wp2
            go_ret
            obtain rfl : k = l.length := by omega
            have := HO.out
            refine ⟨_, rfl, ?_, below_both HB.out HB1.out, fun hq => absurd HE.out hq⟩
            rw [HX.out, HL.out]
            exact this.mono (fun _ _ h => h) HB.out.size
  · have t0 : ((chk l).2 != 0) = true := by simp [he]
    have HE := Lib.hid (show needed l = [] from if_neg he)
    rw [HE.out]
    go_wp2_with (first
      | (go_at_call 13; refine (proof_Check _ a c l w h hK).mono ?_; rintro e w1 ⟨rfl, hb1⟩)
      | fail)
    go_ret
    exact ⟨_, rfl, Own.nil _ _ _ _ _, hb1, fun _ => rfl⟩
end Go.Proofs.Sat
