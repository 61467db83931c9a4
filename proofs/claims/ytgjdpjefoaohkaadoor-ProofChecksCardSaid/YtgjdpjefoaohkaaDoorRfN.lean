/- The walk of the reference's Needed. -/
import Derived.Test.YtgjdpjefoaohkaaDoorPrH
set_option linter.unusedVariables false
set_option linter.unusedSimpArgs false
namespace Go.Proofs.Sat
open Go Go.RowKit
set_option maxRecDepth 20000 in
set_option maxHeartbeats 2000000 in
theorem ref34_Needed (S : Nat → Prop) (a : Option Addr) (c : Nat) (l : List St) (w : World) (h : Rd kSt S w a c l) :
    Calls Tryd.prog 17 #[.slice a l.length c] w fun e w' => ∃ v, e = .returned v ∧ Own (Kd.int .i64) 3 NoS w' w.heap.size v (needed l) ∧ Below w.heap.size w w' := by
  have hl := h.le
  go_enter Tryd.func17, Tryd.ntmps17
  by_cases he : (chk l).2 = 0
  · have t0 : ((chk l).2 != 0) = false := by simp [he]
    obtain ⟨hpos, h64, hwell⟩ := chk_ok he
    have HWL := Lib.hid hwell
    have HE := Lib.hid he
    clear hwell
    go_wp2_with (first
      | (go_at_call 23; refine (ref34_Check _ a c l w h).mono ?_; rintro e w1 ⟨rfl, hb1⟩)
      | ((with_reducible refine gate_m 58 (.tmp 18) (.tmp 18) rfl ?_); refine wpList_make_ev _ rfl (.tmp 18) (.tmp 18) 58 rfl _ _ rfl rfl _ (run_mk _ (enc := fun x => .bool x) (fun _ => rfl) infoBool NoS _ _ _ _ l.length rfl rfl (by omega) (by omega) hb1.size) ?_; rintro v' w2 ⟨ho, hg, rfl⟩
         have HO := Lib.hid ho
         have B2 := Lib.hid (hb1.grown hg hb1.size (fun k hk => by cases hk))
         have zc : w2.cell? ⟨w1.heap.size, l.length - 1, none⟩ = some (.bool false) := ((ho.at (by rw [List.length_replicate])).1 (l.length - 1) (by rw [List.length_replicate]; omega)).trans (by rw [List.getElem_replicate])
         have zf : w2.frozen? ⟨w1.heap.size, l.length - 1, none⟩ = false := (ho.at (by simp)).2 _
         have g0 : (0 : Int) ≤ (l.length : Int) - 1 := by omega
         have g1 : (l.length : Int) - 1 < (l.length : Int) := by omega
         have g2 : ((l.length : Int) - 1).toNat = l.length - 1 := by omega
         clear ho hg)
      | fail)
    have H0 := Lib.hid (HO.out.set (by rw [List.length_replicate]) (l.length - 1) (by omega) true)
    have HB0 := Lib.hid (B2.out.setCell (p := ⟨w1.heap.size, l.length - 1, none⟩) (by show w.heap.size ≤ w1.heap.size; exact hb1.size) (.bool true))
    clear zc zf g0 g1 g2 HO B2
    go_loopw [6] (fun i wr => ∃ j : Nat, j ≤ l.length ∧ i = .int .i64 ((l.length : Int) - 1 - j) ∧ Hid (Own Kd.bool 4 NoS wr w.heap.size (.slice (some ⟨w1.heap.size, 0, none⟩) l.length l.length) (needK l j)) ∧ Hid (Below w.heap.size w wr)) (fun i _ => (intOf i + 1).toNat)
    case atStart => exact ⟨0, by omega, by simp, H0.out, HB0.out⟩
    case round =>
      obtain ⟨j, hj, rfl, HO, HB⟩ := hrel
      by_cases hlt : j < l.length
      · have hil : l.length - 1 - j < l.length := by omega
        obtain ⟨b, o, p, rfl, hbl, hr, IN⟩ := st_elem h hil
        obtain ⟨ra, rc, sa, sc, aa, ac, ba, bc⟩ := p
        have HR := Lib.hid hr.refs
        have HIN := Lib.hid IN
        have hbl' := Lib.hid hbl
        have HW : Hid (∀ r ∈ l[l.length - 1 - j].refs, 0 ≤ r ∧ r < ((l.length - 1 - j : Nat) : Int)) := wellB_refs (HWL.out _ hil)
        have HN : Hid (needK l (j + 1) = curNeed (needK l j) ((needK l j).getD (l.length - 1 - j) false) l[l.length - 1 - j].refs l[l.length - 1 - j].refs.length) := needK_succ l j hil
        have HL := Lib.hid (needK_length l j)
        have hi : ((l.length : Int) - 1 - j) = ((l.length - 1 - j : Nat) : Int) := by omega
        clear hr IN hbl
        rw [hi]
        dsimp only at HR
        generalize hx : l[l.length - 1 - j] = x at *
        generalize needK l j = nd at *
        generalize hn : l.length - 1 - j = n at *
        have HNN := Lib.hid hn
        clear hn hi hx
        have hrl := HR.out.le
        generalize hbn : nd.getD n false = bn at *
        have HA0 : ∀ k, k ≤ x.refs.length → (curNeed nd bn x.refs k)[n]? = some bn := fun k _ => by
          rw [curNeed_at nd bn x.refs k n fun r hr => by have := HW.out r hr; omega]
          rw [List.getD_eq_getElem?_getD, List.getElem?_eq_getElem (by rw [HL.out]; exact hil)] at hbn
          rw [List.getElem?_eq_getElem (by rw [HL.out]; exact hil), ← hbn]; rfl
        have HA0' := Lib.hid HA0
        clear hbn HA0
        go_wp2
        go_loopw [7] (fun i wr => ∃ k : Nat, k ≤ x.refs.length ∧ i = .int .i64 k ∧ Hid (bn = false → k = 0) ∧ Hid (Own Kd.bool 4 NoS wr w.heap.size (.slice (some ⟨w1.heap.size, 0, none⟩) l.length l.length) (curNeed nd bn x.refs k)) ∧ Hid (Below w.heap.size w wr)) (fun i _ => x.refs.length - (intOf i).toNat)
        case atStart => exact ⟨0, by omega, rfl, fun _ => rfl, by rw [curNeed_zero]; exact HO.out, HB.out⟩
        case round =>
          obtain ⟨k, hk, rfl, HK0, HO2, HB2⟩ := hrel
          have HC : Hid ((curNeed nd bn x.refs k).length = l.length) := (curNeed_length nd bn x.refs k).trans HL.out
          have i1 := (HIN.out.frame (HB2.out.block _ hbl'.out)).c1
          dsimp only at i1
          have FIN : Hid (k = x.refs.length ∨ bn = false → Own Kd.bool 4 NoS wr w.heap.size (.slice (some ⟨w1.heap.size, 0, none⟩) l.length l.length) (needK l (j + 1))) := fun hq => by
            rw [HN.out]
            rcases hq with hq | hq
            · subst hq; exact HO2.out
            · have := HO2.out
              subst hq
              have e : curNeed nd false x.refs x.refs.length = curNeed nd false x.refs k := by simp [curNeed]
              rw [e]; exact this
          by_cases hlt2 : k < x.refs.length
          · obtain ⟨b2, o2, rfl, _, _, hc⟩ := (HR.out.frame (Same.below HB2.out)).vals (by omega) 0
            have d := hc k hlt2
            rw [getD_at x.refs hlt2] at d
            have hr0 := HW.out x.refs[k] (List.getElem_mem hlt2)
            have HS := Lib.hid (fun hq => curNeed_succ nd bn x.refs hlt2 hq)
            have HA : Hid ((curNeed nd bn x.refs k)[n]? = some bn) := HA0'.out k (by omega)
            generalize x.refs[k] = r at *
            obtain ⟨hr1, hr2⟩ := hr0
            obtain ⟨m, rfl⟩ := Int.eq_ofNat_of_zero_le hr1
            clear hc
            obtain ⟨hat, hfr⟩ := HO2.out.at HC.out
            have hm : m < (curNeed nd bn x.refs k).length := by rw [HC.out]; omega
            have u1 := hat m hm
            have u2 := hat n (by rw [HC.out]; exact hil)
            have u3 := hfr m
            have hnc : n < (curNeed nd bn x.refs k).length := by rw [HC.out]; exact hil
            have u4 : (curNeed nd bn x.refs k)[n] = bn := by have := HA.out; rw [List.getElem?_eq_getElem hnc] at this; simpa using this
            rw [u4] at u2
            have HSET := Lib.hid (fun v => HO2.out.set HC.out m (by omega) v)
            have HBS : Hid (∀ v, Below w.heap.size w (wr.setCell ⟨w1.heap.size, m, none⟩ v)) := fun v => HB2.out.setCell (p := ⟨w1.heap.size, m, none⟩) (by show w.heap.size ≤ w1.heap.size; exact hb1.size) v
            have HSC : Hid (bn = true → curNeed nd bn x.refs (k + 1) = (curNeed nd bn x.refs k).set m true) := fun hq => by
              have := HS.out hm
              rw [this]
              subst hq
              rw [Bool.or_true]
              rfl
            generalize (curNeed nd bn x.refs k)[m] = cm at *
            clear hat hfr HS u4
            have hml : m < l.length := by omega
            rcases Bool.eq_false_or_eq_true bn with hb | hb
            · rw [hb] at u2
              go_wp2
              go_roundw
              case rel =>
                refine ⟨k + 1, by omega, by go_num, (fun hq => by rw [hb] at hq; cases hq), ?_, HBS.out _⟩
                show Own _ _ _ _ _ _ _
                rw [HSC.out hb]
                exact HSET.out _
              case measure => simp [intOf]; omega
            · rw [hb] at u2
              go_wp2
              go_roundw
              case rel => exact ⟨j + 1, by omega, by have := HNN.out; go_num, FIN.out (.inr hb), HB2.out⟩
              case measure => simp [intOf]
          · have hkk : k = x.refs.length := by omega
            have FIN' := Lib.hid (FIN.out (.inl hkk))
            go_wp2
            go_roundw
            case rel => exact ⟨j + 1, by omega, by have := HNN.out; go_num, FIN'.out, HB2.out⟩
            case measure => simp [intOf]
      · obtain rfl : j = l.length := by omega
        have hi : (l.length : Int) - 1 - l.length = -1 := by omega
        rw [hi]
        have HF : Hid (Own Kd.bool 4 NoS wr w.heap.size (.slice (some ⟨w1.heap.size, 0, none⟩) l.length l.length) (needAll l)) := HO.out
        have HL : Hid ((needAll l).length = l.length) := needK_length l l.length
        clear hi HO
        have HX : Hid (needed l = trueK (needAll l) (needAll l).length) := by show _ = _; rw [HL.out]; exact if_pos HE.out
        obtain ⟨W1, hW⟩ : ∃ W1, W1 = wr := ⟨_, rfl⟩
        subst hW
        generalize needAll l = nds at *
        go_wp2
        go_loopw [8, 9] (fun v i wr => ∃ k : Nat, k ≤ l.length ∧ i = .int .i64 k ∧ Hid (Own (Kd.int .i64) 3 NoS wr W1.heap.size v (trueK nds k)) ∧ Hid (Below W1.heap.size W1 wr)) (fun _ i _ => l.length - (intOf i).toNat)
        case atStart => exact ⟨0, by omega, rfl, Own.nil _ _ _ _ _, Below.refl _ _⟩
        case round =>
          obtain ⟨k, hk, rfl, HO, HB1⟩ := hrel
          have hbk := trueK_length nds k
          by_cases hlt : k < l.length
          · obtain ⟨hat, hfr⟩ := (HF.out.below HB1.out).at HL.out
            have hkn : k < nds.length := by rw [HL.out]; exact hlt
            have d := hat k hkn
            have HT := Lib.hid (trueK_succ nds hkn)
            generalize nds[k] = bk at *
            clear hat hfr
            cases bk
            · go_wp2
              go_roundw
              case rel => exact ⟨k + 1, by omega, by go_num, by rw [HT.out]; exact HO.out, HB1.out⟩
              case measure => simp [intOf]; omega
            · go_wp2_with (first
                | (at_builtin; refine wpList_append_ev _ rfl _ _ 28 rfl _ _ rfl rfl _ (run_app1 wr infoInt rfl _ HO.out 3 [.int .i64 _] _ rfl (by omega) (by omega) HB1.out.size) ?_; rintro n2 w2 ⟨ow2, g2, v2, _⟩; have B2 := Lib.hid (HB1.out.grown g2 HB1.out.size (fun k hk => (HO.out.lt k hk).1)))
                | fail)
              go_roundw
              case rel =>
                refine ⟨k + 1, by omega, by go_num, ?_, B2.out⟩
                show Own _ _ _ _ _ _ _
                rw [HT.out]
                exact ow2
              case measure => simp [intOf]; omega
          · go_wp2
            go_ret
            obtain rfl : k = l.length := by omega
            have := HO.out
            refine ⟨_, rfl, ?_, below_both HB.out HB1.out⟩
            rw [HX.out, HL.out]
            exact this.mono (fun _ _ h => h) HB.out.size
  · have t0 : ((chk l).2 != 0) = true := by simp [he]
    have HE := Lib.hid (show needed l = [] from if_neg he)
    rw [HE.out]
    go_wp2_with (first
      | (go_at_call 23; refine (ref34_Check _ a c l w h).mono ?_; rintro e w1 ⟨rfl, hb1⟩)
      | fail)
    go_ret
    exact ⟨_, rfl, Own.nil _ _ _ _ _, hb1⟩
end Go.Proofs.Sat
