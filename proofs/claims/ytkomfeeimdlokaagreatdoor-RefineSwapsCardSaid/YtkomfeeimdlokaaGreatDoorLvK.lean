/- The walk of the reference's Check. -/
import Derived.Test.YtkomfeeimdlokaaGreatDoorLvI
import Derived.Test.YtkomfeeimdlokaaGreatDoorIsaK
set_option linter.unusedVariables false
set_option linter.unusedSimpArgs false
namespace Go.Proofs.Sat
open Go Go.RowKit
set_option maxRecDepth 20000 in
set_option maxHeartbeats 2000000 in
theorem ref50_Check (S : Nat → Prop) (c : Cd) (p : CdAt) (w : World) (h : CdRd S w c p) : Calls Tryz.prog 44 #[cdVal c p] w fun e w' => e = .returned (.int .i64 (cdErr c)) ∧ Below w.heap.size w w' := by
  obtain ⟨ia, ic, oa, oc⟩ := p
  have BW := Lib.hid (below_alloc (Below.refl w.heap.size w) (.cells #[.int .i64 c.width, .int .i64 c.regs, .slice ia c.ins.length ic, .slice oa c.out.length oc] 25))
  have KC := Lib.hid (heap_alloc_new w (.cells #[.int .i64 c.width, .int .i64 c.regs, .slice ia c.ins.length ic, .slice oa c.out.length oc] 25))
  have HI : Hid (Rd kIn S w ia ic c.ins) := h.ins
  have HO : Hid (Rd (Kd.int .i64) S w oa oc c.out) := h.out
  have hil := h.ins.le
  have hol := h.out.le
  unfold cdVal
  go_enter Tryz.func44, Tryz.ntmps44
  by_cases hw : 1 ≤ c.width ∧ c.width ≤ 64
  case neg =>
    have HE : Hid (cdErr c = 3 ∧ cdIx c = -1) := by show _ ∧ _; unfold cdErr cdIx; rw [if_pos hw, if_pos hw]; exact ⟨rfl, rfl⟩
    by_cases h1 : c.width < 1
    · go_wp2
      go_ret
      exact ⟨ret_int HE.out.1.symm, BW.out⟩
    · have h2 : 64 < c.width := by omega
      go_wp2
      go_ret
      exact ⟨ret_int HE.out.1.symm, BW.out⟩
  by_cases hr : 1 ≤ c.regs ∧ c.regs ≤ 8
  case neg =>
    have HE : Hid (cdErr c = 18 ∧ cdIx c = -1) := by show _ ∧ _; unfold cdErr cdIx; rw [if_neg (not_not_intro hw), if_neg (not_not_intro hw), if_pos hr, if_pos hr]; exact ⟨rfl, rfl⟩
    obtain ⟨hw1, hw2⟩ := hw
    by_cases h1 : c.regs < 1
    · go_wp2
      go_ret
      exact ⟨ret_int HE.out.1.symm, BW.out⟩
    · have h2 : 8 < c.regs := by omega
      go_wp2
      go_ret
      exact ⟨ret_int HE.out.1.symm, BW.out⟩
  by_cases hl : 256 < c.ins.length
  · have HE : Hid (cdErr c = 7 ∧ cdIx c = -1) := by show _ ∧ _; unfold cdErr cdIx; rw [if_neg (not_not_intro hw), if_neg (not_not_intro hw), if_neg (not_not_intro hr), if_neg (not_not_intro hr), if_pos hl, if_pos hl]; exact ⟨rfl, rfl⟩
    obtain ⟨hw1, hw2⟩ := hw
    obtain ⟨hr1, hr2⟩ := hr
    go_wp2
    go_ret
    exact ⟨ret_int HE.out.1.symm, BW.out⟩
  have HE0 : Hid (cdErr c = (if insErrs c.width c.regs c.ins ≠ 0 then insErrs c.width c.regs c.ins else if c.out.all (fun r => inR r c.regs) = false then 18 else if ¬ c.out.Nodup then 9 else 0)
      ∧ cdIx c = (if insErrs c.width c.regs c.ins ≠ 0 then ((insIx c.width c.regs c.ins : Nat) : Int) else if c.out.all (fun r => inR r c.regs) = false then -1 else if ¬ c.out.Nodup then -1 else 0)) := by
    show _ ∧ _
    unfold cdErr cdIx
    rw [if_neg (not_not_intro hw), if_neg (not_not_intro hw), if_neg (not_not_intro hr), if_neg (not_not_intro hr), if_neg hl, if_neg hl]
    exact ⟨rfl, rfl⟩
  obtain ⟨hw1, hw2⟩ := hw
  obtain ⟨hr1, hr2⟩ := hr
  go_wp2
  go_loopw [3] (fun i wr => ∃ k : Nat, k ≤ c.ins.length ∧ i = .int .i64 k ∧ Hid (∀ j (hj : j < c.ins.length), j < k → insErr c.width c.regs c.ins[j] = 0) ∧ Hid (Below w.heap.size w wr) ∧ Hid (wr.heap[w.heap.size]? = some (.cells #[.int .i64 c.width, .int .i64 c.regs, .slice ia c.ins.length ic, .slice oa c.out.length oc] 25 (0, 0)))) (fun i _ => c.ins.length - (intOf i).toNat)
  case atStart => exact ⟨0, by omega, rfl, fun j hj h => by omega, BW.out, KC.out⟩
  case round =>
    obtain ⟨k, hk9, rfl, hv, HB, KC1⟩ := hrel
    obtain ⟨z0, z1, z2, z3⟩ := cd_block4 KC1.out
    by_cases hlt : k < c.ins.length
    · obtain ⟨b, o, rfl, -, hbw, hat⟩ := in_elem (HI.out.frame (Same.below HB.out)) hlt
      have HAT := Lib.hid hat
      obtain ⟨c0, c1, c2, c3, c4, c5⟩ := hat
      have HB5 := Lib.hid (fun (hq : insErr c.width c.regs c.ins[k] ≠ 0) => show cdErr c = insErr c.width c.regs c.ins[k] ∧ cdIx c = (k : Int) from by
        have h1 := insErrs_at hlt hv.out hq
        have h2 := insIx_at hlt hv.out hq
        rw [HE0.out.1, HE0.out.2, h1, h2, if_pos hq, if_pos hq]
        exact ⟨rfl, rfl⟩)
      have HV5 := Lib.hid (fun (hq : insErr c.width c.regs c.ins[k] = 0) j (hj : j < c.ins.length) (hjk : j < k + 1) => show insErr c.width c.regs c.ins[j] = 0 from by
        rcases Nat.lt_or_ge j k with h' | h'
        · exact hv.out j hj h'
        · obtain rfl : j = k := by omega
          exact hq)
      generalize c.ins[k] = x at *
      have CX := Lib.hid (fun W => ref50_ins c ⟨some ⟨b, o, none⟩, ic, oa, oc⟩ x W hw1 hw2)
      go_wp2_with fail
      go_region_held3 (fun w' => (w'.cell? ⟨w.heap.size, 0, none⟩ = some (.int .i64 c.width) ∧ w'.cell? ⟨w.heap.size, 1, none⟩ = some (.int .i64 c.regs) ∧ w'.cell? ⟨w.heap.size, 2, none⟩ = some (.slice (some ⟨b, o, none⟩) c.ins.length ic) ∧ w'.cell? ⟨w.heap.size, 3, none⟩ = some (.slice oa c.out.length oc)) ∧
        w'.cell? ⟨b, o + k * 6, none⟩ = some (.int .i64 x.op) ∧ w'.cell? ⟨b, o + k * 6 + 1, none⟩ = some (.int .i64 x.dst) ∧ w'.cell? ⟨b, o + k * 6 + 2, none⟩ = some (.int .i64 x.a) ∧ w'.cell? ⟨b, o + k * 6 + 3, none⟩ = some (.int .i64 x.b) ∧ w'.cell? ⟨b, o + k * 6 + 4, none⟩ = some (.int .i64 x.c) ∧ w'.cell? ⟨b, o + k * 6 + 5, none⟩ = some (.int .u64 x.imm))
        (first | exact ⟨⟨z0, z1, z2, z3⟩, c0, c1, c2, c3, c4, c5⟩ | exact ⟨cd_block4 KC9.out, d0, d1, d2, d3, d4, d5⟩)
        (first
        | (go_at_call 71; refine (CX.out _).mono ?_; rintro e w9 ⟨rfl, b9⟩; have B9 := Lib.hid (below_both HB.out (below_both (below_drewN (Below.refl _ wr) 1) b9)); have KC9 := Lib.hid (block_below (below_both (below_drewN (Below.refl _ wr) 1) b9) KC1.out); have hat9 := HAT.out.frame (w' := w9) (by have := b9.block b hbw; exact this); obtain ⟨d0, d1, d2, d3, d4, d5⟩ := hat9)
        | fail)
      clear c0 c1 c2 c3 c4 c5 z0 z1 z2 z3
      by_cases hq : insErr c.width c.regs x = 0
      · have t0 : (insErr c.width c.regs x != 0) = false := by simpa using hq
        have HV6 := Lib.hid (HV5.out hq)
        clear hq
        generalize insErr c.width c.regs x = er at *
        go_wp2_with fail
        go_roundw
        case rel => exact ⟨k + 1, by omega, by go_num, HV6.out, B9.out, KC9.out⟩
        case measure => simp [intOf]; omega
      · have t0 : (insErr c.width c.regs x != 0) = true := by simpa using hq
        have HE := Lib.hid (HB5.out hq)
        clear hq
        go_wp2_with fail
        go_ret
        exact ⟨ret_int HE.out.1.symm, B9.out⟩
    · have HE1 : Hid (cdErr c = (if c.out.all (fun r => inR r c.regs) = false then 18 else if ¬ c.out.Nodup then 9 else 0) ∧ cdIx c = (if c.out.all (fun r => inR r c.regs) = false then -1 else if ¬ c.out.Nodup then -1 else 0)) := by
        have h0 : insErrs c.width c.regs c.ins = 0 := insErrs_zero.2 fun y hy => by
          obtain ⟨j, hj, rfl⟩ := List.getElem_of_mem hy
          exact hv.out j hj (by omega)
        show _ ∧ _
        rw [HE0.out.1, HE0.out.2, if_neg (not_not_intro h0), if_neg (not_not_intro h0)]
        exact ⟨rfl, rfl⟩
      have KC2 := Lib.hid KC1.out
      clear z0 z1 z2 z3
      obtain ⟨w2, hw2'⟩ : ∃ w2, w2 = wr := ⟨_, rfl⟩
      subst hw2'
      obtain ⟨z0, z1, z2, z3⟩ := cd_block4 KC2.out
      go_wp2
      go_loopw [5] (fun i wr => ∃ k : Nat, k ≤ c.out.length ∧ i = .int .i64 k ∧ Hid (∀ j (hj : j < c.out.length), j < k → inR c.out[j] c.regs = true) ∧ Hid (Drawn w2 wr)) (fun i _ => c.out.length - (intOf i).toNat)
      case atStart => exact ⟨0, by omega, rfl, fun j hj h => by omega, Drawn.refl _⟩
      case round =>
        clear z0 z1 z2 z3
        obtain ⟨m, hm9, rfl, hv2, HD⟩ := hrel
        obtain ⟨z0, z1, z2, z3⟩ := cd_block4 (HD.out.heap KC2.out)
        by_cases hlt2 : m < c.out.length
        · obtain ⟨b, o, rfl, -, -, hc⟩ := ((HO.out.frame (Same.below HB.out)).frame (Same.drawn _ HD.out)).vals (by omega) 0
          have d5 := hc m hlt2
          rw [getD_at _ hlt2] at d5
          clear hc
          have HB5 := Lib.hid (fun (hq : inR c.out[m] c.regs = false) => show cdErr c = 18 ∧ cdIx c = -1 from by
            have h1 : c.out.all (fun r => inR r c.regs) = false := List.all_eq_false.2 ⟨_, List.getElem_mem hlt2, by simp [hq]⟩
            rw [HE1.out.1, HE1.out.2, if_pos h1, if_pos h1]
            exact ⟨rfl, rfl⟩)
          have HV5 := Lib.hid (fun (hq : inR c.out[m] c.regs = true) j (hj : j < c.out.length) (hjk : j < m + 1) => show inR c.out[j] c.regs = true from by
            rcases Nat.lt_or_ge j m with h' | h'
            · exact hv2.out j hj h'
            · obtain rfl : j = m := by omega
              exact hq)
          generalize c.out[m] = r at *
          go_wp2_with fail
          go_quiet ((go_at_call 72; exact Calls.quiet_of (ref50_in r c.regs _)))
          have D6 := Lib.hid (HD.out.trans (Drawn.of wr nq))
          cases hq : inR r c.regs
          · have HE := Lib.hid (HB5.out hq)
            go_wp2
            go_ret
            exact ⟨ret_int HE.out.1.symm, HB.out.trans (D6.out.below _)⟩
          · have HV6 := Lib.hid (HV5.out hq)
            go_wp2
            go_roundw
            case rel => exact ⟨m + 1, by omega, by go_num, HV6.out, D6.out⟩
            case measure => simp [intOf]; omega
        · have HE2 : Hid (cdErr c = (if ¬ c.out.Nodup then 9 else 0)) := by
            have h1 : ¬ c.out.all (fun r => inR r c.regs) = false := by
              rw [Bool.not_eq_false, List.all_eq_true]
              intro y hy
              obtain ⟨j, hj, rfl⟩ := List.getElem_of_mem hy
              exact hv2.out j hj (by omega)
            show _ = _
            rw [HE1.out.1, if_neg h1]
          have KC3 := Lib.hid (HD.out.heap KC2.out)
          have HO3 := Lib.hid ((HO.out.frame (Same.below HB.out)).frame (Same.drawn _ HD.out))
          have B3 := Lib.hid (HB.out.trans (HD.out.below _))
          obtain ⟨w3, hw3'⟩ : ∃ w3, w3 = wr := ⟨_, rfl⟩
          subst hw3'
          go_wp2
          go_loopw [6] (fun i wr => ∃ k : Nat, k ≤ c.out.length ∧ i = .int .i64 k ∧ Hid ((c.out.take k).Nodup) ∧ Hid (Drawn w3 wr)) (fun i _ => c.out.length - (intOf i).toNat)
          case atStart => exact ⟨0, by omega, rfl, by simp [Hid], Drawn.refl _⟩
          case round =>
            clear z0 z1 z2 z3
            obtain ⟨n, hn9, rfl, hv3, HD3⟩ := hrel
            have KC4 := Lib.hid (HD3.out.heap KC3.out)
            obtain ⟨z0, z1, z2, z3⟩ := cd_block4 KC4.out
            by_cases hlt3 : n < c.out.length
            · obtain ⟨b, o, rfl, -, -, hc⟩ := (HO3.out.frame (Same.drawn _ HD3.out)).vals (by omega) 0
              have HN := Lib.hid (nodup_take_succ hlt3 hv3.out)
              have d5 := hc n hlt3
              rw [getD_at _ hlt3] at d5
              have HC := Lib.hid hc
              have HR := Lib.hid (show c.out[n] = c.out[n] from rfl)
              clear hc
              obtain ⟨w4, hw4'⟩ : ∃ w4, w4 = wr := ⟨_, rfl⟩
              subst hw4'
              go_wp2_with fail
              go_loopw [7] (fun i wr => ∃ k : Nat, k ≤ n ∧ i = .int .i64 k ∧ Hid (∀ j (hj : j < c.out.length), j < k → c.out[j] ≠ c.out[n]) ∧ Hid (Drawn w4 wr)) (fun i _ => n - (intOf i).toNat)
              case atStart => exact ⟨0, by omega, rfl, fun j hj h => by omega, Drawn.refl _⟩
              case round =>
                clear z0 z1 z2 z3 d5
                obtain ⟨m, hm9, rfl, hv4, HD4⟩ := hrel
                obtain ⟨z0, z1, z2, z3⟩ := cd_block4 (HD4.out.heap KC4.out)
                have d5 := HD4.out.cell (HC.out n hlt3)
                rw [getD_at _ hlt3] at d5
                by_cases hlt4 : m < n
                · have hlt5 : m < c.out.length := by omega
                  have d6 := HD4.out.cell (HC.out m hlt5)
                  rw [getD_at _ hlt5] at d6
                  go_wp2_with fail
                  go_quiet (fail)
                  have D6 := Lib.hid (HD4.out.trans (Drawn.of wr nq))
                  by_cases hq : c.out[m] = c.out[n]
                  · have HE : Hid (cdErr c = 9) := by
                      have h1 : ¬ c.out.Nodup := fun hh => by
                        exact List.pairwise_iff_getElem.1 hh m n hlt5 hlt3 hlt4 hq
                      show _ = _
                      rw [HE2.out, if_pos h1]
                    have t0 : (c.out[m] == c.out[n]) = true := by simpa using hq
                    clear hq
                    go_wp2
                    go_ret
                    exact ⟨ret_int HE.out.symm, B3.out.trans ((HD3.out.trans D6.out).below _)⟩
                  · have t0 : (c.out[m] == c.out[n]) = false := by simpa using hq
                    have HV6 : Hid (∀ j (hj : j < c.out.length), j < m + 1 → c.out[j] ≠ c.out[n]) := fun j hj hjk => by
                      rcases Nat.lt_or_ge j m with h' | h'
                      · exact hv4.out j hj h'
                      · obtain rfl : j = m := by omega
                        exact hq
                    clear hq
                    go_wp2
                    go_roundw
                    case rel => exact ⟨m + 1, by omega, by go_num, HV6.out, D6.out⟩
                    case measure => simp [intOf]; omega
                · have HV : Hid ((c.out.take (n + 1)).Nodup) := HN.out.2 (by
                    rw [Bool.eq_false_iff]
                    intro hc
                    obtain ⟨j, hj, e⟩ := List.getElem_of_mem (List.contains_iff_mem.1 hc)
                    rw [List.getElem_take] at e
                    simp at hj
                    exact hv4.out j (by omega) (by omega) e)
                  go_wp2_with fail
                  go_roundw
                  case rel => exact ⟨n + 1, by omega, by go_num, HV.out, HD3.out.trans HD4.out⟩
                  case measure => simp [intOf]; omega
            · have HE : Hid (cdErr c = 0) := by
                have h1 : c.out.Nodup := by have := hv3.out; rwa [List.take_of_length_le (by omega)] at this
                show _ = _
                rw [HE2.out, if_neg (not_not_intro h1)]
              go_wp2_with fail
              go_ret
              exact ⟨ret_int HE.out.symm, B3.out.trans (HD3.out.below _)⟩
end Go.Proofs.Sat
