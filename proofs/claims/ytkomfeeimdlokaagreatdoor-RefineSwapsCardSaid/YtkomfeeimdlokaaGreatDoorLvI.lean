/- The walk of the reference's ins. -/
import Derived.Test.YtkomfeeimdlokaaGreatDoorLvU
import Derived.Test.YtkomfeeimdlokaaGreatDoorIsaI
set_option linter.unusedVariables false
set_option linter.unusedSimpArgs false
namespace Go.Proofs.Sat
open Go Go.RowKit
theorem usesI_get (x : In) {k sn : Nat} (hs : srcN x.op = sn) (hk : k < sn) (h3 : k < 3) (h : k < (usesI x).length) : (usesI x)[k] = [x.a, x.b, x.c].getD k 0 := by
  simp [usesI, h3]
theorem restI_zero {x : In} {sn : Nat} (hs : srcN x.op = sn) (h3 : sn ≤ 3) : (restI x).all (fun r => r == 0) = true ↔ (∀ j, sn ≤ j → j < 3 → [x.a, x.b, x.c].getD j 0 = 0) ∧ (x.op = 0 → x.dst = 0) := by
  unfold restI
  rw [hs, Int.toNat_natCast, List.all_append, Bool.and_eq_true]
  have e1 : (List.drop sn [x.a, x.b, x.c]).all (fun r => r == 0) = true ↔ ∀ j, sn ≤ j → j < 3 → [x.a, x.b, x.c].getD j 0 = 0 := by
    rw [List.all_eq_true]
    constructor
    · intro h j h1 h2
      have hl : j - sn < (List.drop sn [x.a, x.b, x.c]).length := by simp; omega
      have := h _ (List.getElem_mem hl)
      rw [List.getElem_drop] at this
      have e : sn + (j - sn) = j := by omega
      simp only [e] at this
      rw [List.getD_eq_getElem?_getD, List.getElem?_eq_getElem (by simpa using h2)]
      simpa using this
    · intro h r hr
      obtain ⟨i, hi, rfl⟩ := List.getElem_of_mem hr
      rw [List.getElem_drop]
      have hi' : sn + i < 3 := by simp at hi; omega
      have := h (sn + i) (by omega) hi'
      rw [List.getD_eq_getElem?_getD, List.getElem?_eq_getElem (by simpa using hi')] at this
      simpa using this
  rw [e1]
  by_cases h0 : x.op = 0 <;> simp [h0]
set_option maxRecDepth 20000 in
set_option maxHeartbeats 2000000 in
theorem ref50_ins (c : Cd) (p : CdAt) (x : In) (w : World) (hw1 : 1 ≤ c.width) (hw2 : c.width ≤ 64) : Calls Tryz.prog 71 #[cdVal c p, inVal x] w fun e w' => e = .returned (.int .i64 (insErr c.width c.regs x)) ∧ Below w.heap.size w w' := by
  have BW := Lib.hid (below_alloc (below_alloc (Below.refl w.heap.size w) (.cells #[.int .i64 c.width, .int .i64 c.regs, .slice p.ia c.ins.length p.ic, .slice p.oa c.out.length p.oc] 25)) (.cells #[.int .i64 x.op, .int .i64 x.dst, .int .i64 x.a, .int .i64 x.b, .int .i64 x.c, .int .u64 x.imm] 50))
  have KC := Lib.hid (block_alloc (heap_alloc_new w (.cells #[.int .i64 c.width, .int .i64 c.regs, .slice p.ia c.ins.length p.ic, .slice p.oa c.out.length p.oc] 25)) (.cells #[.int .i64 x.op, .int .i64 x.dst, .int .i64 x.a, .int .i64 x.b, .int .i64 x.c, .int .u64 x.imm] 50))
  have KX := Lib.hid (block_at1 w (.cells #[.int .i64 c.width, .int .i64 c.regs, .slice p.ia c.ins.length p.ic, .slice p.oa c.out.length p.oc] 25) (.cells #[.int .i64 x.op, .int .i64 x.dst, .int .i64 x.a, .int .i64 x.b, .int .i64 x.c, .int .u64 x.imm] 50))
  unfold cdVal inVal
  go_enter Tryz.func71, Tryz.ntmps71
  go_wp2_with fail
  refine (ref50_Sources x.op _).mono ?_
  rintro e w1 ⟨rfl, d1⟩
  have B1 := Lib.hid (BW.out.trans (d1.below _))
  have KC1 := Lib.hid (d1.heap KC.out)
  have KX1 := Lib.hid (d1.heap KX.out)
  obtain ⟨x0, x1, x2, x3, x4, x5⟩ := in_block KX1.out
  obtain ⟨k0, k1⟩ := cd_block KC1.out
  have hs := srcN_le x.op
  clear d1 BW KC KX
  cases hk : knownI x.op
  · have hneg : srcN x.op < 0 := by
      unfold knownI at hk
      rw [decide_eq_false_iff_not] at hk
      unfold srcN
      rw [if_pos (by omega)]
      omega
    have HE : Hid (insErr c.width c.regs x = 4) := by show _ = _; unfold insErr; rw [if_pos hk]
    go_wp2
    go_ret
    exact ⟨ret_int HE.out.symm, B1.out⟩
  have hnn := srcN_known hk
  obtain ⟨sn, hsn⟩ := Int.eq_ofNat_of_zero_le hnn
  have hsn3 : sn ≤ 3 := by omega
  rw [hsn]
  have HSN := Lib.hid hsn
  have hd0 : defsI x = true ↔ x.op ≠ 0 := by
    have := (decide_eq_true_iff (p := 0 ≤ x.op ∧ x.op ≤ 19)).1 hk
    unfold defsI
    rw [decide_eq_true_iff]
    omega
  have HD0 := Lib.hid hd0
  have hlt : decide ((sn : Int) < 0) = false := decide_eq_false (by omega)
  clear hs hnn hsn hd0
  go_upto_region 4 with fail
  go_cut [6] (fun s6 wx => ∃ g, s6 = .slice (some ⟨g, 0, none⟩) 3 3 ∧ Hid (wx.heap[g]? = some (.cells #[.int .i64 x.a, .int .i64 x.b, .int .i64 x.c] 3 (0, 0))) ∧ Hid (Below w1.heap.size w1 wx))
  case first =>
    go_wp2_with fail
    go_meet
    case rel => exact ⟨w1.heap.size, rfl, heap_alloc_new _ _, below_alloc (by first | exact Below.refl _ _ | exact below_drewN (Below.refl _ _) _) _⟩
  case rest =>
    obtain ⟨g, rfl, KL, B2⟩ := hcut
    have B2' := Lib.hid (below_both B1.out B2.out)
    have KC2 := Lib.hid (block_below B2.out KC1.out)
    have KX2 := Lib.hid (block_below B2.out KX1.out)
    clear x0 x1 x2 x3 x4 x5 k0 k1
    obtain ⟨w2, hw2'⟩ : ∃ w2, w2 = wc := ⟨_, rfl⟩
    subst hw2'
    obtain ⟨y0, y1, y2, y3, y4, y5⟩ := in_block KX2.out
    obtain ⟨z0, z1⟩ := cd_block KC2.out
    go_upto_region 5 with fail
    go_cut [31] (fun s wx => s = .bool (defsI x && !inR x.dst c.regs) ∧ Drawn w2 wx)
    case first =>
      by_cases h0 : x.op = 0
      · have t0 : (x.op != 0) = false := by simpa using h0
        have hd : defsI x = false := Bool.eq_false_iff.2 fun hh => absurd h0 (HD0.out.1 hh)
        clear h0
        go_wp2_with fail
        go_meet
        case rel => exact ⟨by rw [hd]; rfl, Drawn.refl _⟩
      · have t0 : (x.op != 0) = true := by simpa using h0
        have hd : defsI x = true := HD0.out.2 h0
        clear h0
        go_wp2_with (go_at_call 72; refine (ref50_in x.dst c.regs _).mono ?_; rintro e w3 ⟨rfl, d3⟩)
        go_meet
        case rel => exact ⟨by rw [hd]; rfl, d3⟩
    case rest =>
      obtain ⟨rfl, d3⟩ := hcut
      have KC3 := Lib.hid (d3.heap KC2.out)
      have KX3 := Lib.hid (d3.heap KX2.out)
      have KL3 := Lib.hid (d3.heap KL.out)
      have B3 := Lib.hid (B2'.out.trans (d3.below _))
      clear y0 y1 y2 y3 y4 y5 z0 z1 d3
      cases hdb : (defsI x && !inR x.dst c.regs)
      case true =>
        have HE : Hid (insErr c.width c.regs x = 18) := by show _ = _; unfold insErr; rw [if_neg (by simp [hk]), if_pos (by simpa using hdb)]
        clear hdb
        go_wp2
        go_ret
        exact ⟨ret_int HE.out.symm, B3.out⟩
      have HD : Hid (¬ (defsI x = true ∧ inR x.dst c.regs = false)) := by show ¬ _; rintro ⟨h1, h2⟩; rw [h1, h2] at hdb; cases hdb
      clear hdb
      have HUL : Hid ((usesI x).length = sn) := by show _ = _; unfold usesI; rw [HSN.out, Int.toNat_natCast, List.length_take]; simp; omega
      obtain ⟨w3, hw3⟩ : ∃ w3, w3 = wc := ⟨_, rfl⟩
      subst hw3
      go_wp2
      go_loopw [7] (fun i wr => ∃ k : Nat, k ≤ sn ∧ i = .int .i64 k ∧ Hid (∀ j (hj : j < (usesI x).length), j < k → inR (usesI x)[j] c.regs = true) ∧ Hid (Drawn w3 wr)) (fun i _ => sn - (intOf i).toNat)
      case atStart => exact ⟨0, by omega, rfl, fun j hj h => by omega, Drawn.refl _⟩
      case round =>
        obtain ⟨k, hk9, rfl, hv, HDR⟩ := hrel
        by_cases hlt : k < sn
        · obtain ⟨z0, z1⟩ := cd_block (HDR.out.heap KC3.out)
          have hl : k < (usesI x).length := by have := HUL.out; omega
          have HU := Lib.hid (usesI_get x HSN.out hlt (by omega) hl)
          have hc5 : wr.cell? ⟨g, k, none⟩ = some (.int .i64 ([x.a, x.b, x.c].getD k 0)) := by
            rw [cell_of_row _ _ k _ _ _ (HDR.out.heap KL3.out)]
            rcases (show k = 0 ∨ k = 1 ∨ k = 2 by omega) with rfl | rfl | rfl <;> rfl
          have HB5 := Lib.hid (fun (hq : inR ([x.a, x.b, x.c].getD k 0) c.regs = false) => show insErr c.width c.regs x = 18 from by
            unfold insErr
            rw [if_neg (by simp [hk]), if_neg HD.out, if_pos]
            rw [List.all_eq_false]
            exact ⟨_, List.getElem_mem hl, by rw [HU.out, hq]; simp⟩)
          have HV5 := Lib.hid (fun (hq : inR ([x.a, x.b, x.c].getD k 0) c.regs = true) j (hj : j < (usesI x).length) (hjk : j < k + 1) => show inR (usesI x)[j] c.regs = true from by
            rcases Nat.lt_or_ge j k with h' | h'
            · exact hv.out j hj h'
            · obtain rfl : j = k := by omega
              rw [HU.out]; exact hq)
          have hk3 : (k : Int) < 3 := by omega
          generalize [x.a, x.b, x.c].getD k 0 = r at *
          go_wp2_with fail
          go_quiet ((go_at_call 72; exact Calls.quiet_of (ref50_in r c.regs _)))
          have D6 := Lib.hid (HDR.out.trans (Drawn.of wr nq))
          cases hq : inR r c.regs
          · have HE := Lib.hid (HB5.out hq)
            go_wp2
            go_ret
            exact ⟨ret_int HE.out.symm, B3.out.trans (D6.out.below _)⟩
          · have HV6 := Lib.hid (HV5.out hq)
            go_wp2
            go_roundw
            case rel => exact ⟨k + 1, by omega, by go_num, HV6.out, D6.out⟩
            case measure => simp [intOf]; omega
        · have HALL : Hid ((usesI x).all (fun r => inR r c.regs) = true) := by
            show _ = _
            rw [List.all_eq_true]
            intro r hr
            obtain ⟨j, hj, rfl⟩ := List.getElem_of_mem hr
            exact hv.out j hj (by have := HUL.out; omega)
          have B5 := Lib.hid (B3.out.trans (HDR.out.below _))
          have KC5 := Lib.hid (HDR.out.heap KC3.out)
          have KX5 := Lib.hid (HDR.out.heap KX3.out)
          have KL5 := Lib.hid (HDR.out.heap KL3.out)
          obtain ⟨y0, y1, y2, y3, y4, y5⟩ := in_block KX5.out
          obtain ⟨z0, z1⟩ := cd_block KC5.out
          have CM := Lib.hid (fun W => ref01_Mask c.width W hw1 hw2)
          clear HDR hv
          obtain ⟨w5, hw5⟩ : ∃ w5, w5 = wr := ⟨_, rfl⟩
          subst hw5
          go_upto_region 12 with fail
          go_cut [55] (fun s wx => s = .bool (decide (x.op = 1 ∧ maskI c.width < x.imm)) ∧ Drawn w5 wx)
          case first =>
            by_cases h1 : x.op = 1
            · have t11 : (x.op == 1) = true := by simpa using h1
              have HE : Hid (decide (x.op = 1 ∧ maskI c.width < x.imm) = decide (maskI c.width < x.imm)) := by show _ = _; simp [h1]
              clear h1
              go_quiet ((go_at_call 90; exact Calls.quiet_of (CM.out _)))
              go_wp2_with fail
              go_meet
              case rel => exact ⟨by rw [HE.out], Drawn.of _ _⟩
            · have t11 : (x.op == 1) = false := by simpa using h1
              have HE : Hid (decide (x.op = 1 ∧ maskI c.width < x.imm) = false) := decide_eq_false (fun h => h1 h.1)
              clear h1
              go_quiet (fail)
              go_wp2_with fail
              go_meet
              case rel => exact ⟨by rw [HE.out], by first | exact Drawn.refl _ | exact Drawn.of _ _⟩
          case rest =>
            obtain ⟨rfl, d6⟩ := hcut
            have B6 := Lib.hid (B5.out.trans (d6.below _))
            have KX6 := Lib.hid (d6.heap KX5.out)
            have KL6 := Lib.hid (d6.heap KL5.out)
            clear y0 y1 y2 y3 y4 y5 z0 z1 d6
            cases hm : decide (x.op = 1 ∧ maskI c.width < x.imm)
            case true =>
              have HE : Hid (insErr c.width c.regs x = 2) := by
                show _ = _
                unfold insErr
                rw [if_neg (by simp [hk]), if_neg HD.out, if_neg (by rw [HALL.out]; simp), if_pos (of_decide_eq_true hm)]
              clear hm
              go_wp2
              go_ret
              exact ⟨ret_int HE.out.symm, B6.out⟩
            have HE := Lib.hid (insErr_late hk HD.out HALL.out (of_decide_eq_false hm))
            clear hm
            obtain ⟨y0, y1, y2, y3, y4, y5⟩ := in_block KX6.out
            obtain ⟨w6, hw6⟩ : ∃ w6, w6 = wc := ⟨_, rfl⟩
            subst hw6
            go_upto_region 14 with fail
            go_cut [73] (fun s wx => s = .bool (decide ((x.op = 0 ∧ x.dst ≠ 0) ∨ (x.op ≠ 1 ∧ x.imm ≠ 0))) ∧ w6 = wx)
            case first =>
              by_cases h0 : x.op = 0
              · have t0 : (x.op == 0) = true := by simpa using h0
                have t1 : (x.op != 1) = true := by simp [h0]
                by_cases hd : x.dst = 0
                · have t2 : (x.dst != 0) = false := by simpa using hd
                  by_cases hi : x.imm = 0
                  · have t3 : (x.imm != 0) = false := by simpa using hi
                    have HE : Hid (decide ((x.op = 0 ∧ x.dst ≠ 0) ∨ (x.op ≠ 1 ∧ x.imm ≠ 0)) = false) := by show _ = _; simp [hd, hi]
                    clear h0 hd hi
                    go_wp2_with fail
                    go_meet
                    case rel => exact ⟨by rw [HE.out], rfl⟩
                  · have t3 : (x.imm != 0) = true := by simpa using hi
                    have HE : Hid (decide ((x.op = 0 ∧ x.dst ≠ 0) ∨ (x.op ≠ 1 ∧ x.imm ≠ 0)) = true) := by show _ = _; simp [h0, hi]
                    clear h0 hd hi
                    go_wp2_with fail
                    go_meet
                    case rel => exact ⟨by rw [HE.out], rfl⟩
                · have t2 : (x.dst != 0) = true := by simpa using hd
                  have HE : Hid (decide ((x.op = 0 ∧ x.dst ≠ 0) ∨ (x.op ≠ 1 ∧ x.imm ≠ 0)) = true) := by show _ = _; simp [h0, hd]
                  clear h0 hd
                  go_wp2_with fail
                  go_meet
                  case rel => exact ⟨by rw [HE.out], rfl⟩
              · have t0 : (x.op == 0) = false := by simpa using h0
                by_cases h1 : x.op = 1
                · have t1 : (x.op != 1) = false := by simpa using h1
                  have HE : Hid (decide ((x.op = 0 ∧ x.dst ≠ 0) ∨ (x.op ≠ 1 ∧ x.imm ≠ 0)) = false) := by show _ = _; simp [h1]
                  clear h0 h1
                  go_wp2_with fail
                  go_meet
                  case rel => exact ⟨by rw [HE.out], rfl⟩
                · have t1 : (x.op != 1) = true := by simpa using h1
                  by_cases hi : x.imm = 0
                  · have t3 : (x.imm != 0) = false := by simpa using hi
                    have HE : Hid (decide ((x.op = 0 ∧ x.dst ≠ 0) ∨ (x.op ≠ 1 ∧ x.imm ≠ 0)) = false) := by show _ = _; simp [h0, hi]
                    clear h0 h1 hi
                    go_wp2_with fail
                    go_meet
                    case rel => exact ⟨by rw [HE.out], rfl⟩
                  · have t3 : (x.imm != 0) = true := by simpa using hi
                    have HE : Hid (decide ((x.op = 0 ∧ x.dst ≠ 0) ∨ (x.op ≠ 1 ∧ x.imm ≠ 0)) = true) := by show _ = _; simp [h1, hi]
                    clear h0 h1 hi
                    go_wp2_with fail
                    go_meet
                    case rel => exact ⟨by rw [HE.out], rfl⟩
            case rest =>
              obtain ⟨rfl, rfl⟩ := hcut
              have HRZ := Lib.hid (restI_zero HSN.out hsn3)
              clear y0 y1 y2 y3 y4 y5
              cases hm : decide ((x.op = 0 ∧ x.dst ≠ 0) ∨ (x.op ≠ 1 ∧ x.imm ≠ 0))
              case true =>
                have HE2 : Hid (insErr c.width c.regs x = 19) := by
                  show _ = _
                  rw [HE.out, if_pos]
                  rcases of_decide_eq_true hm with h | h
                  · right
                    refine Bool.eq_false_iff.2 fun hh => ?_
                    exact h.2 ((HRZ.out.1 hh).2 h.1)
                  · exact .inl h
                clear hm
                go_wp2
                go_ret
                exact ⟨ret_int HE2.out.symm, B6.out⟩
              have hm' := of_decide_eq_false hm
              have HM1 : Hid (¬ (x.op ≠ 1 ∧ x.imm ≠ 0)) := fun h => hm' (.inr h)
              have HM2 : Hid (x.op = 0 → x.dst = 0) := fun h => Decidable.byContradiction fun h2 => hm' (.inl ⟨h, h2⟩)
              clear hm hm'
              go_wp2
              go_loopw [8] (fun i wr => ∃ k : Nat, sn ≤ k ∧ k ≤ 3 ∧ i = .int .i64 k ∧ Hid (∀ j, sn ≤ j → j < k → [x.a, x.b, x.c].getD j 0 = 0) ∧ Hid (Drawn w6 wr)) (fun i _ => 3 - (intOf i).toNat)
              case atStart => exact ⟨sn, by omega, by omega, rfl, fun j h1 h2 => by omega, Drawn.refl _⟩
              case round =>
                obtain ⟨k, hk1, hk2, rfl, hv, HDR⟩ := hrel
                by_cases hlt : k < 3
                · have hc5 : wr.cell? ⟨g, k, none⟩ = some (.int .i64 ([x.a, x.b, x.c].getD k 0)) := by
                    rw [cell_of_row _ _ k _ _ _ (HDR.out.heap KL6.out)]
                    rcases (show k = 0 ∨ k = 1 ∨ k = 2 by omega) with rfl | rfl | rfl <;> rfl
                  have HB5 := Lib.hid (fun (hq : [x.a, x.b, x.c].getD k 0 ≠ 0) => show insErr c.width c.regs x = 19 from by
                    rw [HE.out, if_pos]
                    right
                    refine Bool.eq_false_iff.2 fun hh => ?_
                    exact hq ((HRZ.out.1 hh).1 k hk1 hlt))
                  have HV5 := Lib.hid (fun (hq : [x.a, x.b, x.c].getD k 0 = 0) j (h1 : sn ≤ j) (hjk : j < k + 1) => show [x.a, x.b, x.c].getD j 0 = 0 from by
                    rcases Nat.lt_or_ge j k with h' | h'
                    · exact hv.out j h1 h'
                    · obtain rfl : j = k := by omega
                      exact hq)
                  generalize [x.a, x.b, x.c].getD k 0 = r at *
                  by_cases hr : r = 0
                  · have HV6 := Lib.hid (HV5.out hr)
                    have t0 : (r != 0) = false := by simpa using hr
                    clear hr
                    go_wp2_with fail
                    go_roundw
                    case rel => exact ⟨k + 1, by omega, by omega, by go_num, HV6.out, HDR.out⟩
                    case measure => simp [intOf]; omega
                  · have HE2 := Lib.hid (HB5.out hr)
                    have t0 : (r != 0) = true := by simpa using hr
                    clear hr
                    go_wp2_with fail
                    go_ret
                    exact ⟨ret_int HE2.out.symm, B6.out.trans (HDR.out.below _)⟩
                · have HE2 : Hid (insErr c.width c.regs x = 0) := by
                    show _ = _
                    rw [HE.out, if_neg]
                    rintro (h | h)
                    · exact HM1.out h
                    · have := HRZ.out.2 ⟨fun j h1 h2 => hv.out j h1 (by omega), HM2.out⟩
                      rw [this] at h; cases h
                  go_wp2
                  go_ret
                  exact ⟨ret_int HE2.out.symm, B6.out.trans (HDR.out.below _)⟩
end Go.Proofs.Sat
