/- The walk of the law LiveRemoves. -/
import Derived.Test.YthffbnfbjjnabaaDoorLawIn
set_option linter.unusedVariables false
set_option linter.unusedSimpArgs false
namespace Go.Proofs.Sat
open Go Go.RowKit
theorem remC_imm {c : Cd} (h : CdOK c) (himm : ∀ x ∈ c.ins, 0 ≤ x.imm ∧ x.imm < 18446744073709551616) : ∀ x ∈ (remC c).ins, 0 ≤ x.imm ∧ x.imm < 18446744073709551616 := by
  rw [show (remC c).ins = keepR c.out c.ins by rw [remC_ok h]]
  exact fun x hx => himm x ((keepR_sub _ _).subset hx)
set_option maxRecDepth 20000 in
set_option maxHeartbeats 4000000 in
theorem law_Removes (c : Cd) (p : CdAt) (a : Nat → Nat) (w : World) (hK : IsaT w) (h : CdRd (fun _ => True) w c p) (ha : ∀ j, j < 8 → a j < 18446744073709551616) (himm : ∀ x ∈ c.ins, 0 ≤ x.imm ∧ x.imm < 18446744073709551616) :
    Calls Tryd.prog 5 #[cdVal c p, .agg (cells8 a)] w fun e w' => e = .returned (.bool true) ∧ Below w.heap.size w w' := by
  obtain ⟨ia, ic, oa, oc⟩ := p
  have BW := Lib.hid (below_alloc (below_alloc (Below.refl w.heap.size w) (.cells (cellsC c ia ic oa oc) 25)) (.cells (cells8 a) 34))
  have KC := Lib.hid (block_alloc (heap_alloc_new w (.cells (cellsC c ia ic oa oc) 25)) (.cells (cells8 a) 34))
  have KA := Lib.hid (block_at1 w (.cells (cellsC c ia ic oa oc) 25) (.cells (cells8 a) 34))
  have HC := Lib.hid h
  have HA := Lib.hid ha
  have HIM := Lib.hid himm
  have hil := h.ins.le
  have hol := h.out.le
  clear ha himm
  unfold cdVal
  go_enter Tryd.func5, Tryd.ntmps5
  obtain ⟨z0, z1, z2, z3⟩ := cd_block4 KC.out
  go_upto_region 1 with fail
  go_cut [26] (fun s wx => ∃ g : Bool, s = .bool g ∧ Hid (g = false → c.ins.length ≤ 40 ∧ c.out.length ≤ 20 ∧ cdErr c = 0) ∧ Hid (wx.heap[w.heap.size]? = some (.cells (cellsC c ia ic oa oc) 25 (0, 0))) ∧ Hid (wx.heap[w.heap.size + 1]? = some (.cells (cells8 a) 34 (0, 0))) ∧ Hid (Below w.heap.size w wx))
  case first =>
    have CL := Lib.hid (fun W (b : Below w.heap.size w W) => law50_light _ c ⟨ia, ic, oa, oc⟩ W (HC.out.frame (Same.below b)))
    have CK := Lib.hid (fun W (b : Below w.heap.size w W) => ref50_Check _ c ⟨ia, ic, oa, oc⟩ W (HC.out.frame (Same.below b)))
    generalize hbc : decide (c.ins.length ≤ 300 ∧ c.out.length ≤ 20) = bc at *
    have HBC := Lib.hid hbc
    clear hbc h
    generalize hce : cdErr c = ce at *
    have HCE := Lib.hid hce
    clear hce
    by_cases h40 : 40 < c.ins.length
    · have h40' : (40 : Int) < (c.ins.length : Int) := by omega
      go_wp2_with fail
      go_meet
      case rel => exact ⟨true, rfl, (fun e => by cases e), KC.out, KA.out, BW.out⟩
    have h40' : ¬ (40 : Int) < (c.ins.length : Int) := by omega
    have H40 : Hid (c.ins.length ≤ 40) := by show _ ≤ _; omega
    go_wp2_with fail
    refine (CL.out _ BW.out).mono ?_
    rintro e w2 ⟨rfl, b2⟩
    have B2 := Lib.hid (below_both BW.out b2)
    have KC2 := Lib.hid (block_below b2 KC.out)
    have KA2 := Lib.hid (block_below b2 KA.out)
    clear b2 z0 z1 z2 z3
    obtain ⟨z0, z1, z2, z3⟩ := cd_block4 KC2.out
    cases bc
    · go_wp2_with fail
      go_meet
      case rel => exact ⟨true, rfl, (fun e => by cases e), KC2.out, KA2.out, B2.out⟩
    · have HL := Lib.hid (of_decide_eq_true HBC.out)
      go_wp2_with fail
      refine (CK.out w2 B2.out).mono ?_
      rintro e w3 ⟨rfl, b3⟩
      have B3 := Lib.hid (below_both B2.out b3)
      have KC3 := Lib.hid (block_below b3 KC2.out)
      have KA3 := Lib.hid (block_below b3 KA2.out)
      clear b3
      go_wp2_with fail
      go_meet
      case rel => exact ⟨_, rfl, (fun hg => ⟨H40.out, HL.out.2, by simpa using hg⟩), KC3.out, KA3.out, B3.out⟩
  case rest =>
    obtain ⟨g, rfl, HG, KC2, KA2, B2⟩ := hcut
    clear z0 z1 z2 z3 BW KC KA
    cases g
    case true =>
      go_wp2_with fail
      refine (law50_lives wc (hK.below B2.out)).mono ?_
      rintro e w3 ⟨rfl, b3⟩
      have B3 := Lib.hid (below_both B2.out b3)
      clear b3
      go_wp2_with fail
      go_ret
      exact ⟨rfl, B3.out⟩
    obtain ⟨hl1, hl2, hce⟩ := HG.out rfl
    have HOK := Lib.hid (cd_ok hce)
    have CR := live_Remove _ c ⟨ia, ic, oa, oc⟩ wc (hK.below B2.out) (HC.out.frame (Same.below B2.out)) (by omega)
    rw [hce] at CR
    have CR' := Lib.hid CR
    have HDK := Lib.hid (remC_cd HOK.out)
    have HDE := Lib.hid (err_of_ok HDK.out)
    have hdl : (remC c).ins.length ≤ c.ins.length := by rw [show (remC c).ins = keepR c.out c.ins by rw [remC_ok HOK.out]]; exact (keepR_sub _ _).length_le
    have HDO : Hid ((remC c).out = c.out) := by show _ = _; rw [remC_ok HOK.out]
    have HDI := Lib.hid (remC_imm HOK.out HIM.out)
    have HDD : Hid (∀ i : Nat, i < (remC c).ins.length → deadL (remC c) i = false) := fun i hi => (remC_dead HOK.out i).resolve_right (by omega)
    have HRUN := Lib.hid (fun s hr => remC_run HOK.out c.width.toNat s hr)
    have HDW : Hid ((remC c).width = c.width) := by show _ = _; rw [remC_ok HOK.out]
    clear hce HG h CR
    generalize remC c = d at *
    obtain ⟨z0, z1, z2, z3⟩ := cd_block4 KC2.out
    go_wp2_with fail
    refine CR'.out.mono ?_
    rintro e w3 ⟨⟨ja, jc, qa, qc⟩, rfl, c3, b3⟩
    have B3 := Lib.hid (below_alloc (below_both B2.out b3) (.cells (cellsC d ja jc qa qc) 25))
    have KC3 := Lib.hid (block_alloc (block_below b3 KC2.out) (.cells (cellsC d ja jc qa qc) 25))
    have KA3 := Lib.hid (block_alloc (block_below b3 KA2.out) (.cells (cellsC d ja jc qa qc) 25))
    have KD3 := Lib.hid (heap_alloc_new w3 (.cells (cellsC d ja jc qa qc) 25))
    have HD3 := Lib.hid (c3.frame (Same.alloc _ w3 (.cells (cellsC d ja jc qa qc) 25)))
    clear b3 c3 z0 z1 z2 z3 CR'
    go_upto_region 4 with fail
    generalize w3.alloc (.cells (cellsC d ja jc qa qc) 25) = W3 at *
    generalize w3.heap.size = g3 at *
    have hK3 := hK.below B3.out
    have HC3 := Lib.hid (HC.out.frame (Same.below B3.out))
    clear HC hK KC2 KA2 B2
    have hjl := HD3.out.ins.le
    have hql := HD3.out.out.le
    have hdl' : (d.ins.length : Int) ≤ (c.ins.length : Int) := by omega
    have hdn : decide (c.ins.length < d.ins.length) = false := decide_eq_false (by omega)
    have hdg : decide ((c.ins.length : Int) < (d.ins.length : Int)) = false := decide_eq_false (by omega)
    obtain ⟨z0, z1, z2, z3⟩ := cd_block4 KC3.out
    obtain ⟨y0, y1, y2, y3⟩ := cd_block4 KD3.out
    have CK := Lib.hid (ref50_Check _ d ⟨ja, jc, qa, qc⟩ W3 HD3.out)
    rw [HDE.out] at CK
    go_wp2_with fail
    refine CK.out.mono ?_
    rintro e w4 ⟨rfl, b4⟩
    have B4 := Lib.hid b4
    have KC4 := Lib.hid (block_below b4 KC3.out)
    have KA4 := Lib.hid (block_below b4 KA3.out)
    have KD4 := Lib.hid (block_below b4 KD3.out)
    clear b4 z0 z1 z2 z3 y0 y1 y2 y3 CK
    obtain ⟨z0, z1, z2, z3⟩ := cd_block4 KC4.out
    obtain ⟨y0, y1, y2, y3⟩ := cd_block4 KD4.out
    have CS := Lib.hid (ref50_SameInts _ _ oa qa oc qc c.out d.out w4 (HC3.out.out.frame (Same.below B4.out)) (HD3.out.out.frame (Same.below B4.out)))
    rw [decide_eq_true HDO.out.symm] at CS
    go_wp2_with fail
    refine CS.out.mono ?_
    rintro e w5 ⟨rfl, d5⟩
    have B5 := Lib.hid (below_both B4.out (d5.below _))
    have KC5 := Lib.hid (d5.heap KC4.out)
    have KA5 := Lib.hid (d5.heap KA4.out)
    have KD5 := Lib.hid (d5.heap KD4.out)
    clear d5 z0 z1 z2 z3 y0 y1 y2 y3 CS
    obtain ⟨y0, y1, y2, y3⟩ := cd_block4 KD5.out
    go_wp2_with fail
    go_loopw [60] (fun i wr => ∃ k : Nat, k ≤ d.ins.length ∧ i = .int .i64 k ∧ Hid (wr.heap[w.heap.size]? = some (.cells (cellsC c ia ic oa oc) 25 (0, 0))) ∧ Hid (wr.heap[w.heap.size + 1]? = some (.cells (cells8 a) 34 (0, 0))) ∧ Hid (wr.heap[g3]? = some (.cells (cellsC d ja jc qa qc) 25 (0, 0))) ∧ Hid (Below W3.heap.size W3 wr)) (fun i _ => d.ins.length - (intOf i).toNat)
    case atStart => exact ⟨0, by omega, rfl, KC5.out, KA5.out, KD5.out, B5.out⟩
    case round =>
      clear y0 y1 y2 y3
      obtain ⟨k, hk, rfl, KC6, KA6, KD6, B6⟩ := hrel
      by_cases hlt : k < d.ins.length
      · have hkl : (k : Int) < (d.ins.length : Int) := by omega
        have CD := live_Dead _ d ⟨ja, jc, qa, qc⟩ (k : Int) wr (hK3.below B6.out) (HD3.out.frame (Same.below B6.out))
        rw [HDD.out k hlt] at CD
        have CD' := Lib.hid CD
        clear CD
        obtain ⟨y0, y1, y2, y3⟩ := cd_block4 KD6.out
        go_wp2_with fail
        refine CD'.out.mono ?_
        rintro e w7 ⟨rfl, b7⟩
        have B7 := Lib.hid (below_both B6.out b7)
        have KC7 := Lib.hid (block_below b7 KC6.out)
        have KA7 := Lib.hid (block_below b7 KA6.out)
        have KD7 := Lib.hid (block_below b7 KD6.out)
        clear b7
        go_wp2_with fail
        go_roundw
        case rel => exact ⟨k + 1, by omega, by go_num, KC7.out, KA7.out, KD7.out, B7.out⟩
        case measure => simp [intOf]; omega
      · have hnl : ¬ ((k : Int) < (d.ins.length : Int)) := by omega
        clear hlt hk
        have CA := Lib.hid (fun W (b : Below W3.heap.size W3 W) => ref50_Run' _ c ⟨ia, ic, oa, oc⟩ a W (HC3.out.frame (Same.below b)) HOK.out HA.out HIM.out)
        have CB := Lib.hid (fun W (b : Below W3.heap.size W3 W) => ref50_Run' _ d ⟨ja, jc, qa, qc⟩ a W (HD3.out.frame (Same.below b)) HDK.out HA.out HDI.out)
        have HQ := Lib.hid (HRUN.out (cutS c.width.toNat a 8))
        rw [HDW.out] at CB
        clear HRUN
        generalize runN c.width.toNat c.ins (cutS c.width.toNat a 8) = X1 at *
        generalize runN c.width.toNat d.ins (cutS c.width.toNat a 8) = X2 at *
        obtain ⟨s1, k1⟩ := X1
        obtain ⟨s2, k2⟩ := X2
        obtain ⟨w6, hw6⟩ : ∃ w6, w6 = wr := ⟨_, rfl⟩
        subst hw6
        obtain ⟨z0, z1, z2, z3⟩ := cd_block4 KC6.out
        obtain ⟨n0, n1, n2, n3, n4, n5, n6, n7⟩ := num_cells KA6.out
        go_wp2_with fail
        refine (CA.out _ B6.out).mono ?_
        rintro e w7 ⟨rfl, b7⟩
        have B7 := Lib.hid (below_alloc (below_both B6.out b7) (.cells (cells8 s1) 34))
        have KC7 := Lib.hid (block_alloc (block_below b7 KC6.out) (.cells (cells8 s1) 34))
        have KA7 := Lib.hid (block_alloc (block_below b7 KA6.out) (.cells (cells8 s1) 34))
        have KD7 := Lib.hid (block_alloc (block_below b7 KD6.out) (.cells (cells8 s1) 34))
        have KX7 := Lib.hid (heap_alloc_new w7 (.cells (cells8 s1) 34))
        clear b7 z0 z1 z2 z3 n0 n1 n2 n3 n4 n5 n6 n7 CA
        obtain ⟨y0, y1, y2, y3⟩ := cd_block4 KD7.out
        obtain ⟨n0, n1, n2, n3, n4, n5, n6, n7⟩ := num_cells KA7.out
        go_wp2_with fail
        refine (CB.out _ B7.out).mono ?_
        rintro e w8 ⟨rfl, b8⟩
        have B8 := Lib.hid (below_alloc (below_both B7.out b8) (.cells (cells8 s2) 34))
        have KC8 := Lib.hid (block_alloc (block_below b8 KC7.out) (.cells (cells8 s2) 34))
        have KX8 := Lib.hid (block_alloc (block_below b8 KX7.out) (.cells (cells8 s2) 34))
        have KY8 := Lib.hid (heap_alloc_new w8 (.cells (cells8 s2) 34))
        clear b8 y0 y1 y2 y3 n0 n1 n2 n3 n4 n5 n6 n7 CB
        have CL := Lib.hid (fun W (b : Below W3.heap.size W3 W) => law50_lives W (hK3.below b))
        cases k1
        case false =>
          go_wp2_with fail
          refine (CL.out _ B8.out).mono ?_
          rintro e w9 ⟨rfl, b9⟩
          have B9 := Lib.hid (below_both B3.out (below_both B8.out b9))
          clear b9
          go_wp2_with fail
          go_ret
          exact ⟨rfl, B9.out⟩
        case true =>
          obtain ⟨hk2, he2⟩ := HQ.out rfl
          replace hk2 : k2 = true := hk2
          subst hk2
          have HE2 : Hid (∀ r ∈ c.out, s1 r.toNat = s2 r.toNat) := he2
          clear he2 HQ
          obtain ⟨z0, z1, z2, z3⟩ := cd_block4 KC8.out
          go_wp2_with fail
          go_loopw [85] (fun i wr => ∃ k : Nat, k ≤ c.out.length ∧ i = .int .i64 k ∧ Hid (wr.heap[w.heap.size]? = some (.cells (cellsC c ia ic oa oc) 25 (0, 0))) ∧ Hid (wr.heap[w7.heap.size]? = some (.cells (cells8 s1) 34 (0, 0))) ∧ Hid (wr.heap[w8.heap.size]? = some (.cells (cells8 s2) 34 (0, 0))) ∧ Hid (Below W3.heap.size W3 wr)) (fun i _ => c.out.length - (intOf i).toNat)
          case atStart => exact ⟨0, by omega, rfl, KC8.out, KX8.out, KY8.out, B8.out⟩
          case round =>
            clear z0 z1 z2 z3
            obtain ⟨k, hk, rfl, KC9, KX9, KY9, B9⟩ := hrel
            by_cases hlt : k < c.out.length
            · obtain ⟨ob, oo, rfl, -, -, hc⟩ := (HC3.out.out.frame (Same.below B9.out)).vals (by omega) 0
              have d5 := hc k hlt
              rw [getD_at _ hlt] at d5
              have hr := HOK.out.out _ (List.getElem_mem hlt)
              have he := HE2.out _ (List.getElem_mem hlt)
              clear hc
              generalize c.out[k] = r at *
              obtain ⟨hr0, hr1⟩ := hr
              obtain ⟨m, rfl⟩ := Int.eq_ofNat_of_zero_le hr0
              rw [Int.toNat_natCast] at he
              have hr2 := HOK.out.r2
              have hm8 : m < 8 := by omega
              have hm8' : (m : Int) < 8 := by omega
              have hkl : (k : Int) < (c.out.length : Int) := by omega
              clear hr1 hr2
              obtain ⟨z0, z1, z2, z3⟩ := cd_block4 KC9.out
              have na := (num_at KX9.out hm8).1
              have nb := (num_at KY9.out hm8).1
              rw [← he] at nb
              clear he
              generalize s1 m = v at *
              have tn : ((v : Int) != (v : Int)) = false := by simp
              go_upto_region 19 with fail
              go_quiet (fail)
              have DD : Drawn wr (wr.drewN nq) := ⟨nq, rfl⟩
              go_wp2_with fail
              go_roundw
              case rel => exact ⟨k + 1, by omega, by go_num, DD.heap KC9.out, DD.heap KX9.out, DD.heap KY9.out, below_both B9.out (DD.below _)⟩
              case measure => simp [intOf]; omega
            · have hnl : ¬ ((k : Int) < (c.out.length : Int)) := by omega
              go_wp2_with fail
              refine (CL.out _ B9.out).mono ?_
              rintro e w9 ⟨rfl, b9⟩
              have B10 := Lib.hid (below_both B3.out (below_both B9.out b9))
              clear b9
              go_wp2_with fail
              go_ret
              exact ⟨rfl, B10.out⟩
theorem law_Removes' (c : Cd) (p : CdAt) (a : Nat → Int) (w : World) (hK : IsaT w) (h : CdRd (fun _ => True) w c p) (ha : ∀ i, i < 8 → (Lit.int .u64 (a i)).wf = true) (himm : ∀ x ∈ c.ins, 0 ≤ x.imm ∧ x.imm < 18446744073709551616) :
    Calls Tryd.prog 5 #[cdVal c p, .agg #[.int .u64 (a 0), .int .u64 (a 1), .int .u64 (a 2), .int .u64 (a 3), .int .u64 (a 4), .int .u64 (a 5), .int .u64 (a 6), .int .u64 (a 7)]] w fun e w' => e = .returned (.bool true) ∧ Below w.heap.size w w' := by
  rw [nums_eq a ha]
  exact law_Removes c p _ w hK h (nums_lt a ha) himm
end Go.Proofs.Sat
