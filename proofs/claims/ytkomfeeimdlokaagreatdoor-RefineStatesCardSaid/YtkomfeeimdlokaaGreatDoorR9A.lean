/- The walk of ref53's Comparable. -/
import Derived.Test.YtkomfeeimdlokaaGreatDoorR8C
import Derived.Test.YtkomfeeimdlokaaGreatDoorRgC
set_option linter.unusedVariables false
set_option linter.unusedSimpArgs false
namespace Go.Proofs.Sat
open Go Go.RowKit
theorem lists_at {l m : List Int} (hl : l.length = m.length) (h : ∀ j (h1 : j < l.length) (h2 : j < m.length), l[j] = m[j]) : l = m := List.ext_getElem hl h
set_option maxRecDepth 20000 in
set_option maxHeartbeats 2000000 in
theorem ref53_Comparable (S : Nat → Prop) (c d : Cd) (p q : CdAt) (w : World) (h : CdRd S w c p) (h' : CdRd S w d q) (himm : ∀ x ∈ c.ins, 0 ≤ x.imm ∧ x.imm < 18446744073709551616) (himm' : ∀ x ∈ d.ins, 0 ≤ x.imm ∧ x.imm < 18446744073709551616) :
    Calls Tryz.prog 26 #[cdVal c p, cdVal d q] w fun e w' => e = .returned (.int .i64 (cmpErr c d)) ∧ Below w.heap.size w w' := by
  have CC := Lib.hid (fun W (b : Below w.heap.size w W) => ref48_Check S c p W (h.frame (Same.below b)) himm)
  have CD := Lib.hid (fun W (b : Below w.heap.size w W) => ref48_Check S d q W (h'.frame (Same.below b)) himm')
  obtain ⟨ia, ic, oa, oc⟩ := p
  obtain ⟨ja, jc, qa, qc⟩ := q
  have BW := Lib.hid (below_alloc (below_alloc (Below.refl w.heap.size w) (.cells (cellsC c ia ic oa oc) 25)) (.cells (cellsC d ja jc qa qc) 25))
  have KC := Lib.hid (block_alloc (heap_alloc_new w (.cells (cellsC c ia ic oa oc) 25)) (.cells (cellsC d ja jc qa qc) 25))
  have KD := Lib.hid (block_at1 w (.cells (cellsC c ia ic oa oc) 25) (.cells (cellsC d ja jc qa qc) 25))
  have hol := h.out.le
  have hql := h'.out.le
  have HO : Hid (Rd (Kd.int .i64) S w oa oc c.out) := h.out
  have HO' : Hid (Rd (Kd.int .i64) S w qa qc d.out) := h'.out
  clear h h' himm himm'
  unfold cdVal
  go_enter Tryz.func26, Tryz.ntmps26
  obtain ⟨z0, z1, z2, z3⟩ := cd_block4 KC.out
  obtain ⟨y0, y1, y2, y3⟩ := cd_block4 KD.out
  go_wp2_with fail
  refine (CC.out _ BW.out).mono ?_
  rintro e w1 ⟨rfl, b1⟩
  have B1 := Lib.hid (below_both BW.out b1)
  have KC1 := Lib.hid (block_below b1 KC.out)
  have KD1 := Lib.hid (block_below b1 KD.out)
  clear b1 z0 z1 z2 z3 y0 y1 y2 y3 BW KC KD CC
  obtain ⟨z0, z1, z2, z3⟩ := cd_block4 KC1.out
  obtain ⟨y0, y1, y2, y3⟩ := cd_block4 KD1.out
  by_cases hc : cdErr c = 0
  case neg =>
    have t0 : (cdErr c != 0) = true := by simpa using hc
    have HE : Hid (cmpErr c d = cdErr c) := by show _ = _; unfold cmpErr; rw [if_pos hc]
    clear hc
    go_wp2_with fail
    go_ret
    exact ⟨ret_int HE.out.symm, B1.out⟩
  have t0 : (cdErr c != 0) = false := by simpa using hc
  have HC := Lib.hid hc
  clear hc
  go_wp2_with fail
  refine (CD.out _ B1.out).mono ?_
  rintro e w2 ⟨rfl, b2⟩
  have B2 := Lib.hid (below_both B1.out b2)
  have KC2 := Lib.hid (block_below b2 KC1.out)
  have KD2 := Lib.hid (block_below b2 KD1.out)
  clear b2 z0 z1 z2 z3 y0 y1 y2 y3 B1 KC1 KD1 CD
  obtain ⟨z0, z1, z2, z3⟩ := cd_block4 KC2.out
  obtain ⟨y0, y1, y2, y3⟩ := cd_block4 KD2.out
  by_cases hd : cdErr d = 0
  case neg =>
    have t1 : (cdErr d != 0) = true := by simpa using hd
    have HE : Hid (cmpErr c d = cdErr d) := by show _ = _; unfold cmpErr; rw [if_neg (not_not_intro HC.out), if_pos hd]
    clear hd
    go_wp2_with fail
    go_ret
    exact ⟨ret_int HE.out.symm, B2.out⟩
  have t1 : (cdErr d != 0) = false := by simpa using hd
  have HD := Lib.hid hd
  clear hd
  have HX : Hid (cmpErr c d = if c.width ≠ d.width ∨ c.regs ≠ d.regs ∨ c.out ≠ d.out then 1 else 0) := by show _ = _; unfold cmpErr; rw [if_neg (not_not_intro HC.out), if_neg (not_not_intro HD.out)]
  by_cases hw : c.width = d.width
  case neg =>
    have t2 : (c.width != d.width) = true := by simpa using hw
    have HE : Hid (cmpErr c d = 1) := by show _ = _; rw [HX.out, if_pos (.inl hw)]
    clear hw
    go_wp2_with fail
    go_ret
    exact ⟨ret_int HE.out.symm, B2.out⟩
  have t2 : (c.width != d.width) = false := by simpa using hw
  have HW := Lib.hid hw
  clear hw
  by_cases hr : c.regs = d.regs
  case neg =>
    have t3 : (c.regs != d.regs) = true := by simpa using hr
    have HE : Hid (cmpErr c d = 1) := by show _ = _; rw [HX.out, if_pos (.inr (.inl hr))]
    clear hr
    go_wp2_with fail
    go_ret
    exact ⟨ret_int HE.out.symm, B2.out⟩
  have t3 : (c.regs != d.regs) = false := by simpa using hr
  have HR := Lib.hid hr
  clear hr
  by_cases hl : c.out.length = d.out.length
  case neg =>
    have t4 : ((c.out.length : Int) != (d.out.length : Int)) = true := by simp; omega
    have t5 : (c.out.length != d.out.length) = true := by simpa using hl
    have HE : Hid (cmpErr c d = 1) := by show _ = _; rw [HX.out, if_pos (.inr (.inr (fun hh => hl (by rw [hh]))))]
    clear hl
    go_wp2_with fail
    go_ret
    exact ⟨ret_int HE.out.symm, B2.out⟩
  have t4 : ((c.out.length : Int) != (d.out.length : Int)) = false := by simp; omega
  have t5 : (c.out.length != d.out.length) = false := by simpa using hl
  have HL := Lib.hid hl
  clear hl
  go_wp2_with fail
  clear t0 t1 t2 t3 t4 t5 z0 z1 z2 z3 y0 y1 y2 y3
  go_loopw [7] (fun i wr => ∃ k : Nat, k ≤ c.out.length ∧ i = .int .i64 k ∧ Hid (∀ j (h1 : j < c.out.length) (h2 : j < d.out.length), j < k → c.out[j] = d.out[j]) ∧ Hid (Drawn w2 wr)) (fun i _ => c.out.length - (intOf i).toNat)
  case atStart => exact ⟨0, by omega, rfl, fun j h1 h2 h => by omega, Drawn.refl _⟩
  case round =>
    obtain ⟨k, hk9, rfl, hv, D1⟩ := hrel
    obtain ⟨z0, z1, z2, z3⟩ := cd_block4 (D1.out.heap KC2.out)
    obtain ⟨y0, y1, y2, y3⟩ := cd_block4 (D1.out.heap KD2.out)
    by_cases hlt : k < c.out.length
    · have hlt2 : k < d.out.length := by have := HL.out; omega
      obtain ⟨b1, o1, rfl, _, _, hc1⟩ := ((HO.out.frame (Same.below B2.out)).frame (Same.drawn _ D1.out)).vals (by omega) 0
      obtain ⟨b2, o2, rfl, _, _, hc2⟩ := ((HO'.out.frame (Same.below B2.out)).frame (Same.drawn _ D1.out)).vals (by omega) 0
      have d1 := hc1 k hlt
      have d2 := hc2 k hlt2
      rw [getD_at _ hlt] at d1
      rw [getD_at _ hlt2] at d2
      have HB5 := Lib.hid (fun (hq : c.out[k] ≠ d.out[k]) => show cmpErr c d = 1 from by
        rw [HX.out, if_pos (.inr (.inr (fun hh => hq (by simp only [hh]))))])
      have HV5 := Lib.hid (fun (hq : c.out[k] = d.out[k]) j (h1 : j < c.out.length) (h2 : j < d.out.length) (hjk : j < k + 1) => show c.out[j] = d.out[j] from by
        rcases Nat.lt_or_ge j k with h' | h'
        · exact hv.out j h1 h2 h'
        · obtain rfl : j = k := by omega
          exact hq)
      clear hc1 hc2
      generalize c.out[k] = r at *
      generalize d.out[k] = s at *
      go_wp2_with fail
      go_quiet (fail)
      have D6 := Lib.hid (D1.out.trans (Drawn.of wr nq))
      by_cases hq : r = s
      · have t0 : (r != s) = false := by simpa using hq
        have HV6 := Lib.hid (HV5.out hq)
        clear hq
        go_wp2
        go_roundw
        case rel => exact ⟨k + 1, by omega, by go_num, HV6.out, D6.out⟩
        case measure => simp [intOf]; omega
      · have t0 : (r != s) = true := by simpa using hq
        have HE := Lib.hid (HB5.out hq)
        clear hq
        go_wp2
        go_ret
        exact ⟨ret_int HE.out.symm, B2.out.trans (D6.out.below _)⟩
    · have HE : Hid (cmpErr c d = 0) := by
        show _ = _
        rw [HX.out, if_neg]
        rintro (hh | hh | hh)
        · exact hh HW.out
        · exact hh HR.out
        · exact hh (lists_at HL.out (fun j h1 h2 => hv.out j h1 h2 (by omega)))
      go_wp2
      go_ret
      exact ⟨ret_int HE.out.symm, B2.out.trans (D1.out.below _)⟩
end Go.Proofs.Sat
