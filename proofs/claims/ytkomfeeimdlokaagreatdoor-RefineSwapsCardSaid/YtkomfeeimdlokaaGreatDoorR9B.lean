/- R9A, R9B, one after the other. -/
import Derived.Test.YtkomfeeimdlokaaGreatDoorR8C
import Derived.Test.YtkomfeeimdlokaaGreatDoorRgC
import Derived.Test.YtkomfeeimdlokaaGreatDoorLvQ4
set_option linter.unusedVariables false
set_option linter.unusedSimpArgs false
/- The walk of ref53's Comparable. -/
namespace Go.Proofs.Sat
open Go Go.RowKit
theorem lists_at {l m : List Int} (hl : l.length = m.length) (h : ∀ j (h1 : j < l.length) (h2 : j < m.length), l[j] = m[j]) : l = m := List.ext_getElem hl h
set_option maxRecDepth 20000 in
set_option maxHeartbeats 2000000 in
theorem ref53_Comparable (S : Nat → Prop) (c d : Cd) (p q : CdAt) (w : World) (h : CdRd S w c p) (h' : CdRd S w d q) (himm : ∀ x ∈ c.ins, 0 ≤ x.imm ∧ x.imm < 18446744073709551616) (himm' : ∀ x ∈ d.ins, 0 ≤ x.imm ∧ x.imm < 18446744073709551616) :
    Calls Tryz.prog 26 #[cdVal c p, cdVal d q] w fun e w' => e = .returned (.int .i64 (cmpErr c d)) ∧ Below w.heap.size w w' := by
  have CC := Lib.hid (fun W (b : Below w.heap.size w W) => ref48_Check S c p W (h.frame (Same.below b)) himm)
  have CD := Lib.hid (fun W (b : Below w.heap.size w W) => ref48_Check S d q W (h'.frame (Same.below b)) himm')
  obtain ⟨ia, ic, oa, oc⟩ := p
  obtain ⟨ja, jc, qa, qc⟩ := q
  have BW := Lib.hid (below_alloc (below_alloc (Below.refl w.heap.size w) (.cells (cellsC c ia ic oa oc) 25)) (.cells (cellsC d ja jc qa qc) 25))
  have KC := Lib.hid (block_alloc (heap_alloc_new w (.cells (cellsC c ia ic oa oc) 25)) (.cells (cellsC d ja jc qa qc) 25))
  have KD := Lib.hid (block_at1 w (.cells (cellsC c ia ic oa oc) 25) (.cells (cellsC d ja jc qa qc) 25))
  have hol := h.out.le
  have hql := h'.out.le
  have HO : Hid (Rd (Kd.int .i64) S w oa oc c.out) := h.out
  have HO' : Hid (Rd (Kd.int .i64) S w qa qc d.out) := h'.out
  clear h h' himm himm'
  unfold cdVal
  go_enter Tryz.func26, Tryz.ntmps26
  obtain ⟨z0, z1, z2, z3⟩ := cd_block4 KC.out
  obtain ⟨y0, y1, y2, y3⟩ := cd_block4 KD.out
  go_wp2_with fail
  refine (CC.out _ BW.out).mono ?_
  rintro e w1 ⟨rfl, b1⟩
  have B1 := Lib.hid (below_both BW.out b1)
  have KC1 := Lib.hid (block_below b1 KC.out)
  have KD1 := Lib.hid (block_below b1 KD.out)
  clear b1 z0 z1 z2 z3 y0 y1 y2 y3 BW KC KD CC
  obtain ⟨z0, z1, z2, z3⟩ := cd_block4 KC1.out
  obtain ⟨y0, y1, y2, y3⟩ := cd_block4 KD1.out
  by_cases hc : cdErr c = 0
  case neg =>
    have t0 : (cdErr c != 0) = true := by simpa using hc
    have HE : Hid (cmpErr c d = cdErr c) := by show _ = _; unfold cmpErr; rw [if_pos hc]
    clear hc
    go_wp2_with fail
    go_ret
    exact ⟨ret_int HE.out.symm, B1.out⟩
  have t0 : (cdErr c != 0) = false := by simpa using hc
  have HC := Lib.hid hc
  clear hc
  go_wp2_with fail
  refine (CD.out _ B1.out).mono ?_
  rintro e w2 ⟨rfl, b2⟩
  have B2 := Lib.hid (below_both B1.out b2)
  have KC2 := Lib.hid (block_below b2 KC1.out)
  have KD2 := Lib.hid (block_below b2 KD1.out)
  clear b2 z0 z1 z2 z3 y0 y1 y2 y3 B1 KC1 KD1 CD
  obtain ⟨z0, z1, z2, z3⟩ := cd_block4 KC2.out
  obtain ⟨y0, y1, y2, y3⟩ := cd_block4 KD2.out
  by_cases hd : cdErr d = 0
  case neg =>
    have t1 : (cdErr d != 0) = true := by simpa using hd
    have HE : Hid (cmpErr c d = cdErr d) := by show _ = _; unfold cmpErr; rw [if_neg (not_not_intro HC.out), if_pos hd]
    clear hd
    go_wp2_with fail
    go_ret
    exact ⟨ret_int HE.out.symm, B2.out⟩
  have t1 : (cdErr d != 0) = false := by simpa using hd
  have HD := Lib.hid hd
  clear hd
  have HX : Hid (cmpErr c d = if c.width ≠ d.width ∨ c.regs ≠ d.regs ∨ c.out ≠ d.out then 1 else 0) := by show _ = _; unfold cmpErr; rw [if_neg (not_not_intro HC.out), if_neg (not_not_intro HD.out)]
  by_cases hw : c.width = d.width
  case neg =>
    have t2 : (c.width != d.width) = true := by simpa using hw
    have HE : Hid (cmpErr c d = 1) := by show _ = _; rw [HX.out, if_pos (.inl hw)]
    clear hw
    go_wp2_with fail
    go_ret
    exact ⟨ret_int HE.out.symm, B2.out⟩
  have t2 : (c.width != d.width) = false := by simpa using hw
  have HW := Lib.hid hw
  clear hw
  by_cases hr : c.regs = d.regs
  case neg =>
    have t3 : (c.regs != d.regs) = true := by simpa using hr
    have HE : Hid (cmpErr c d = 1) := by show _ = _; rw [HX.out, if_pos (.inr (.inl hr))]
    clear hr
    go_wp2_with fail
    go_ret
    exact ⟨ret_int HE.out.symm, B2.out⟩
  have t3 : (c.regs != d.regs) = false := by simpa using hr
  have HR := Lib.hid hr
  clear hr
  by_cases hl : c.out.length = d.out.length
  case neg =>
    have t4 : ((c.out.length : Int) != (d.out.length : Int)) = true := by simp; omega
    have t5 : (c.out.length != d.out.length) = true := by simpa using hl
    have HE : Hid (cmpErr c d = 1) := by show _ = _; rw [HX.out, if_pos (.inr (.inr (fun hh => hl (by rw [hh]))))]
    clear hl
    go_wp2_with fail
    go_ret
    exact ⟨ret_int HE.out.symm, B2.out⟩
  have t4 : ((c.out.length : Int) != (d.out.length : Int)) = false := by simp; omega
  have t5 : (c.out.length != d.out.length) = false := by simpa using hl
  have HL := Lib.hid hl
  clear hl
  go_wp2_with fail
  clear t0 t1 t2 t3 t4 t5 z0 z1 z2 z3 y0 y1 y2 y3
  go_loopw [7] (fun i wr => ∃ k : Nat, k ≤ c.out.length ∧ i = .int .i64 k ∧ Hid (∀ j (h1 : j < c.out.length) (h2 : j < d.out.length), j < k → c.out[j] = d.out[j]) ∧ Hid (Drawn w2 wr)) (fun i _ => c.out.length - (intOf i).toNat)
  case atStart => exact ⟨0, by omega, rfl, fun j h1 h2 h => by omega, Drawn.refl _⟩
  case round =>
    obtain ⟨k, hk9, rfl, hv, D1⟩ := hrel
    obtain ⟨z0, z1, z2, z3⟩ := cd_block4 (D1.out.heap KC2.out)
    obtain ⟨y0, y1, y2, y3⟩ := cd_block4 (D1.out.heap KD2.out)
    by_cases hlt : k < c.out.length
    · have hlt2 : k < d.out.length := by have := HL.out; omega
      obtain ⟨b1, o1, rfl, _, _, hc1⟩ := ((HO.out.frame (Same.below B2.out)).frame (Same.drawn _ D1.out)).vals (by omega) 0
      obtain ⟨b2, o2, rfl, _, _, hc2⟩ := ((HO'.out.frame (Same.below B2.out)).frame (Same.drawn _ D1.out)).vals (by omega) 0
      have d1 := hc1 k hlt
      have d2 := hc2 k hlt2
      rw [getD_at _ hlt] at d1
      rw [getD_at _ hlt2] at d2
      have HB5 := Lib.hid (fun (hq : c.out[k] ≠ d.out[k]) => show cmpErr c d = 1 from by
        rw [HX.out, if_pos (.inr (.inr (fun hh => hq (by simp only [hh]))))])
      have HV5 := Lib.hid (fun (hq : c.out[k] = d.out[k]) j (h1 : j < c.out.length) (h2 : j < d.out.length) (hjk : j < k + 1) => show c.out[j] = d.out[j] from by
        rcases Nat.lt_or_ge j k with h' | h'
        · exact hv.out j h1 h2 h'
        · obtain rfl : j = k := by omega
          exact hq)
      clear hc1 hc2
      generalize c.out[k] = r at *
      generalize d.out[k] = s at *
      go_wp2_with fail
      go_quiet (fail)
      have D6 := Lib.hid (D1.out.trans (Drawn.of wr nq))
      by_cases hq : r = s
      · have t0 : (r != s) = false := by simpa using hq
        have HV6 := Lib.hid (HV5.out hq)
        clear hq
        go_wp2
        go_roundw
        case rel => exact ⟨k + 1, by omega, by go_num, HV6.out, D6.out⟩
        case measure => simp [intOf]; omega
      · have t0 : (r != s) = true := by simpa using hq
        have HE := Lib.hid (HB5.out hq)
        clear hq
        go_wp2
        go_ret
        exact ⟨ret_int HE.out.symm, B2.out.trans (D6.out.below _)⟩
    · have HE : Hid (cmpErr c d = 0) := by
        show _ = _
        rw [HX.out, if_neg]
        rintro (hh | hh | hh)
        · exact hh HW.out
        · exact hh HR.out
        · exact hh (lists_at HL.out (fun j h1 h2 => hv.out j h1 h2 (by omega)))
      go_wp2
      go_ret
      exact ⟨ret_int HE.out.symm, B2.out.trans (D1.out.below _)⟩
end Go.Proofs.Sat
/- The walks of ref53's States and of ref02's SameInts. -/
namespace Go.Proofs.Sat
open Go Go.RowKit
set_option maxHeartbeats 400000 in
theorem ref02_SameInts (S1 S2 : Nat → Prop) (a1 a2 : Option Addr) (c1 c2 : Nat) (l1 l2 : List Int) (w : World) (h1 : Rd (Kd.int .i64) S1 w a1 c1 l1) (h2 : Rd (Kd.int .i64) S2 w a2 c2 l2) :
    Calls Tryz.prog 13 #[.slice a1 l1.length c1, .slice a2 l2.length c2] w fun e w' => e = .returned (.bool (decide (l1 = l2))) ∧ Drawn w w' := by
  have hl1 := h1.le
  have hl2 := h2.le
  go_enter Tryz.func13, Tryz.ntmps13
  by_cases he : l1.length = l2.length
  · have hb : (l1.length != l2.length) = false := by simp [he]
    have hb' : ((l1.length : Int) != (l2.length : Int)) = false := by simp [he]
    have HE := Lib.hid he
    clear he
    go_wp2
    go_loopw [5] (fun i wr => ∃ k : Nat, k ≤ l1.length ∧ i = .int .i64 k ∧ Hid (∀ i, i < k → l1.getD i 0 = l2.getD i 0) ∧ Drawn w wr) (fun i _ => l1.length - (intOf i).toNat)
    case atStart => exact ⟨0, by omega, rfl, fun i h => by omega, Drawn.refl _⟩
    case round =>
      obtain ⟨k, hk, rfl, hv, n, rfl⟩ := hrel
      by_cases hlt : k < l1.length
      · have hlt2 : k < l2.length := by have := HE.out; omega
        obtain ⟨b1, o1, rfl, _, _, hc1⟩ := h1.vals (by omega) 0
        obtain ⟨b2, o2, rfl, _, _, hc2⟩ := h2.vals (by omega) 0
        have d1 := hc1 k hlt
        have d2 := hc2 k hlt2
        have E1 := Lib.hid (getD_at l1 hlt)
        have E2 := Lib.hid (getD_at l2 hlt2)
        clear hc1 hc2 hb hb'
        go_wp2
        go_quiet (fail)
        by_cases hq : l1[k] = l2[k]
        · have hq' : (l1[k] != l2[k]) = false := by simp [hq]
          have HQ := Lib.hid hq
          clear hq
          go_wp2
          go_roundw
          case rel =>
            refine ⟨k + 1, by omega, by go_num, fun i h => ?_, by first | exact Drawn.of _ _ | exact Drawn.step (Drawn.of _ _) _⟩
            rcases Nat.lt_or_ge i k with h' | h'
            · exact hv.out i h'
            · obtain rfl : i = k := by omega
              rw [E1.out, E2.out, HQ.out]
          case measure => simp [intOf]; omega
        · have hq' : (l1[k] != l2[k]) = true := by simp [hq]
          have HQ := Lib.hid hq
          clear hq
          go_wp2
          go_ret
          refine ⟨ret_bool ?_, by first | exact Drawn.of _ _ | exact Drawn.step (Drawn.of _ _) _⟩
          symm
          rw [decide_eq_false_iff_not]
          rintro rfl
          exact HQ.out rfl
      · clear hb hb'
        go_wp2
        go_ret
        refine ⟨ret_bool ?_, Drawn.of _ _⟩
        symm
        rw [decide_eq_true_eq, eq_iff_places]
        exact ⟨HE.out, fun i hi => hv.out i (by omega)⟩
  · have hb : (l1.length != l2.length) = true := by simp [he]
    have hb' : ((l1.length : Int) != (l2.length : Int)) = true := by simp; omega
    go_wp2
    go_ret
    refine ⟨ret_bool ?_, Drawn.refl _⟩
    symm
    rw [decide_eq_false_iff_not]
    rintro rfl
    exact he rfl
--.
set_option maxRecDepth 20000 in
set_option maxHeartbeats 4000000 in
theorem ref53_States (S : Nat → Prop) (c d : Cd) (p q : CdAt) (w : World) (h : CdRd S w c p) (h' : CdRd S w d q) (himm : ∀ x ∈ c.ins, 0 ≤ x.imm ∧ x.imm < 18446744073709551616) (himm' : ∀ x ∈ d.ins, 0 ≤ x.imm ∧ x.imm < 18446744073709551616) :
    Calls Tryz.prog 12 #[cdVal c p, cdVal d q] w fun e w' => ∃ v, e = .returned (.tuple #[v, .int .i64 (stsN c d : Int), .int .i64 (stsErr c d)]) ∧ Own (Kd.int .i64) 3 NoS w' w.heap.size v (stsL c d) ∧ Below w.heap.size w w' := by
  have CX := Lib.hid (fun W (b : Below w.heap.size w W) => ref53_Comparable S c d p q W (h.frame (Same.below b)) (h'.frame (Same.below b)) himm himm')
  have C1 := Lib.hid (fun W (b : Below w.heap.size w W) => ref50_Inputs S c p W (h.frame (Same.below b)))
  have C2 := Lib.hid (fun W (b : Below w.heap.size w W) => ref50_Inputs S d q W (h'.frame (Same.below b)))
  obtain ⟨ia, ic, oa, oc⟩ := p
  obtain ⟨ja, jc, qa, qc⟩ := q
  have BW := Lib.hid (below_alloc (below_alloc (Below.refl w.heap.size w) (.cells (cellsC c ia ic oa oc) 25)) (.cells (cellsC d ja jc qa qc) 25))
  have KC := Lib.hid (block_alloc (heap_alloc_new w (.cells (cellsC c ia ic oa oc) 25)) (.cells (cellsC d ja jc qa qc) 25))
  have KD := Lib.hid (block_at1 w (.cells (cellsC c ia ic oa oc) 25) (.cells (cellsC d ja jc qa qc) 25))
  have hol := h.out.le
  have hil := h.ins.le
  have hql := h'.out.le
  have hjl := h'.ins.le
  clear h h' himm himm'
  unfold cdVal
  go_enter Tryz.func12, Tryz.ntmps12
  obtain ⟨z0, z1, z2, z3⟩ := cd_block4 KC.out
  obtain ⟨y0, y1, y2, y3⟩ := cd_block4 KD.out
  go_wp2_with fail
  refine (CX.out _ BW.out).mono ?_
  rintro e w1 ⟨rfl, b1⟩
  have B1 := Lib.hid (below_both BW.out b1)
  have KC1 := Lib.hid (block_below b1 KC.out)
  have KD1 := Lib.hid (block_below b1 KD.out)
  clear b1 z0 z1 z2 z3 y0 y1 y2 y3 BW KC KD CX
  obtain ⟨z0, z1, z2, z3⟩ := cd_block4 KC1.out
  obtain ⟨y0, y1, y2, y3⟩ := cd_block4 KD1.out
  by_cases he : cmpErr c d = 0
  case neg =>
    have t0 : (cmpErr c d != 0) = true := by simpa using he
    have HS : Hid (stsErr c d = cmpErr c d) := by show _ = _; unfold stsErr; exact if_pos he
    have HZ : Hid (stsErr c d ≠ 0) := by show _ ≠ _; rw [HS.out]; exact he
    clear he
    go_wp2_with fail
    go_ret3
    refine ⟨_, ret_three rfl ?_ ?_, ?_, B1.out⟩
    · unfold stsN; rw [if_neg HZ.out]; rfl
    · rw [HS.out]
    · unfold stsL; rw [if_neg HZ.out]; exact Own.nil _ _ _ _ _
  have t0 : (cmpErr c d != 0) = false := by simpa using he
  have HCE := Lib.hid he
  have HC : Hid (cdErr c = 0) := by
    show _ = _
    by_cases hh : cdErr c = 0
    · exact hh
    · exfalso; unfold cmpErr at he; rw [if_pos hh] at he; exact hh he
  clear he
  go_wp2_with fail
  go_region_held3 (fun w' => (w'.cell? ⟨w.heap.size, 0, none⟩ = some (.int .i64 c.width) ∧ w'.cell? ⟨w.heap.size, 1, none⟩ = some (.int .i64 c.regs) ∧ w'.cell? ⟨w.heap.size, 2, none⟩ = some (.slice ia c.ins.length ic) ∧ w'.cell? ⟨w.heap.size, 3, none⟩ = some (.slice oa c.out.length oc)) ∧
      w'.cell? ⟨w.heap.size + 1, 0, none⟩ = some (.int .i64 d.width) ∧ w'.cell? ⟨w.heap.size + 1, 1, none⟩ = some (.int .i64 d.regs) ∧ w'.cell? ⟨w.heap.size + 1, 2, none⟩ = some (.slice ja d.ins.length jc) ∧ w'.cell? ⟨w.heap.size + 1, 3, none⟩ = some (.slice qa d.out.length qc))
    (first | with_reducible exact ⟨cd_block4 KC4.out, cd_block4 KD4.out⟩ | with_reducible exact ⟨cd_block4 KC3.out, cd_block4 KD3.out⟩ | with_reducible exact ⟨cd_block4 KC2.out, cd_block4 KD2.out⟩ | exact ⟨⟨z0, z1, z2, z3⟩, y0, y1, y2, y3⟩)
    (first
    | (go_at_call 28; with_reducible refine gate_a #[cdVal c ⟨ia, ic, oa, oc⟩] rfl ?_; refine (C1.out _ (by exact B1.out.trans ((Drawn.refl w1).drew.below _))).mono ?_; rintro e w2 ⟨v2, rfl, o2, b2⟩; have B2 := Lib.hid (below_both (B1.out.trans ((Drawn.refl w1).drew.below _)) b2); have KC2 := Lib.hid (block_below b2 ((Drawn.refl w1).drew.heap KC1.out)); have KD2 := Lib.hid (block_below b2 ((Drawn.refl w1).drew.heap KD1.out)); have O2 := Lib.hid o2; have hs2 := B2.out.size; obtain ⟨a2, c2, rfl⟩ := o2.form; clear o2 b2)
    | (go_at_call 28; refine (C2.out _ B2.out).mono ?_; rintro e w3 ⟨v3, rfl, o3, b3⟩; have B3 := Lib.hid (below_both B2.out b3); have KC3 := Lib.hid (block_below b3 KC2.out); have KD3 := Lib.hid (block_below b3 KD2.out); have O3 := Lib.hid o3; have R2 := Lib.hid ((O2.out.below b3).rd'); obtain ⟨a3, c3, rfl⟩ := o3.form; have R3 := Lib.hid (O3.out.rd'); clear o3 b3)
    | (go_at_call 27; refine (ref50_Both _ _ a2 a3 c2 c3 (inpL c) (inpL d) _ R2.out R3.out).mono ?_; rintro e w4 ⟨v4, rfl, o4, b4⟩; have B4 := Lib.hid (below_both B3.out b4); have KC4 := Lib.hid (block_below b4 KC3.out); have KD4 := Lib.hid (block_below b4 KD3.out); have hs3 := B3.out.size; obtain ⟨a4, c4, rfl⟩ := o4.form; rw [← both_eq] at o4; have O4 := Lib.hid (show Own (Kd.int .i64) 3 NoS w4 w3.heap.size (.slice a4 (inp2 c d).length c4) (inp2 c d) from o4); clear o4 b4)
    | fail)
  rw [show (regsK (bothS (inpL c) (inpL d)) 8).length = (inp2 c d).length from by rw [← both_eq]; rfl]
  clear z0 z1 z2 z3 y0 y1 y2 y3
  obtain ⟨z0, z1, z2, z3⟩ := cd_block4 KC4.out
  have hil := inp2_length c d
  have HOK := Lib.hid (cd_ok HC.out)
  have hw1 := HOK.out.w1
  have hw2 := HOK.out.w2
  obtain ⟨m, hm⟩ : ∃ m, m = c.width.toNat * (inp2 c d).length := ⟨_, rfl⟩
  have hcw : c.width * ((inp2 c d).length : Int) = (m : Int) := by rw [hm, Int.natCast_mul, Int.toNat_of_nonneg (by omega)]
  have hm1 : m ≤ 64 * 16 := by rw [hm]; exact Nat.mul_le_mul (by omega) hil
  have HE : Hid (stsErr c d = if 16 < (m : Int) then 7 else 0) := by show _ = _; unfold stsErr; rw [if_neg (not_not_intro HCE.out), hcw]
  have HN : Hid (stsN c d = if stsErr c d = 0 then 2 ^ m else 0) := by show _ = _; unfold stsN; rw [hm]
  have HL : Hid (stsL c d = if stsErr c d = 0 then inp2 c d else []) := rfl
  have HWJ : Hid (wrap64 (c.width * ((inp2 c d).length : Int)) = (m : Int)) := by show _ = _; rw [hcw, IntWalk.wrap64_in _ (by omega)]
  have hwj := HWJ.out
  generalize inp2 c d = I at *
  have hmI : (0 : Int) ≤ (m : Int) := by omega
  clear hm hcw hw1 hw2 HOK
  by_cases h16 : m ≤ 16
  · have t0 : decide ((m : Int) > 16) = false := decide_eq_false (by omega)
    have t0' : decide ((16 : Int) < (m : Int)) = false := decide_eq_false (by omega)
    rw [if_neg (by omega)] at HE
    rw [if_pos HE.out] at HN HL
    have HP : Hid (wrap64 ((2 : Int) ^ min (IntKind.u64.wrap (m : Int)).toNat 64) = ((2 ^ m : Nat) : Int)) := by
      show _ = _
      rw [u64_wrap_id (m : Int) (by omega) (by omega), Int.toNat_natCast]
      exact pow_i64 h16
    clear h16 hm1
    go_wp2_with fail
    go_quiet (fail)
    go_wp2_with fail
    go_ret3
    refine ⟨_, ret_three rfl ?_ ?_, ?_, ?_⟩
    · rw [HN.out]; exact HP.out
    · rw [HE.out]
    · rw [HL.out]; exact (O4.out.mono (fun b _ h => h) hs3).drewN _
    · exact below_both B4.out ((Drawn.of w4 _).below _)
  · have t0 : decide ((m : Int) > 16) = true := decide_eq_true (by omega)
    have t0' : decide ((16 : Int) < (m : Int)) = true := decide_eq_true (by omega)
    rw [if_pos (by omega)] at HE
    rw [if_neg (by rw [HE.out]; decide)] at HN HL
    clear h16 hm1
    go_wp2_with fail
    go_ret3
    refine ⟨_, ret_three rfl ?_ ?_, ?_, B4.out⟩
    · rw [HN.out]; rfl
    · rw [HE.out]
    · rw [HL.out]; exact Own.nil _ _ _ _ _
end Go.Proofs.Sat
