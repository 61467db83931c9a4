/- The walk of the law RefineTests. -/
import Derived.Test.YtkomfeeimdlokaaGreatDoorRlE
import Derived.Test.YtkomfeeimdlokaaGreatDoorRhB
set_option linter.unusedVariables false
set_option linter.unusedSimpArgs false
namespace Go.Proofs.Sat
open Go Go.RowKit
set_option maxRecDepth 20000 in
set_option maxHeartbeats 4000000 in
theorem law_Tests (c d : Cd) (p q : CdAt) (ls : List (List Int)) (a : Option Addr) (ca : Nat) (w : World) (hK : IsaT w) (h : CdRd (fun _ => True) w c p) (h' : CdRd (fun _ => True) w d q) (himm : ∀ x ∈ c.ins, 0 ≤ x.imm ∧ x.imm < 18446744073709551616) (himm' : ∀ x ∈ d.ins, 0 ≤ x.imm ∧ x.imm < 18446744073709551616) (hr : Rd (Kd.slice (Kd.int .u64)) (fun _ => True) w a ca ls) (hl : ∀ l ∈ ls, ∀ x ∈ l, 0 ≤ x ∧ x < 18446744073709551616) :
    Calls Tryz.prog 7 #[cdVal c p, cdVal d q, .slice a ls.length ca] w fun e w' => e = .returned (.bool true) ∧ Below w.heap.size w w' := by
  have C1 := Lib.hid (fun W (b : Below w.heap.size w W) ho ho' hci hdi => refine_Test (fun _ => True) (fun _ => True) c d p q ls a ca W (hK.below b) (h.frame (Same.below b)) (h'.frame (Same.below b)) ho ho' hci hdi himm himm' (hr.frame (Same.below b)) hl)
  have C2 := Lib.hid (fun W (b : Below w.heap.size w W) ho ho' hci hdi => ref53_Test (fun _ => True) (fun _ => True) c d p q ls a ca W (h.frame (Same.below b)) (h'.frame (Same.below b)) ho ho' hci hdi himm himm' (hr.frame (Same.below b)) hl)
  have CA := Lib.hid (fun W (b : Below w.heap.size w W) => law53_alive W (hK.below b))
  obtain ⟨ia, ic, oa, oc⟩ := p
  obtain ⟨ja, jc, qa, qc⟩ := q
  have BW := Lib.hid (below_alloc (below_alloc (Below.refl w.heap.size w) (.cells (cellsC c ia ic oa oc) 25)) (.cells (cellsC d ja jc qa qc) 25))
  have KC := Lib.hid (block_alloc (heap_alloc_new w (.cells (cellsC c ia ic oa oc) 25)) (.cells (cellsC d ja jc qa qc) 25))
  have KD := Lib.hid (block_at1 w (.cells (cellsC c ia ic oa oc) 25) (.cells (cellsC d ja jc qa qc) 25))
  have HR := Lib.hid hr
  have hll := hr.le
  have hol := h.out.le
  have hil := h.ins.le
  have hql := h'.out.le
  have hjl := h'.ins.le
  clear h h' hr hl himm himm' hK
  unfold cdVal
  go_enter Tryz.func7, Tryz.ntmps7
  obtain ⟨z0, z1, z2, z3⟩ := cd_block4 KC.out
  obtain ⟨y0, y1, y2, y3⟩ := cd_block4 KD.out
  have hsz := BW.out.size
  by_cases h1 : 10 < c.ins.length
  · have t0 : decide ((c.ins.length : Int) > 10) = true := decide_eq_true (by omega)
    have t0' : decide ((10 : Int) < (c.ins.length : Int)) = true := decide_eq_true (by omega)
    clear h1
    go_wp2_with fail
    refine (CA.out _ BW.out).mono ?_
    rintro e w4 ⟨rfl, b4⟩
    go_wp2_with fail
    go_ret
    exact ⟨rfl, below_both BW.out b4⟩
  have t1 : decide ((c.ins.length : Int) > 10) = false := decide_eq_false (by omega)
  have t1' : decide ((10 : Int) < (c.ins.length : Int)) = false := decide_eq_false (by omega)
  by_cases h2 : 10 < d.ins.length
  · have t0 : decide ((d.ins.length : Int) > 10) = true := decide_eq_true (by omega)
    have t0' : decide ((10 : Int) < (d.ins.length : Int)) = true := decide_eq_true (by omega)
    clear h1 h2
    go_wp2_with fail
    refine (CA.out _ BW.out).mono ?_
    rintro e w4 ⟨rfl, b4⟩
    go_wp2_with fail
    go_ret
    exact ⟨rfl, below_both BW.out b4⟩
  have t2 : decide ((d.ins.length : Int) > 10) = false := decide_eq_false (by omega)
  have t2' : decide ((10 : Int) < (d.ins.length : Int)) = false := decide_eq_false (by omega)
  by_cases h3 : 20 < c.out.length
  · have t0 : decide ((c.out.length : Int) > 20) = true := decide_eq_true (by omega)
    have t0' : decide ((20 : Int) < (c.out.length : Int)) = true := decide_eq_true (by omega)
    clear h1 h2 h3
    go_wp2_with fail
    refine (CA.out _ BW.out).mono ?_
    rintro e w4 ⟨rfl, b4⟩
    go_wp2_with fail
    go_ret
    exact ⟨rfl, below_both BW.out b4⟩
  have t3 : decide ((c.out.length : Int) > 20) = false := decide_eq_false (by omega)
  have t3' : decide ((20 : Int) < (c.out.length : Int)) = false := decide_eq_false (by omega)
  by_cases h4 : 20 < d.out.length
  · have t0 : decide ((d.out.length : Int) > 20) = true := decide_eq_true (by omega)
    have t0' : decide ((20 : Int) < (d.out.length : Int)) = true := decide_eq_true (by omega)
    clear h1 h2 h3 h4
    go_wp2_with fail
    refine (CA.out _ BW.out).mono ?_
    rintro e w4 ⟨rfl, b4⟩
    go_wp2_with fail
    go_ret
    exact ⟨rfl, below_both BW.out b4⟩
  have t4 : decide ((d.out.length : Int) > 20) = false := decide_eq_false (by omega)
  have t4' : decide ((20 : Int) < (d.out.length : Int)) = false := decide_eq_false (by omega)
  by_cases h5 : 20 < ls.length
  · have t0 : decide ((ls.length : Int) > 20) = true := decide_eq_true (by omega)
    have t0' : decide ((20 : Int) < (ls.length : Int)) = true := decide_eq_true (by omega)
    clear h1 h2 h3 h4 h5
    go_wp2_with fail
    refine (CA.out _ BW.out).mono ?_
    rintro e w4 ⟨rfl, b4⟩
    go_wp2_with fail
    go_ret
    exact ⟨rfl, below_both BW.out b4⟩
  have t5 : decide ((ls.length : Int) > 20) = false := decide_eq_false (by omega)
  have t5' : decide ((20 : Int) < (ls.length : Int)) = false := decide_eq_false (by omega)
  have HC := Lib.hid (show c.ins.length ≤ 10 ∧ d.ins.length ≤ 10 ∧ c.out.length ≤ 20 ∧ d.out.length ≤ 20 from ⟨by omega, by omega, by omega, by omega⟩)
  clear h1 h2 h3 h4 h5
  go_wp2_with fail
  obtain ⟨wl, hwl⟩ : ∃ wl, wl = (w.alloc (.cells (cellsC c ia ic oa oc) 25)).alloc (.cells (cellsC d ja jc qa qc) 25) := ⟨_, rfl⟩
  rw [← hwl] at BW KC KD z0 z1 z2 z3 y0 y1 y2 y3
  change Code.wp _ _ _ _ ((w.alloc (.cells (cellsC c ia ic oa oc) 25)).alloc (.cells (cellsC d ja jc qa qc) 25))
  rw [← hwl]
  clear hwl
  go_loopw [7] (fun i wr => ∃ k : Nat, k ≤ ls.length ∧ i = .int .i64 k ∧ Hid (Drawn wl wr)) (fun i _ => ls.length - (intOf i).toNat)
  case atStart => exact ⟨0, by omega, rfl, Drawn.refl _⟩
  case round =>
    obtain ⟨k, hk9, rfl, HD⟩ := hrel
    have BB := Lib.hid (BW.out.trans (HD.out.below _))
    by_cases hlt : k < ls.length
    · obtain ⟨b, o, cs, rfl, -, hbw, hk, hcell⟩ := (HR.out.frame (Same.below BB.out)).elem hlt
      obtain ⟨sa, sc, rfl, hrd⟩ := hk
      have d5 := hcell 0 _ rfl
      have hsz : (Kd.slice (Kd.int .u64)).sz = 1 := rfl
      rw [hsz, Nat.mul_one, Nat.add_zero] at d5
      have hln := hrd.le
      clear hcell hrd hsz
      generalize ls[k] = l at *
      obtain ⟨ln, hln'⟩ : ∃ n, n = l.length := ⟨_, rfl⟩
      rw [← hln'] at d5 hln
      clear hln'
      by_cases h9 : 20 < ln
      · have t9 : decide ((ln : Int) > 20) = true := decide_eq_true (by omega)
        have t9' : decide ((20 : Int) < (ln : Int)) = true := decide_eq_true (by omega)
        clear h9
        go_wp2_with fail
        refine (CA.out _ BB.out).mono ?_
        rintro e w4 ⟨rfl, b4⟩
        go_wp2_with fail
        go_ret
        exact ⟨rfl, below_both BB.out b4⟩
      · have t9 : decide ((ln : Int) > 20) = false := decide_eq_false (by omega)
        have t9' : decide ((20 : Int) < (ln : Int)) = false := decide_eq_false (by omega)
        clear h9
        go_wp2_with fail
        go_roundw
        case rel => exact ⟨k + 1, by omega, by go_num, HD.out⟩
        case measure => simp [intOf]; omega
    · have hnl : ¬ ((k : Int) < (ls.length : Int)) := by omega
      have KC5 := Lib.hid (HD.out.heap KC.out)
      have KD5 := Lib.hid (HD.out.heap KD.out)
      clear z0 z1 z2 z3 y0 y1 y2 y3
      obtain ⟨z0, z1, z2, z3⟩ := cd_block4 KC5.out
      obtain ⟨y0, y1, y2, y3⟩ := cd_block4 KD5.out
      go_wp2_with fail
      refine (C1.out _ BB.out HC.out.2.2.1 HC.out.2.2.2 (by have := HC.out; omega) (by have := HC.out; omega)).mono ?_
      rintro e w1 ⟨rfl, b1⟩
      have B1 := Lib.hid (below_both BB.out b1)
      have KC1 := Lib.hid (block_below b1 KC5.out)
      have KD1 := Lib.hid (block_below b1 KD5.out)
      clear b1 z0 z1 z2 z3 y0 y1 y2 y3 C1
      obtain ⟨z0, z1, z2, z3⟩ := cd_block4 KC1.out
      obtain ⟨y0, y1, y2, y3⟩ := cd_block4 KD1.out
      go_wp2_with fail
      refine (C2.out _ B1.out HC.out.2.2.1 HC.out.2.2.2 (by have := HC.out; omega) (by have := HC.out; omega)).mono ?_
      rintro e w2 ⟨rfl, b2⟩
      have B2 := Lib.hid (below_both B1.out b2)
      clear b2 z0 z1 z2 z3 y0 y1 y2 y3 C2
      generalize tstI c d ls = ti at *
      cases tstB c d ls
      · go_wp2_with fail
        refine (CA.out _ B2.out).mono ?_
        rintro e w4 ⟨rfl, b4⟩
        go_wp2_with fail
        go_ret
        exact ⟨rfl, below_both B2.out b4⟩
      · go_wp2_with fail
        refine (CA.out _ B2.out).mono ?_
        rintro e w4 ⟨rfl, b4⟩
        go_wp2_with fail
        go_ret
        exact ⟨rfl, below_both B2.out b4⟩
end Go.Proofs.Sat
