/- The walks of ref53's Shows, Check and Few. -/
import Derived.Test.YtkomfeeimdlokaaGreatDoorRlC
import Derived.Test.YtkomfeeimdlokaaGreatDoorR9B
import Derived.Test.YtkomfeeimdlokaaGreatDoorRhB
set_option linter.unusedVariables false
set_option linter.unusedSimpArgs false
namespace Go.Proofs.Sat
open Go Go.RowKit
set_option maxRecDepth 20000 in
set_option maxHeartbeats 2000000 in
theorem ref53_Shows (S Sl : Nat → Prop) (c d : Cd) (p q : CdAt) (l : List Int) (a : Option Addr) (ca : Nat) (w : World) (h : CdRd S w c p) (h' : CdRd S w d q) (ho : c.out.length ≤ 20) (ho' : d.out.length ≤ 20) (himm : ∀ x ∈ c.ins, 0 ≤ x.imm ∧ x.imm < 18446744073709551616) (himm' : ∀ x ∈ d.ins, 0 ≤ x.imm ∧ x.imm < 18446744073709551616) (hr : Rd (Kd.int .u64) Sl w a ca l) (hl : ∀ x ∈ l, 0 ≤ x ∧ x < 18446744073709551616) :
    Calls Tryz.prog 32 #[cdVal c p, cdVal d q, .slice a l.length ca] w fun e w' => e = .returned (.bool (showsB c d l)) ∧ Below w.heap.size w w' := by
  have CX := fun W (b : Below w.heap.size w W) => ref49_Outs S Sl c p l a ca W (h.frame (Same.below b)) ho himm (hr.frame (Same.below b)) hl
  have CY := fun W (b : Below w.heap.size w W) => ref49_Outs S Sl d q l a ca W (h'.frame (Same.below b)) ho' himm' (hr.frame (Same.below b)) hl
  obtain ⟨ia, ic, oa, oc⟩ := p
  obtain ⟨ja, jc, qa, qc⟩ := q
  have BW := Lib.hid (below_alloc (below_alloc (Below.refl w.heap.size w) (.cells (cellsC c ia ic oa oc) 25)) (.cells (cellsC d ja jc qa qc) 25))
  have KC := Lib.hid (block_alloc (heap_alloc_new w (.cells (cellsC c ia ic oa oc) 25)) (.cells (cellsC d ja jc qa qc) 25))
  have KD := Lib.hid (block_at1 w (.cells (cellsC c ia ic oa oc) 25) (.cells (cellsC d ja jc qa qc) 25))
  have HX := Lib.hid CX
  have HY := Lib.hid CY
  have hol := h.out.le
  have hil := h.ins.le
  have hql := h'.out.le
  have hjl := h'.ins.le
  have hll := hr.le
  clear h h' hr hl himm himm' CX CY
  unfold cdVal
  go_enter Tryz.func32, Tryz.ntmps32
  obtain ⟨z0, z1, z2, z3⟩ := cd_block4 KC.out
  go_wp2_with fail
  refine (HX.out _ BW.out).mono ?_
  rintro e w2 ⟨v2, rfl, o2, b2⟩
  obtain ⟨a2, c2, rfl⟩ := o2.form
  have B2 := Lib.hid (below_both BW.out b2)
  have KD2 := Lib.hid (block_below b2 KD.out)
  have O2 := Lib.hid o2
  clear b2 o2 z0 z1 z2 z3
  by_cases he : errR c l = 0
  case neg =>
    have t0 : (errR c l != 0) = true := by simpa using he
    have HE : Hid (showsB c d l = false) := by show _ = _; unfold showsB; rw [decide_eq_false he]; rfl
    clear he
    go_wp2_with fail
    go_ret
    exact ⟨ret_bool (by rw [HE.out]), B2.out⟩
  have t0 : (errR c l != 0) = false := by simpa using he
  have HE0 := Lib.hid he
  clear he
  obtain ⟨y0, y1, y2, y3⟩ := cd_block4 KD2.out
  go_wp2_with fail
  refine (HY.out _ B2.out).mono ?_
  rintro e w3 ⟨v3, rfl, o3, b3⟩
  obtain ⟨a3, c3, rfl⟩ := o3.form
  have B3 := Lib.hid (below_both B2.out b3)
  have O3 := Lib.hid o3
  have O2' := Lib.hid (O2.out.below b3)
  clear b3 o3 y0 y1 y2 y3
  by_cases he : errR d l = 0
  case neg =>
    have t1 : (errR d l != 0) = true := by simpa using he
    have HE : Hid (showsB c d l = true) := by show _ = _; unfold showsB; rw [decide_eq_true HE0.out, decide_eq_true he]; rfl
    clear he
    go_wp2_with fail
    go_ret
    exact ⟨ret_bool (by rw [HE.out]), B3.out⟩
  have t1 : (errR d l != 0) = false := by simpa using he
  have HE : Hid (showsB c d l = !(decide (outsL c l = outsL d l))) := by show _ = _; unfold showsB; rw [decide_eq_true HE0.out, decide_eq_false (not_not_intro he)]; simp
  have CE := Lib.hid (ref49_Same _ _ a2 a3 c2 c3 (outsL c l) (outsL d l) w3 (Own.rd' O2'.out) (Own.rd' O3.out))
  generalize decide (outsL c l = outsL d l) = bb at *
  clear he
  go_wp2_with fail
  refine CE.out.mono ?_
  rintro e w4 ⟨rfl, d4⟩
  have B4 := Lib.hid (below_both B3.out (d4.below _))
  clear d4
  go_wp2_with fail
  go_ret
  exact ⟨ret_bool (by rw [HE.out]), B4.out⟩
set_option maxRecDepth 20000 in
set_option maxHeartbeats 4000000 in
theorem ref53_Check (S : Nat → Prop) (c d : Cd) (p q : CdAt) (w : World) (h : CdRd S w c p) (h' : CdRd S w d q) (ho : c.out.length ≤ 20) (ho' : d.out.length ≤ 20) (himm : ∀ x ∈ c.ins, 0 ≤ x.imm ∧ x.imm < 18446744073709551616) (himm' : ∀ x ∈ d.ins, 0 ≤ x.imm ∧ x.imm < 18446744073709551616) :
    Calls Tryz.prog 16 #[cdVal c p, cdVal d q] w fun e w' => ∃ a ca, e = .returned (.tuple #[.bool (chkB c d), .slice a (chkS c d).length ca, .int .i64 (stsErr c d)]) ∧ Rd (Kd.int .u64) (fun b => w.heap.size ≤ b) w' a ca (chkS c d) ∧ Below w.heap.size w w' := by
  have CC := Lib.hid (fun W (b : Below w.heap.size w W) => ref53_States S c d p q W (h.frame (Same.below b)) (h'.frame (Same.below b)) himm himm')
  have CS := Lib.hid (fun W (b : Below w.heap.size w W) Sl l a ca (hr : Rd (Kd.int .u64) Sl W a ca l) (hl : ∀ x ∈ l, 0 ≤ x ∧ x < 18446744073709551616) => ref53_Shows S Sl c d p q l a ca W (h.frame (Same.below b)) (h'.frame (Same.below b)) ho ho' himm himm' hr hl)
  obtain ⟨ia, ic, oa, oc⟩ := p
  obtain ⟨ja, jc, qa, qc⟩ := q
  have BW := Lib.hid (below_alloc (below_alloc (Below.refl w.heap.size w) (.cells (cellsC c ia ic oa oc) 25)) (.cells (cellsC d ja jc qa qc) 25))
  have KC := Lib.hid (block_alloc (heap_alloc_new w (.cells (cellsC c ia ic oa oc) 25)) (.cells (cellsC d ja jc qa qc) 25))
  have KD := Lib.hid (block_at1 w (.cells (cellsC c ia ic oa oc) 25) (.cells (cellsC d ja jc qa qc) 25))
  have hol := h.out.le
  have hil := h.ins.le
  have hql := h'.out.le
  have hjl := h'.ins.le
  clear h h' himm himm' ho ho'
  unfold cdVal
  go_enter Tryz.func16, Tryz.ntmps16
  obtain ⟨z0, z1, z2, z3⟩ := cd_block4 KC.out
  obtain ⟨y0, y1, y2, y3⟩ := cd_block4 KD.out
  go_wp2_with fail
  refine (CC.out _ BW.out).mono ?_
  rintro e w1 ⟨v, rfl, o1, b1⟩
  obtain ⟨a1, c1, rfl⟩ := o1.form
  have B1 := Lib.hid (below_both BW.out b1)
  have KC1 := Lib.hid (block_below b1 KC.out)
  have KD1 := Lib.hid (block_below b1 KD.out)
  have R1 := Lib.hid (Own.rd' o1)
  clear o1 b1 z0 z1 z2 z3 y0 y1 y2 y3
  by_cases he : stsErr c d = 0
  case neg =>
    have t0 : (stsErr c d != 0) = true := by simpa using he
    have hS : Hid (chkS c d = []) := by show _ = _; unfold chkS chkK stsN; rw [if_neg he]; rfl
    have hB : Hid (chkB c d = false) := by show _ = _; unfold chkB; rw [decide_eq_false he]; rfl
    clear he
    go_wp2_with fail
    go_ret3
    exact ⟨none, 0, by rw [hS.out, hB.out]; rfl, by rw [hS.out]; exact Rd.nil _ _ _ _ _ (by decide), B1.out⟩
  have t0 : (stsErr c d != 0) = false := by simpa using he
  have HE := Lib.hid he
  have hN := stsN_le c d
  have hLl := stsL_len c d
  have CST := Lib.hid (fun W (b : Below w1.heap.size w1 W) (i : Nat) => ref53_State _ (stsL c d) a1 c1 c.width c.regs (i : Int) W (R1.out.frame (Same.below b)) (by omega))
  clear he
  go_wp2_with fail
  have hR8 := numE_le c.regs
  obtain ⟨N, hNN⟩ : ∃ N, N = stsN c d := ⟨_, rfl⟩
  rw [← hNN] at hN
  rw [← hNN]
  have HNN := Lib.hid hNN
  clear hNN
  go_loopw [10] (fun i wr => ∃ k : Nat, k ≤ N ∧ i = .int .i64 k ∧ Hid (∀ j, j < k → chkBad c d j = false) ∧ Hid (Below w1.heap.size w1 wr)) (fun i _ => N - (intOf i).toNat)
  case atStart => exact ⟨0, by omega, rfl, fun j h => by omega, Below.refl _ _⟩
  case round =>
    obtain ⟨k, hk9, rfl, hv, HB⟩ := hrel
    by_cases hlt : k < N
    · obtain ⟨z0, z1, z2, z3⟩ := cd_block4 (block_below HB.out KC1.out)
      have HKN : Hid (k < stsN c d) := by show _ < _; rw [← HNN.out]; exact hlt
      go_wp2_with fail
      refine (CST.out _ HB.out k).mono ?_
      rintro e w2 ⟨g2, rfl, hg2, s2, b2⟩
      have B2 := Lib.hid (below_both HB.out b2)
      have KC2 := Lib.hid (block_below B2.out KC1.out)
      have KD2 := Lib.hid (block_below B2.out KD1.out)
      have BB2 := Lib.hid (below_both B1.out B2.out)
      have RS := Lib.hid (s2.rd (fun b => w.heap.size ≤ b) (by have := HB.out.size; have := B1.out.size; omega) (by omega))
      have CW := CS.out w2 BB2.out _ _ _ _ RS.out (stL_lt (stateE_lt _ _ _ _))
      rw [stL_length] at CW
      have CW' := Lib.hid CW
      clear CW b2 s2 hg2 z0 z1 z2 z3
      obtain ⟨z0, z1, z2, z3⟩ := cd_block4 KC2.out
      obtain ⟨y0, y1, y2, y3⟩ := cd_block4 KD2.out
      cases hbad : chkBad c d k
      · have hs : Hid (showsB c d (stL (numE c.regs) (stateE (stsL c d) c.width c.regs (k : Int))) = false) := hbad
        have HV : Hid (∀ j, j < k + 1 → chkBad c d j = false) := fun j hj => by
          rcases Nat.lt_or_ge j k with h' | h'
          · exact hv.out j h'
          · obtain rfl : j = k := by omega
            exact hbad
        rw [hs.out] at CW'
        clear hbad
        go_wp2_with fail
        refine CW'.out.mono ?_
        rintro e w3 ⟨rfl, b3⟩
        have B3 := Lib.hid (below_both B2.out b3)
        clear b3
        go_wp2_with fail
        go_roundw
        case rel => exact ⟨k + 1, by omega, by go_num, HV.out, B3.out⟩
        case measure => simp [intOf]; omega
      · have hs : Hid (showsB c d (stL (numE c.regs) (stateE (stsL c d) c.width c.regs (k : Int))) = true) := hbad
        have hKs := chkK_some HKN.out hv.out hbad
        have hS : Hid (chkS c d = chkSt c d k) := by show _ = _; unfold chkS; rw [hKs]
        have hB : Hid (chkB c d = false) := by show _ = _; unfold chkB; rw [hKs]; simp
        rw [hs.out] at CW'
        clear hbad hKs
        go_wp2_with fail
        refine CW'.out.mono ?_
        rintro e w3 ⟨rfl, b3⟩
        have B3 := Lib.hid (below_both BB2.out b3)
        have R3 := Lib.hid (RS.out.frame (Same.below b3))
        clear b3
        go_wp2_with fail
        go_ret3
        have hl : (chkSt c d k).length = numE c.regs := stL_length _ _
        exact ⟨some ⟨g2, 0, none⟩, numE c.regs, by rw [hS.out, hB.out, hl, HE.out]; rfl, by rw [hS.out]; exact R3.out, B3.out⟩
    · have hnl : ¬ ((k : Int) < (N : Int)) := by omega
      have hKn : chkK c d = none := chkK_none (fun j hj => hv.out j (by have := HNN.out; omega))
      have hS : Hid (chkS c d = []) := by show _ = _; unfold chkS; rw [hKn]
      have hB : Hid (chkB c d = true) := by show _ = _; unfold chkB; rw [decide_eq_true HE.out, hKn]; rfl
      clear hKn
      go_wp2_with fail
      go_ret3
      exact ⟨none, 0, by rw [hS.out, hB.out, HE.out]; rfl, by rw [hS.out]; exact Rd.nil _ _ _ _ _ (by decide), below_both B1.out HB.out⟩
/-- Are the two programs few enough? -/
def fewB (c d : Cd) : Bool := decide (c.ins.length ≤ 10 ∧ d.ins.length ≤ 10 ∧ c.out.length ≤ 20 ∧ d.out.length ≤ 20) && (decide (stsErr c d ≠ 0) || decide (stsN c d ≤ 256))
set_option maxRecDepth 20000 in
set_option maxHeartbeats 2000000 in
theorem ref53_Few (S : Nat → Prop) (c d : Cd) (p q : CdAt) (w : World) (h : CdRd S w c p) (h' : CdRd S w d q) (himm : ∀ x ∈ c.ins, 0 ≤ x.imm ∧ x.imm < 18446744073709551616) (himm' : ∀ x ∈ d.ins, 0 ≤ x.imm ∧ x.imm < 18446744073709551616) :
    Calls Tryz.prog 14 #[cdVal c p, cdVal d q] w fun e w' => e = .returned (.bool (fewB c d)) ∧ Below w.heap.size w w' := by
  have CC := Lib.hid (fun W (b : Below w.heap.size w W) => ref53_States S c d p q W (h.frame (Same.below b)) (h'.frame (Same.below b)) himm himm')
  obtain ⟨ia, ic, oa, oc⟩ := p
  obtain ⟨ja, jc, qa, qc⟩ := q
  have BW := Lib.hid (below_alloc (below_alloc (Below.refl w.heap.size w) (.cells (cellsC c ia ic oa oc) 25)) (.cells (cellsC d ja jc qa qc) 25))
  have KC := Lib.hid (block_alloc (heap_alloc_new w (.cells (cellsC c ia ic oa oc) 25)) (.cells (cellsC d ja jc qa qc) 25))
  have KD := Lib.hid (block_at1 w (.cells (cellsC c ia ic oa oc) 25) (.cells (cellsC d ja jc qa qc) 25))
  have hol := h.out.le
  have hil := h.ins.le
  have hql := h'.out.le
  have hjl := h'.ins.le
  clear h h' himm himm'
  unfold cdVal
  go_enter Tryz.func14, Tryz.ntmps14
  obtain ⟨z0, z1, z2, z3⟩ := cd_block4 KC.out
  obtain ⟨y0, y1, y2, y3⟩ := cd_block4 KD.out
  by_cases h1 : 10 < c.ins.length
  · have t0 : decide ((c.ins.length : Int) > 10) = true := decide_eq_true (by omega)
    have t0' : decide ((10 : Int) < (c.ins.length : Int)) = true := decide_eq_true (by omega)
    have HE : Hid (fewB c d = false) := by show _ = _; unfold fewB; rw [decide_eq_false (fun hh => by omega)]; rfl
    clear h1
    go_wp2_with fail
    go_ret
    exact ⟨ret_bool (by rw [HE.out]), BW.out⟩
  have t1 : decide ((c.ins.length : Int) > 10) = false := decide_eq_false (by omega)
  have t1' : decide ((10 : Int) < (c.ins.length : Int)) = false := decide_eq_false (by omega)
  by_cases h2 : 10 < d.ins.length
  · have t0 : decide ((d.ins.length : Int) > 10) = true := decide_eq_true (by omega)
    have t0' : decide ((10 : Int) < (d.ins.length : Int)) = true := decide_eq_true (by omega)
    have HE : Hid (fewB c d = false) := by show _ = _; unfold fewB; rw [decide_eq_false (fun hh => by omega)]; rfl
    clear h1 h2
    go_wp2_with fail
    go_ret
    exact ⟨ret_bool (by rw [HE.out]), BW.out⟩
  have t2 : decide ((d.ins.length : Int) > 10) = false := decide_eq_false (by omega)
  have t2' : decide ((10 : Int) < (d.ins.length : Int)) = false := decide_eq_false (by omega)
  by_cases h3 : 20 < c.out.length
  · have t0 : decide ((c.out.length : Int) > 20) = true := decide_eq_true (by omega)
    have t0' : decide ((20 : Int) < (c.out.length : Int)) = true := decide_eq_true (by omega)
    have HE : Hid (fewB c d = false) := by show _ = _; unfold fewB; rw [decide_eq_false (fun hh => by omega)]; rfl
    clear h1 h2 h3
    go_wp2_with fail
    go_ret
    exact ⟨ret_bool (by rw [HE.out]), BW.out⟩
  have t3 : decide ((c.out.length : Int) > 20) = false := decide_eq_false (by omega)
  have t3' : decide ((20 : Int) < (c.out.length : Int)) = false := decide_eq_false (by omega)
  by_cases h4 : 20 < d.out.length
  · have t0 : decide ((d.out.length : Int) > 20) = true := decide_eq_true (by omega)
    have t0' : decide ((20 : Int) < (d.out.length : Int)) = true := decide_eq_true (by omega)
    have HE : Hid (fewB c d = false) := by show _ = _; unfold fewB; rw [decide_eq_false (fun hh => by omega)]; rfl
    clear h1 h2 h3 h4
    go_wp2_with fail
    go_ret
    exact ⟨ret_bool (by rw [HE.out]), BW.out⟩
  have t4 : decide ((d.out.length : Int) > 20) = false := decide_eq_false (by omega)
  have t4' : decide ((20 : Int) < (d.out.length : Int)) = false := decide_eq_false (by omega)
  have HF : Hid (fewB c d = (decide (stsErr c d ≠ 0) || decide (stsN c d ≤ 256))) := by show _ = _; unfold fewB; rw [decide_eq_true ⟨by omega, by omega, by omega, by omega⟩, Bool.true_and]
  clear h1 h2 h3 h4
  go_wp2_with fail
  refine (CC.out _ BW.out).mono ?_
  rintro e w1 ⟨v, rfl, o1, b1⟩
  obtain ⟨a1, c1, rfl⟩ := o1.form
  have B1 := Lib.hid (below_both BW.out b1)
  clear o1 b1 z0 z1 z2 z3 y0 y1 y2 y3
  by_cases he : stsErr c d = 0
  · have t0 : (stsErr c d != 0) = false := by simpa using he
    have HG : Hid (fewB c d = decide ((stsN c d : Int) ≤ 256)) := by show _ = _; rw [HF.out, decide_eq_false (not_not_intro he), Bool.false_or]; exact decide_eq_decide.2 (by omega)
    clear he
    go_wp2_with fail
    go_ret
    exact ⟨ret_bool (by rw [HG.out]), B1.out⟩
  · have t0 : (stsErr c d != 0) = true := by simpa using he
    have HG : Hid (fewB c d = true) := by show _ = _; rw [HF.out, decide_eq_true he, Bool.true_or]
    clear he
    go_wp2_with fail
    go_ret
    exact ⟨ret_bool (by rw [HG.out]), B1.out⟩
end Go.Proofs.Sat
