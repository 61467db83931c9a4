/- The walks of exec.Equal and of the law RefineWitness. -/
import Derived.Test.YtkomfeeimdlokaaGreatDoorRmA
import Derived.Test.YtkomfeeimdlokaaGreatDoorRjC
import Derived.Test.YtkomfeeimdlokaaGreatDoorRjO
import Derived.Test.YtkomfeeimdlokaaGreatDoorRjR
import Derived.Test.YtkomfeeimdlokaaGreatDoorRlE
set_option linter.unusedVariables false
set_option linter.unusedSimpArgs false
namespace Go.Proofs.Sat
open Go Go.RowKit
def eqB (c d : Cd) (l : List Int) : Bool := decide (errR c l = errR d l) && decide (outsL c l = outsL d l)
theorem eqB_shows {c d : Cd} {l : List Int} (h : showsB c d l = true) : eqB c d l = false := by
  unfold showsB at h
  unfold eqB
  by_cases h1 : errR c l = 0 <;> by_cases h2 : errR d l = 0 <;> by_cases h3 : outsL c l = outsL d l <;> simp [h1, h2, h3] at h ⊢
  all_goals first | exact h | (intro hh; exact absurd hh.symm h2) | skip
set_option maxRecDepth 20000 in
set_option maxHeartbeats 2000000 in
theorem exec_Equal (S Sl : Nat → Prop) (c d : Cd) (p q : CdAt) (l : List Int) (a : Option Addr) (ca : Nat) (w : World) (hK : IsaT w) (h : CdRd S w c p) (h' : CdRd S w d q) (ho : c.out.length ≤ 20) (ho' : d.out.length ≤ 20) (himm : ∀ x ∈ c.ins, 0 ≤ x.imm ∧ x.imm < 18446744073709551616) (himm' : ∀ x ∈ d.ins, 0 ≤ x.imm ∧ x.imm < 18446744073709551616) (hr : Rd (Kd.int .u64) Sl w a ca l) (hl : ∀ x ∈ l, 0 ≤ x ∧ x < 18446744073709551616) :
    Calls Tryz.prog 21 #[cdVal c p, cdVal d q, .slice a l.length ca] w fun e w' => e = .returned (.bool (eqB c d l)) ∧ Below w.heap.size w w' := by
  have CX := fun W (b : Below w.heap.size w W) => exec_Outs S Sl c p l a ca W (hK.below b) (h.frame (Same.below b)) ho himm (hr.frame (Same.below b)) hl
  have CY := fun W (b : Below w.heap.size w W) => exec_Outs S Sl d q l a ca W (hK.below b) (h'.frame (Same.below b)) ho' himm' (hr.frame (Same.below b)) hl
  obtain ⟨ia, ic, oa, oc⟩ := p
  obtain ⟨ja, jc, qa, qc⟩ := q
  have BW := Lib.hid (below_alloc (below_alloc (Below.refl w.heap.size w) (.cells (cellsC c ia ic oa oc) 25)) (.cells (cellsC d ja jc qa qc) 25))
  have KC := Lib.hid (block_alloc (heap_alloc_new w (.cells (cellsC c ia ic oa oc) 25)) (.cells (cellsC d ja jc qa qc) 25))
  have KD := Lib.hid (block_at1 w (.cells (cellsC c ia ic oa oc) 25) (.cells (cellsC d ja jc qa qc) 25))
  have HX := Lib.hid CX
  have HY := Lib.hid CY
  have hol := h.out.le
  have hil := h.ins.le
  have hql := h'.out.le
  have hjl := h'.ins.le
  have hll := hr.le
  clear h h' hr hl himm himm' CX CY
  unfold cdVal
  go_enter Tryz.func21, Tryz.ntmps21
  obtain ⟨z0, z1, z2, z3⟩ := cd_block4 KC.out
  go_wp2_with fail
  refine (HX.out _ BW.out).mono ?_
  rintro e w2 ⟨v2, rfl, o2, b2⟩
  obtain ⟨a2, c2, rfl⟩ := o2.form
  have B2 := Lib.hid (below_both BW.out b2)
  have KD2 := Lib.hid (block_below b2 KD.out)
  have O2 := Lib.hid o2
  clear b2 o2 z0 z1 z2 z3
  obtain ⟨y0, y1, y2, y3⟩ := cd_block4 KD2.out
  go_wp2_with fail
  refine (HY.out _ B2.out).mono ?_
  rintro e w3 ⟨v3, rfl, o3, b3⟩
  obtain ⟨a3, c3, rfl⟩ := o3.form
  have B3 := Lib.hid (below_both B2.out b3)
  have O3 := Lib.hid o3
  have O2' := Lib.hid (O2.out.below b3)
  clear b3 o3 y0 y1 y2 y3
  by_cases he : errR c l = errR d l
  case neg =>
    have t1 : (errR c l == errR d l) = false := by simpa using he
    have HE : Hid (eqB c d l = false) := by show _ = _; unfold eqB; rw [decide_eq_false he]; rfl
    clear he
    go_wp2_with fail
    go_ret
    exact ⟨ret_bool (by rw [HE.out]), B3.out⟩
  have HE : Hid (eqB c d l = decide (outsL c l = outsL d l)) := by show _ = _; unfold eqB; rw [decide_eq_true he]; rfl
  have t1 : (errR c l == errR d l) = true := by simpa using he
  have CE := Lib.hid (eq_u64 _ _ a2 a3 c2 c3 (outsL c l) (outsL d l) w3 (Own.rd' O2'.out) (Own.rd' O3.out))
  generalize decide (outsL c l = outsL d l) = bb at *
  clear he
  go_wp2_with fail
  refine CE.out.mono ?_
  rintro e w4 ⟨rfl, d4⟩
  have B4 := Lib.hid (below_both B3.out (d4.below _))
  clear d4
  go_wp2_with fail
  go_ret
  exact ⟨ret_bool (by rw [HE.out]), B4.out⟩
theorem chkS_err {c d : Cd} (h : stsErr c d ≠ 0) : chkS c d = [] := by unfold chkS chkK stsN; rw [if_neg h]; rfl
theorem chk_wit {c d : Cd} (hs : stsErr c d = 0) (h : chkB c d = false) : showsB c d (chkS c d) = true ∧ ((chkS c d).length : Int) = c.regs ∧ ∀ x ∈ chkS c d, 0 ≤ x ∧ x < 18446744073709551616 := by
  have hp := pair_of (sts_cmp hs)
  cases hk : chkK c d with
  | none => unfold chkB at h; rw [decide_eq_true hs, hk] at h; simp at h
  | some i =>
    have e : chkS c d = chkSt c d i := by unfold chkS; rw [hk]
    rw [e]
    refine ⟨?_, ?_, stL_lt (stateE_lt _ _ _ _)⟩
    · unfold chkK at hk
      show chkBad c d i = true
      exact List.find?_some hk
    · have h1 := hp.kc.r1
      have h2 := hp.kc.r2
      unfold chkSt
      rw [stL_length]
      unfold numE
      omega
theorem tst_ok {c d : Cd} (hs : stsErr c d = 0) (h : chkB c d = true) (ls : List (List Int)) : tstI c d ls = -1 ∧ tstB c d ls = true := by
  have hn : tstK c d ls = none := tstK_none fun j hj => (chkB_iff hs).1 h _
  have hc := sts_cmp hs
  exact ⟨by unfold tstI; rw [if_neg (not_not_intro hc), hn], by unfold tstB; rw [if_neg (not_not_intro hc), hn]; rfl⟩
theorem tst_one {c d : Cd} (hs : stsErr c d = 0) {l : List Int} (h : showsB c d l = true) : tstI c d [l] = 0 ∧ tstB c d [l] = false := by
  have hn : tstK c d [l] = some 0 := tstK_some (by simp) (fun j hj h => by omega) h
  have hc := sts_cmp hs
  exact ⟨by unfold tstI; rw [if_neg (not_not_intro hc), hn]; rfl, by unfold tstB; rw [if_neg (not_not_intro hc), hn]; rfl⟩
theorem shows_err {c d : Cd} {l : List Int} (h : showsB c d l = true) : errR c l = 0 := by
  unfold showsB at h
  exact of_decide_eq_true (Bool.and_eq_true_iff.1 h).1
set_option maxRecDepth 20000 in
set_option maxHeartbeats 4000000 in
theorem law_Witness (c d : Cd) (p q : CdAt) (ls : List (List Int)) (a : Option Addr) (ca : Nat) (w : World) (hK : IsaT w) (h : CdRd (fun _ => True) w c p) (h' : CdRd (fun _ => True) w d q) (himm : ∀ x ∈ c.ins, 0 ≤ x.imm ∧ x.imm < 18446744073709551616) (himm' : ∀ x ∈ d.ins, 0 ≤ x.imm ∧ x.imm < 18446744073709551616) (hr : Rd (Kd.slice (Kd.int .u64)) (fun _ => True) w a ca ls) (hl : ∀ l ∈ ls, ∀ x ∈ l, 0 ≤ x ∧ x < 18446744073709551616) :
    Calls Tryz.prog 8 #[cdVal c p, cdVal d q, .slice a ls.length ca] w fun e w' => e = .returned (.bool true) ∧ Below w.heap.size w w' := by
  have CF := Lib.hid (fun W (b : Below w.heap.size w W) => ref53_Few (fun _ => True) c d p q W (h.frame (Same.below b)) (h'.frame (Same.below b)) himm himm')
  have C1 := Lib.hid (fun W (b : Below w.heap.size w W) ho ho' => refine_Check (fun _ => True) c d p q W (hK.below b) (h.frame (Same.below b)) (h'.frame (Same.below b)) ho ho' himm himm')
  have C2 := Lib.hid (fun W (b : Below w.heap.size w W) ho ho' hci hdi => refine_Test (fun _ => True) (fun _ => True) c d p q ls a ca W (hK.below b) (h.frame (Same.below b)) (h'.frame (Same.below b)) ho ho' hci hdi himm himm' (hr.frame (Same.below b)) hl)
  have C3 := Lib.hid (fun W (b : Below w.heap.size w W) ho Sl l a ca (hr : Rd (Kd.int .u64) Sl W a ca l) (hl : ∀ x ∈ l, 0 ≤ x ∧ x < 18446744073709551616) => exec_Outs (fun _ => True) Sl c p l a ca W (hK.below b) (h.frame (Same.below b)) ho himm hr hl)
  have C4 := Lib.hid (fun W (b : Below w.heap.size w W) ho ho' hci hdi ls a ca hr hl => refine_Test (fun _ => True) (fun _ => True) c d p q ls a ca W (hK.below b) (h.frame (Same.below b)) (h'.frame (Same.below b)) ho ho' hci hdi himm himm' hr hl)
  have C5 := Lib.hid (fun W (b : Below w.heap.size w W) ho ho' Sl l a ca (hr : Rd (Kd.int .u64) Sl W a ca l) (hl : ∀ x ∈ l, 0 ≤ x ∧ x < 18446744073709551616) => exec_Equal (fun _ => True) Sl c d p q l a ca W (hK.below b) (h.frame (Same.below b)) (h'.frame (Same.below b)) ho ho' himm himm' hr hl)
  have CA := Lib.hid (fun W (b : Below w.heap.size w W) => law53_alive W (hK.below b))
  obtain ⟨ia, ic, oa, oc⟩ := p
  obtain ⟨ja, jc, qa, qc⟩ := q
  have BW := Lib.hid (below_alloc (below_alloc (Below.refl w.heap.size w) (.cells (cellsC c ia ic oa oc) 25)) (.cells (cellsC d ja jc qa qc) 25))
  have KC := Lib.hid (block_alloc (heap_alloc_new w (.cells (cellsC c ia ic oa oc) 25)) (.cells (cellsC d ja jc qa qc) 25))
  have KD := Lib.hid (block_at1 w (.cells (cellsC c ia ic oa oc) 25) (.cells (cellsC d ja jc qa qc) 25))
  have HR := Lib.hid hr
  have hll := hr.le
  have hol := h.out.le
  have hil := h.ins.le
  have hql := h'.out.le
  have hjl := h'.ins.le
  clear h h' hr hl himm himm' hK
  unfold cdVal
  go_enter Tryz.func8, Tryz.ntmps8
  obtain ⟨z0, z1, z2, z3⟩ := cd_block4 KC.out
  obtain ⟨y0, y1, y2, y3⟩ := cd_block4 KD.out
  cases hf : fewB c d
  · rw [hf] at CF
    clear hf
    go_wp2_with fail
    refine (CF.out _ BW.out).mono ?_
    rintro e w1 ⟨rfl, b1⟩
    have B1 := Lib.hid (below_both BW.out b1)
    clear b1
    go_wp2_with fail
    refine (CA.out _ B1.out).mono ?_
    rintro e w4 ⟨rfl, b4⟩
    go_wp2_with fail
    go_ret
    exact ⟨rfl, below_both B1.out b4⟩
  have HF := Lib.hid (few_lens hf)
  rw [hf] at CF
  clear hf
  by_cases h5 : 20 < ls.length
  · have t0 : decide ((ls.length : Int) > 20) = true := decide_eq_true (by omega)
    have t0' : decide ((20 : Int) < (ls.length : Int)) = true := decide_eq_true (by omega)
    clear h5
    go_wp2_with fail
    refine (CF.out _ BW.out).mono ?_
    rintro e w1 ⟨rfl, b1⟩
    have B1 := Lib.hid (below_both BW.out b1)
    clear b1
    go_wp2_with fail
    refine (CA.out _ B1.out).mono ?_
    rintro e w4 ⟨rfl, b4⟩
    go_wp2_with fail
    go_ret
    exact ⟨rfl, below_both B1.out b4⟩
  have t5 : decide ((ls.length : Int) > 20) = false := decide_eq_false (by omega)
  have t5' : decide ((20 : Int) < (ls.length : Int)) = false := decide_eq_false (by omega)
  clear h5
  go_wp2_with fail
  refine (CF.out _ BW.out).mono ?_
  rintro e wl ⟨rfl, bl⟩
  have BL := Lib.hid (below_both BW.out bl)
  have KCL := Lib.hid (block_below bl KC.out)
  have KDL := Lib.hid (block_below bl KD.out)
  clear bl z0 z1 z2 z3 y0 y1 y2 y3
  obtain ⟨z0, z1, z2, z3⟩ := cd_block4 KCL.out
  obtain ⟨y0, y1, y2, y3⟩ := cd_block4 KDL.out
  go_wp2_with fail
  go_loopw [7] (fun i wr => ∃ k : Nat, k ≤ ls.length ∧ i = .int .i64 k ∧ Hid (Drawn wl wr)) (fun i _ => ls.length - (intOf i).toNat)
  case atStart => exact ⟨0, by omega, rfl, Drawn.refl _⟩
  case round =>
    obtain ⟨k, hk9, rfl, HD⟩ := hrel
    have BB := Lib.hid (BL.out.trans (HD.out.below _))
    by_cases hlt : k < ls.length
    · obtain ⟨b, o, cs, rfl, -, hbw, hk, hcell⟩ := (HR.out.frame (Same.below BB.out)).elem hlt
      obtain ⟨sa, sc, rfl, hrd⟩ := hk
      have d5 := hcell 0 _ rfl
      have hsz : (Kd.slice (Kd.int .u64)).sz = 1 := rfl
      rw [hsz, Nat.mul_one, Nat.add_zero] at d5
      have hln := hrd.le
      clear hcell hrd hsz
      generalize ls[k] = l at *
      obtain ⟨ln, hln'⟩ : ∃ n, n = l.length := ⟨_, rfl⟩
      rw [← hln'] at d5 hln
      clear hln'
      by_cases h9 : 20 < ln
      · have t9 : decide ((ln : Int) > 20) = true := decide_eq_true (by omega)
        have t9' : decide ((20 : Int) < (ln : Int)) = true := decide_eq_true (by omega)
        clear h9
        go_wp2_with fail
        refine (CA.out _ BB.out).mono ?_
        rintro e w4 ⟨rfl, b4⟩
        go_wp2_with fail
        go_ret
        exact ⟨rfl, below_both BB.out b4⟩
      · have t9 : decide ((ln : Int) > 20) = false := decide_eq_false (by omega)
        have t9' : decide ((20 : Int) < (ln : Int)) = false := decide_eq_false (by omega)
        clear h9
        go_wp2_with fail
        go_roundw
        case rel => exact ⟨k + 1, by omega, by go_num, HD.out⟩
        case measure => simp [intOf]; omega
    · have hnl : ¬ ((k : Int) < (ls.length : Int)) := by omega
      have KC5 := Lib.hid (HD.out.heap KCL.out)
      have KD5 := Lib.hid (HD.out.heap KDL.out)
      clear z0 z1 z2 z3 y0 y1 y2 y3
      obtain ⟨z0, z1, z2, z3⟩ := cd_block4 KC5.out
      obtain ⟨y0, y1, y2, y3⟩ := cd_block4 KD5.out
      go_wp2_with fail
      refine (C1.out _ BB.out HF.out.2.2.1 HF.out.2.2.2).mono ?_
      rintro e w1 ⟨a1, c1, rfl, r1, b1⟩
      have B1 := Lib.hid (below_both BB.out b1)
      have KC1 := Lib.hid (block_below b1 KC5.out)
      have KD1 := Lib.hid (block_below b1 KD5.out)
      have R1 := Lib.hid r1
      clear r1 b1 z0 z1 z2 z3 y0 y1 y2 y3 C1
      obtain ⟨z0, z1, z2, z3⟩ := cd_block4 KC1.out
      obtain ⟨y0, y1, y2, y3⟩ := cd_block4 KD1.out
      go_wp2_with fail
      refine (C2.out _ B1.out HF.out.2.2.1 HF.out.2.2.2 (by have := HF.out; omega) (by have := HF.out; omega)).mono ?_
      rintro e w2 ⟨rfl, b2⟩
      have B2 := Lib.hid (below_both B1.out b2)
      have KC2 := Lib.hid (block_below b2 KC1.out)
      have KD2 := Lib.hid (block_below b2 KD1.out)
      have R2 := Lib.hid (R1.out.frame (Same.below b2))
      clear b2 z0 z1 z2 z3 y0 y1 y2 y3 C2 R1
      obtain ⟨z0, z1, z2, z3⟩ := cd_block4 KC2.out
      obtain ⟨y0, y1, y2, y3⟩ := cd_block4 KD2.out
      by_cases hs : stsErr c d = 0
      case neg =>
        have t7 : (stsErr c d != 0) = true := by simpa using hs
        rw [chkB_err hs, chkS_err hs]
        clear hs
        go_wp2_with fail
        refine (CA.out _ B2.out).mono ?_
        rintro e w4 ⟨rfl, b4⟩
        go_wp2_with fail
        go_ret
        exact ⟨rfl, below_both B2.out b4⟩
      have t7 : (stsErr c d != 0) = false := by simpa using hs
      cases hb : chkB c d
      case true =>
        rw [chkS_nil hb, (tst_ok hs hb ls).1, (tst_ok hs hb ls).2]
        clear hs hb
        go_wp2_with fail
        refine (CA.out _ B2.out).mono ?_
        rintro e w4 ⟨rfl, b4⟩
        go_wp2_with fail
        go_ret
        exact ⟨rfl, below_both B2.out b4⟩
      obtain ⟨hsh, hlen, hlt⟩ := chk_wit hs hb
      have HSH := Lib.hid hsh
      have HLN := Lib.hid hlen
      have HLT := Lib.hid hlt
      have HT1 := Lib.hid (tst_one hs hsh)
      have HEQ := Lib.hid (eqB_shows hsh)
      have HER := Lib.hid (shows_err hsh)
      generalize chkS c d = s at *
      clear hsh hlen hlt hs hb
      obtain ⟨ln, hln⟩ : ∃ n, n = s.length := ⟨_, rfl⟩
      rw [← hln] at HLN
      rw [← hln]
      have HLS := Lib.hid hln
      clear hln
      have C3' := Lib.hid (C3.out w2 B2.out HF.out.2.2.1 _ s a1 c1 R2.out HLT.out)
      rw [← HLS.out] at C3'
      go_wp2_with fail
      refine C3'.out.mono ?_
      rintro e w3 ⟨v3, rfl, -, b3⟩
      rw [HER.out]
      have B3 := Lib.hid (below_both B2.out b3)
      have KC3 := Lib.hid (block_below b3 KC2.out)
      have KD3 := Lib.hid (block_below b3 KD2.out)
      have R3 := Lib.hid (R2.out.frame (Same.below b3))
      clear b3 z0 z1 z2 z3 y0 y1 y2 y3 C3 C3' R2
      obtain ⟨z0, z1, z2, z3⟩ := cd_block4 KC3.out
      obtain ⟨y0, y1, y2, y3⟩ := cd_block4 KD3.out
      have B4 := Lib.hid (below_alloc B3.out (.cells #[.slice a1 ln c1] 32))
      have KC4 := Lib.hid (block_alloc KC3.out (.cells #[.slice a1 ln c1] 32))
      have KD4 := Lib.hid (block_alloc KD3.out (.cells #[.slice a1 ln c1] 32))
      have R4 := Lib.hid (R3.out.frame (Same.alloc _ w3 (.cells #[.slice a1 ln c1] 32)))
      have KE : (Kd.slice (Kd.int .u64)).K (fun _ => True) (w3.alloc (.cells #[.slice a1 ln c1] 32)) [.slice a1 ln c1] s := ⟨a1, c1, by rw [HLS.out], R4.out.mono fun _ _ _ => trivial⟩
      have RS : Hid (Rd (Kd.slice (Kd.int .u64)) (fun _ => True) (w3.alloc (.cells #[.slice a1 ln c1] 32)) (some ⟨w3.heap.size, 0, none⟩) 1 [s]) :=
        rd_block (cs := [.slice a1 ln c1]) (heap_alloc_new w3 _) (Elems.single KE) trivial 1 (by simp) (by omega)
      have C4' := Lib.hid (C4.out _ B4.out HF.out.2.2.1 HF.out.2.2.2 (by have := HF.out; omega) (by have := HF.out; omega) [s] (some ⟨w3.heap.size, 0, none⟩) 1 RS.out (fun l hl => by rw [List.mem_singleton.1 hl]; exact HLT.out))
      go_wp2_with fail
      refine C4'.out.mono ?_
      rintro e w5 ⟨rfl, b5⟩
      rw [HT1.out.1, HT1.out.2]
      have B5 := Lib.hid (below_both B4.out b5)
      have KC6 := Lib.hid (block_below b5 KC4.out)
      have KD6 := Lib.hid (block_below b5 KD4.out)
      have R5 := Lib.hid (R4.out.frame (Same.below b5))
      clear b5 z0 z1 z2 z3 y0 y1 y2 y3 C4 C4' R3 R4 RS KE
      obtain ⟨z0, z1, z2, z3⟩ := cd_block4 KC6.out
      obtain ⟨y0, y1, y2, y3⟩ := cd_block4 KD6.out
      have C5' := Lib.hid (C5.out w5 B5.out HF.out.2.2.1 HF.out.2.2.2 _ s a1 c1 R5.out HLT.out)
      rw [← HLS.out, HEQ.out] at C5'
      have t8 : ((ln : Int) == c.regs) = true := by rw [HLN.out]; simp
      go_wp2_with fail
      refine C5'.out.mono ?_
      rintro e w6 ⟨rfl, b6⟩
      have B6 := Lib.hid (below_both B5.out b6)
      clear b6
      go_wp2_with fail
      refine (CA.out _ B6.out).mono ?_
      rintro e w4 ⟨rfl, b4⟩
      go_wp2_with fail
      go_ret
      exact ⟨rfl, below_both B6.out b4⟩
end Go.Proofs.Sat
