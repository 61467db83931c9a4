/- The walk of the law RefineRemoves. -/
import Derived.Test.YtkomfeeimdlokaaGreatDoorRmA
import Derived.Test.YtkomfeeimdlokaaGreatDoorRjC
import Derived.Test.YtkomfeeimdlokaaGreatDoorLvE
set_option linter.unusedVariables false
set_option linter.unusedSimpArgs false
namespace Go.Proofs.Sat
open Go Go.RowKit
theorem remC_imm' {c : Cd} (h : CdOK c) (himm : ∀ x ∈ c.ins, 0 ≤ x.imm ∧ x.imm < 18446744073709551616) : ∀ x ∈ (remC c).ins, 0 ≤ x.imm ∧ x.imm < 18446744073709551616 := by
  rw [remC_ok h]
  exact fun x hx => himm x ((keepR_sub _ _).subset hx)
theorem remC_pair {c : Cd} (h : CdOK c) : Pair c (remC c) := by
  have e := remC_ok h
  exact ⟨h, remC_cd h, by rw [e], by rw [e], by rw [e]⟩
theorem sts_or {c d : Cd} (h : Pair c d) : stsErr c d = 0 ∨ stsErr c d = 7 := by
  unfold stsErr
  rw [if_neg (not_not_intro (cmp_of h))]
  split
  · exact .inr rfl
  · exact .inl rfl
theorem chk_rem {c : Cd} (h : CdOK c) (hs : stsErr c (remC c) = 0) : chkB c (remC c) = true := (chkB_iff hs).2 fun l => shows_iff.2 fun he => by
  have hp := remC_pair h
  have h0 := err_of_ok h
  have hr := (errR_iff h0 l).1 he
  have hw : (remC c).width = c.width := hp.w.symm
  have hk := remC_run h c.width.toNat (cutL c.width.toNat l) hr
  have hr2 : (finR (remC c) l).2 = true := by unfold finR; rw [hw]; exact hk.1
  have he2 := (errR_iff (err_of_ok hp.kd) l).2 hr2
  refine ⟨he2, ?_⟩
  rw [outs_eq he, outs_eq he2, ← hp.o]
  refine List.map_congr_left fun r hr => ?_
  have := hk.2 r hr
  show ((runN c.width.toNat c.ins (cutL c.width.toNat l)).1 r.toNat : Int) = ((runN (remC c).width.toNat (remC c).ins (cutL (remC c).width.toNat l)).1 r.toNat : Int)
  rw [hw, this]
theorem chkS_nil {c d : Cd} (h : chkB c d = true) : chkS c d = [] := by
  unfold chkB at h
  have h2 := (Bool.and_eq_true_iff.1 h).2
  rw [Option.isNone_iff_eq_none] at h2
  unfold chkS
  rw [h2]
set_option maxRecDepth 20000 in
set_option maxHeartbeats 2000000 in
theorem law_RefRemoves (c : Cd) (p : CdAt) (w : World) (hK : IsaT w) (h : CdRd (fun _ => True) w c p) (himm : ∀ x ∈ c.ins, 0 ≤ x.imm ∧ x.imm < 18446744073709551616) :
    Calls Tryz.prog 9 #[cdVal c p] w fun e w' => e = .returned (.bool true) ∧ Below w.heap.size w w' := by
  have CF := Lib.hid (fun W (b : Below w.heap.size w W) => ref53_Few (fun _ => True) c c p p W (h.frame (Same.below b)) (h.frame (Same.below b)) himm himm)
  have CR := Lib.hid (fun W (b : Below w.heap.size w W) hol => live_Remove (fun _ => True) c p W (hK.below b) (h.frame (Same.below b)) hol)
  have C1 := Lib.hid (fun W (b : Below w.heap.size w W) d q (h' : CdRd (fun _ => True) W d q) ho ho' himm' => refine_Check (fun _ => True) c d p q W (hK.below b) (h.frame (Same.below b)) h' ho ho' himm himm')
  have CA := Lib.hid (fun W (b : Below w.heap.size w W) => law53_alive W (hK.below b))
  have HIM := Lib.hid himm
  obtain ⟨ia, ic, oa, oc⟩ := p
  have BW := Lib.hid (below_alloc (Below.refl w.heap.size w) (.cells (cellsC c ia ic oa oc) 25))
  have KC := Lib.hid (heap_alloc_new w (.cells (cellsC c ia ic oa oc) 25))
  have hol := h.out.le
  have hil := h.ins.le
  clear h hK himm
  unfold cdVal
  go_enter Tryz.func9, Tryz.ntmps9
  obtain ⟨z0, z1, z2, z3⟩ := cd_block4 KC.out
  cases hf : fewB c c
  · rw [hf] at CF
    clear hf
    go_wp2_with fail
    refine (CF.out _ BW.out).mono ?_
    rintro e w1 ⟨rfl, b1⟩
    have B1 := Lib.hid (below_both BW.out b1)
    clear b1
    go_wp2_with fail
    refine (CA.out _ B1.out).mono ?_
    rintro e w4 ⟨rfl, b4⟩
    go_wp2_with fail
    go_ret
    exact ⟨rfl, below_both B1.out b4⟩
  have HF := Lib.hid (few_lens hf)
  rw [hf] at CF
  clear hf
  go_wp2_with fail
  refine (CF.out _ BW.out).mono ?_
  rintro e w0 ⟨rfl, b0⟩
  have B0 := Lib.hid (below_both BW.out b0)
  have KC0 := Lib.hid (block_below b0 KC.out)
  clear b0 z0 z1 z2 z3 KC BW CF
  obtain ⟨z0, z1, z2, z3⟩ := cd_block4 KC0.out
  go_wp2_with fail
  refine (CR.out _ B0.out (by have := HF.out; omega)).mono ?_
  rintro e w1 ⟨⟨ja, jc, qa, qc⟩, rfl, r1, b1⟩
  have B1 := Lib.hid (below_both B0.out b1)
  have KC1 := Lib.hid (block_below b1 KC0.out)
  have HR := Lib.hid r1
  clear r1 b1 z0 z1 z2 z3 CR
  obtain ⟨z0, z1, z2, z3⟩ := cd_block4 KC1.out
  by_cases he : cdErr c = 0
  case neg =>
    have t0 : (cdErr c != 0) = true := by simpa using he
    clear he
    go_wp2_with fail
    refine (CA.out _ (below_alloc B1.out _)).mono ?_
    rintro e w4 ⟨rfl, b4⟩
    go_wp2_with fail
    go_ret
    exact ⟨rfl, below_both (below_alloc B1.out _) b4⟩
  have t0 : (cdErr c != 0) = false := by simpa using he
  have HOK := Lib.hid (cd_ok he)
  have HOR := Lib.hid (sts_or (remC_pair HOK.out))
  have HCH := Lib.hid (chk_rem HOK.out)
  have HOL : Hid ((remC c).out.length ≤ 20) := by show _ ≤ _; rw [← (remC_pair HOK.out).o]; exact HF.out.2.2.1
  have HI2 := Lib.hid (remC_imm' HOK.out HIM.out)
  clear he
  generalize remC c = d at *
  have B2 := Lib.hid (below_alloc B1.out (.cells (cellsC d ja jc qa qc) 25))
  have KC2 := Lib.hid (block_alloc KC1.out (.cells (cellsC d ja jc qa qc) 25))
  have KD2 := Lib.hid (heap_alloc_new w1 (.cells (cellsC d ja jc qa qc) 25))
  have HR2 := Lib.hid (HR.out.frame (Same.alloc _ w1 (.cells (cellsC d ja jc qa qc) 25)))
  have hdi := HR.out.ins.le
  have hdo := HR.out.out.le
  clear z0 z1 z2 z3
  obtain ⟨z0, z1, z2, z3⟩ := cd_block4 KC2.out
  obtain ⟨y0, y1, y2, y3⟩ := cd_block4 KD2.out
  go_wp2_with fail
  refine (C1.out _ B2.out d ⟨ja, jc, qa, qc⟩ HR2.out HF.out.2.2.1 HOL.out HI2.out).mono ?_
  rintro e w3 ⟨a3, c3, rfl, -, b3⟩
  have B3 := Lib.hid (below_both B2.out b3)
  clear b3 z0 z1 z2 z3 y0 y1 y2 y3
  rcases HOR.out with hs | hs
  · have hb := HCH.out hs
    have hS := chkS_nil hb
    rw [hb, hS, hs]
    clear hb hS hs
    go_wp2_with fail
    refine (CA.out _ B3.out).mono ?_
    rintro e w4 ⟨rfl, b4⟩
    go_wp2_with fail
    go_ret
    exact ⟨rfl, below_both B3.out b4⟩
  · rw [hs]
    clear hs
    go_wp2_with fail
    refine (CA.out _ B3.out).mono ?_
    rintro e w4 ⟨rfl, b4⟩
    go_wp2_with fail
    go_ret
    exact ⟨rfl, below_both B3.out b4⟩
end Go.Proofs.Sat
