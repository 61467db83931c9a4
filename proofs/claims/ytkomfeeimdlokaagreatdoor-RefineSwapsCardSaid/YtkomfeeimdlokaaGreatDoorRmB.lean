/- Plain law: refinement is kept when the same instructions are put before both programs. -/
import Derived.Test.YtkomfeeimdlokaaGreatDoorRmA
set_option linter.unusedVariables false
set_option linter.unusedSimpArgs false
namespace Go.Proofs.Sat
open Go Go.RowKit
def allR (R : Nat) : List Int := ([0, 1, 2, 3, 4, 5, 6, 7] : List Int).take R
theorem allR_len {R : Nat} (h : R ≤ 8) : (allR R).length = R := by unfold allR; rw [List.length_take]; simp; omega
theorem mem_allR {R : Nat} (h : R ≤ 8) {r : Int} : r ∈ allR R ↔ 0 ≤ r ∧ r < (R : Int) := by
  unfold allR
  rcases (show R = 0 ∨ R = 1 ∨ R = 2 ∨ R = 3 ∨ R = 4 ∨ R = 5 ∨ R = 6 ∨ R = 7 ∨ R = 8 by omega) with rfl | rfl | rfl | rfl | rfl | rfl | rfl | rfl | rfl <;> simp <;> omega
def swA (c : Cd) : Cd := ⟨c.width, c.regs, c.ins, allR c.regs.toNat⟩
def swB (c d : Cd) : Cd := ⟨d.width, d.regs, d.ins, allR c.regs.toNat⟩
def swX (f c : Cd) : Cd := ⟨c.width, c.regs, f.ins ++ c.ins, c.out⟩
def swY (f c d : Cd) : Cd := ⟨d.width, d.regs, f.ins ++ d.ins, c.out⟩
theorem run_lt {n R : Nat} (h1 : 1 ≤ n) (h2 : n ≤ 64) (hR : 1 ≤ R) : ∀ (l : List In), (∀ x ∈ l, insErr (n : Int) (R : Int) x = 0) → (∀ x ∈ l, 0 ≤ x.imm) → ∀ s : Nat → Nat, (∀ i, i < R → s i < 2 ^ n) → ∀ i, i < R → (runN n l s).1 i < 2 ^ n
  | [], _, _, s, hs, i, hi => hs i hi
  | x :: l, hl, hm, s, hs, i, hi => by
    have hx := hl x (List.mem_cons_self ..)
    have hf := ins_fields (by omega) hx
    show (match stepN n s x with | none => (s, false) | some s' => runN n l s').1 i < 2 ^ n
    cases hq : stepN n s x with
    | none => exact hs i hi
    | some s' =>
      refine run_lt h1 h2 hR l (fun y hy => hl y (List.mem_cons_of_mem _ hy)) (fun y hy => hm y (List.mem_cons_of_mem _ hy)) s' ?_ i hi
      exact stepE_lt (x := x) h1 h2 (by omega) (by omega) (by omega) hs (by rw [stepE_stepN hx (hm x (List.mem_cons_self ..))]; exact hq)
theorem agr_all {c : Cd} (h : CdOK c) {n R : Nat} (hR : c.regs = (R : Int)) {s t : Nat → Nat} (ha : ∀ i, i < R → s i = t i) (hr : (runN n c.ins s).2 = true) : (runN n c.ins t).2 = true ∧ ∀ r ∈ c.out, (runN n c.ins s).1 r.toNat = (runN n c.ins t).1 r.toNat := by
  have hk := run_agr (n := n) c.out c.ins h.ins s t (fun k hl => ha k (by have := stateR_lt h c.ins h.ins k hl; omega)) hr
  refine ⟨hk.1, fun r hr => ?_⟩
  have h0 := (h.out r hr).1
  exact hk.2 _ (decide_eq_true (by rw [Int.toNat_of_nonneg h0]; exact hr))
theorem chk_swap {f c d : Cd} (imf : ∀ x ∈ f.ins, 0 ≤ x.imm) (h1 : stsErr (swA c) (swB c d) = 0) (h2 : stsErr (swX f c) (swY f c d) = 0) (h : chkB (swA c) (swB c d) = true) : chkB (swX f c) (swY f c d) = true := by
  have pA := pair_of (sts_cmp h1)
  have pX := pair_of (sts_cmp h2)
  have hw : c.width = d.width := pA.w
  have hrg : c.regs = d.regs := pA.r
  have w1 : 1 ≤ c.width := pA.kc.w1
  have w2 : c.width ≤ 64 := pA.kc.w2
  have r1 : 1 ≤ c.regs := pA.kc.r1
  have r2 : c.regs ≤ 8 := pA.kc.r2
  obtain ⟨n, hn⟩ := Int.eq_ofNat_of_zero_le (show 0 ≤ c.width by omega)
  obtain ⟨R, hR⟩ := Int.eq_ofNat_of_zero_le (show 0 ≤ c.regs by omega)
  have hR8 : R ≤ 8 := by omega
  refine (chkB_iff h2).2 fun l => shows_iff.2 fun he => ?_
  have hwn : (swX f c).width.toNat = n := by show c.width.toNat = n; rw [hn, Int.toNat_natCast]
  have hwn2 : (swY f c d).width.toNat = n := by show d.width.toNat = n; rw [← hw, hn, Int.toNat_natCast]
  have hwa : (swA c).width.toNat = n := hwn
  have hwb : (swB c d).width.toNat = n := hwn2
  have hRA : (swA c).regs = (R : Int) := hR
  have hRB : (swB c d).regs = (R : Int) := by show d.regs = _; rw [← hrg, hR]
  have hrun := (errR_iff (err_of_ok pX.kc) l).1 he
  have hrunX : (runN n (f.ins ++ c.ins) (cutL n l)).2 = true := by unfold finR at hrun; rw [hwn] at hrun; exact hrun
  have hpre := run_prefix n f.ins c.ins _ hrunX
  have happ := run_append n f.ins c.ins _ hpre
  have happ2 := run_append n f.ins d.ins _ hpre
  have hlt : ∀ i, i < R → (runN n f.ins (cutL n l)).1 i < 2 ^ n := run_lt (by omega) (by omega) (by omega) f.ins (fun x hx => by
    have := pX.kc.ins x (List.mem_append_left _ hx)
    have e1 : (swX f c).width = (n : Int) := hn
    have e2 : (swX f c).regs = (R : Int) := hR
    rwa [e1, e2] at this) imf _ (fun i _ => cutL_lt n l i)
  rw [happ] at hrunX
  generalize (runN n f.ins (cutL n l)).1 = s at *
  have hag : ∀ i, i < R → s i = cutL n (stL R s) i := fun i hi => (cutL_stL hlt hi).symm
  obtain ⟨a1, a2⟩ := agr_all pA.kc (n := n) hRA hag hrunX
  have hfa : (finR (swA c) (stL R s)).2 = true := by unfold finR; rw [hwa]; exact a1
  have hea := (errR_iff (err_of_ok pA.kc) (stL R s)).2 hfa
  obtain ⟨heb, hob⟩ := shows_iff.1 ((chkB_iff h1).1 h (stL R s)) hea
  have hfb := (errR_iff (err_of_ok pA.kd) (stL R s)).1 heb
  have b1 : (runN n d.ins (cutL n (stL R s))).2 = true := by unfold finR at hfb; rw [hwb] at hfb; exact hfb
  obtain ⟨b2, b3⟩ := agr_all pA.kd (n := n) hRB (fun i hi => (hag i hi).symm) b1
  rw [outs_eq hea, outs_eq heb] at hob
  have hoeq : ∀ r ∈ allR R, (runN n c.ins (cutL n (stL R s))).1 r.toNat = (runN n d.ins (cutL n (stL R s))).1 r.toNat := by
    intro r hr
    have ho1 : (swA c).out = allR R := by show allR c.regs.toNat = _; rw [hR, Int.toNat_natCast]
    have ho2 : (swB c d).out = allR R := by show allR c.regs.toNat = _; rw [hR, Int.toNat_natCast]
    rw [ho1, ho2] at hob
    have := List.map_inj_left.1 hob r hr
    unfold finR at this
    rw [hwa, hwb] at this
    exact Int.ofNat.inj this
  have hall : ∀ r, 0 ≤ r → r < (R : Int) → (runN n c.ins s).1 r.toNat = (runN n d.ins s).1 r.toNat := by
    intro r h0 hlt
    have hm : r ∈ allR R := (mem_allR hR8).2 ⟨h0, hlt⟩
    have hm1 : r ∈ (swA c).out := by show r ∈ allR c.regs.toNat; rw [hR, Int.toNat_natCast]; exact hm
    have hm2 : r ∈ (swB c d).out := by show r ∈ allR c.regs.toNat; rw [hR, Int.toNat_natCast]; exact hm
    exact (a2 r hm1).trans ((hoeq r hm).trans (b3 r hm2))
  have hfy : (finR (swY f c d) l).2 = true := by unfold finR; rw [hwn2]; show (runN n (f.ins ++ d.ins) (cutL n l)).2 = true; rw [happ2]; exact b2
  have hey := (errR_iff (err_of_ok pX.kd) l).2 hfy
  refine ⟨hey, ?_⟩
  rw [outs_eq he, outs_eq hey]
  show c.out.map _ = c.out.map _
  refine List.map_congr_left fun r hr => ?_
  have hrr := pX.kc.out r hr
  have hrr2 : r < c.regs := hrr.2
  unfold finR
  rw [hwn, hwn2]
  show ((runN n (f.ins ++ c.ins) (cutL n l)).1 r.toNat : Int) = ((runN n (f.ins ++ d.ins) (cutL n l)).1 r.toNat : Int)
  rw [happ, happ2, hall r hrr.1 (by omega)]
end Go.Proofs.Sat
