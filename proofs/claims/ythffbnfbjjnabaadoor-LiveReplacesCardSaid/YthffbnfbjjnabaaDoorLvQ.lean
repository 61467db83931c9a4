/- The walks of the reference's used, Before, Inputs. -/
import Derived.Test.YthffbnfbjjnabaaDoorLvK
import Derived.Test.YthffbnfbjjnabaaDoorLvT
set_option linter.unusedVariables false
set_option linter.unusedSimpArgs false
namespace Go.Proofs.Sat
open Go Go.RowKit
set_option maxRecDepth 20000 in
set_option maxHeartbeats 2000000 in
theorem ref50_used (S : Nat → Prop) (c : Cd) (p : CdAt) (i m : Nat) (w : World) (h : CdRd S w c p) (hi : i ≤ c.ins.length) : Calls Tryd.prog 54 #[cdVal c p, .int .i64 (i : Int), .int .i64 (m : Int)] w fun e w' => e = .returned (.bool (stateR c.out (c.ins.drop i) m)) ∧ Below w.heap.size w w' := by
  obtain ⟨ia, ic, oa, oc⟩ := p
  have HI : Hid (Rd kIn S w ia ic c.ins) := h.ins
  have HO : Hid (Rd (Kd.int .i64) S w oa oc c.out) := h.out
  have hil := h.ins.le
  have hol := h.out.le
  have BW := Lib.hid (below_alloc (Below.refl w.heap.size w) (.cells (cellsC c ia ic oa oc) 25))
  have KC := Lib.hid (heap_alloc_new w (.cells (cellsC c ia ic oa oc) 25))
  unfold cdVal
  go_enter Tryd.func54, Tryd.ntmps54
  go_wp2
  go_loopw [7] (fun v wr => ∃ k : Nat, i ≤ k ∧ k ≤ c.ins.length ∧ v = .int .i64 k ∧ Hid (stateR c.out (c.ins.drop i) m = stateR c.out (c.ins.drop k) m) ∧ Hid (Below w.heap.size w wr) ∧ Hid (wr.heap[w.heap.size]? = some (.cells (cellsC c ia ic oa oc) 25 (0, 0)))) (fun v _ => c.ins.length - (intOf v).toNat)
  case atStart => exact ⟨i, by omega, hi, rfl, rfl, BW.out, KC.out⟩
  case round =>
    obtain ⟨k, hk1, hk2, rfl, HV, HB, KC1⟩ := hrel
    obtain ⟨z0, z1, z2, z3⟩ := cd_block4 KC1.out
    by_cases hlt : k < c.ins.length
    · obtain ⟨b, o, rfl, -, hbw0, hat0⟩ := in_elem HI.out hlt
      have HAT0 := Lib.hid hat0
      obtain ⟨c0, c1, c2, c3, c4, c5⟩ := hat0.frame (w' := wr) (HB.out.block b hbw0)
      have HS2 := Lib.hid (stateR_drop c.out c.ins hlt)
      clear hat0
      generalize c.ins[k] = x at *
      go_wp2_with fail
      refine (ref50_Uses x wr).mono ?_
      rintro e w2 ⟨ua, uc, rfl, ru, b2⟩
      have B2 := Lib.hid (below_both HB.out b2)
      have KC2 := Lib.hid (block_below b2 KC1.out)
      have CH := Lib.hid (ref50_Has _ ua uc (usesI x) (m : Int) w2 ru)
      clear ru b2 c0 c1 c2 c3 c4 c5 z0 z1 z2 z3
      go_wp2_with fail
      refine CH.out.mono ?_
      rintro e w3 ⟨rfl, d3⟩
      have B3 := Lib.hid (B2.out.trans (d3.below _))
      have KC3 := Lib.hid (d3.heap KC2.out)
      clear d3 CH
      by_cases hu : (m : Int) ∈ usesI x
      · have HE : Hid (stateR c.out (c.ins.drop i) m = true) := by show _ = _; rw [HV.out, HS2.out]; simp [backS, hu]
        have t0 : decide ((m : Int) ∈ usesI x) = true := decide_eq_true hu
        rw [t0]
        clear hu t0
        go_wp2_with fail
        go_ret
        exact ⟨ret_bool HE.out.symm, B3.out⟩
      · have t0 : decide ((m : Int) ∈ usesI x) = false := decide_eq_false hu
        have HU := Lib.hid hu
        rw [t0]
        clear hu t0
        obtain ⟨z0, z1, z2, z3⟩ := cd_block4 KC3.out
        obtain ⟨c0, c1, c2, c3, c4, c5⟩ := HAT0.out.frame (w' := w3) (B3.out.block b hbw0)
        go_wp2_with fail
        refine (ref50_Defines x (m : Int) w3).mono ?_
        rintro e w4 ⟨rfl, b4⟩
        have B4 := Lib.hid (below_both B3.out b4)
        have KC4 := Lib.hid (block_below b4 KC3.out)
        clear b4 c0 c1 c2 c3 c4 c5 z0 z1 z2 z3
        cases hd : (defsI x && (x.dst == (m : Int)))
        · have HV2 : Hid (stateR c.out (c.ins.drop i) m = stateR c.out (c.ins.drop (k + 1)) m) := by
            show _ = _
            rw [HV.out, HS2.out]
            have : (defsI x && decide (x.dst = (m : Int))) = false := by rw [← hd]; congr 1
            simp [backS, HU.out, this]
          clear hd
          go_wp2_with fail
          go_roundw
          case rel => exact ⟨k + 1, by omega, by omega, by go_num, HV2.out, B4.out, KC4.out⟩
          case measure => simp [intOf]; omega
        · have HE : Hid (stateR c.out (c.ins.drop i) m = false) := by
            show _ = _
            rw [HV.out, HS2.out]
            have : (defsI x && decide (x.dst = (m : Int))) = true := by rw [← hd]; congr 1
            simp [backS, HU.out, this]
          clear hd
          go_wp2_with fail
          go_ret
          exact ⟨ret_bool HE.out.symm, B4.out⟩
    · obtain rfl : k = c.ins.length := by omega
      have HE : Hid (stateR c.out (c.ins.drop i) m = decide ((m : Int) ∈ c.out)) := by show _ = _; rw [HV.out, List.drop_length]; rfl
      have CH := Lib.hid (ref50_Has _ oa oc c.out (m : Int) wr (HO.out.frame (Same.below HB.out)))
      go_wp2_with fail
      refine CH.out.mono ?_
      rintro e w3 ⟨rfl, d3⟩
      go_wp2_with fail
      go_ret
      exact ⟨ret_bool HE.out.symm, HB.out.trans (d3.below _)⟩
set_option maxRecDepth 20000 in
set_option maxHeartbeats 2000000 in
theorem ref50_Before (S : Nat → Prop) (c : Cd) (p : CdAt) (i' R : Nat) (w : World) (h : CdRd S w c p) (hi : i' ≤ c.ins.length) (hR : c.regs = (R : Int)) (hR8 : R ≤ 8) : Calls Tryd.prog 38 #[cdVal c p, .int .i64 (i' : Int)] w fun e w' => ∃ v, e = .returned v ∧ Own (Kd.int .i64) 3 NoS w' w.heap.size v (regsK (stateR c.out (c.ins.drop i')) R) ∧ Below w.heap.size w w' := by
  obtain ⟨ia, ic, oa, oc⟩ := p
  have HC := Lib.hid h
  have hil := h.ins.le
  have hol := h.out.le
  have HR := Lib.hid hR
  clear h hR
  have BW := Lib.hid (below_alloc (Below.refl w.heap.size w) (.cells (cellsC c ia ic oa oc) 25))
  have KC := Lib.hid (heap_alloc_new w (.cells (cellsC c ia ic oa oc) 25))
  unfold cdVal
  go_enter Tryd.func38, Tryd.ntmps38
  go_wp2
  go_loopw [5, 6] (fun v i wr => ∃ k : Nat, k ≤ R ∧ i = .int .i64 k ∧ Hid (Own (Kd.int .i64) 3 NoS wr (w.heap.size + 1) v (regsK (stateR c.out (c.ins.drop i')) k)) ∧ Hid (Below w.heap.size w wr) ∧ Hid (wr.heap[w.heap.size]? = some (.cells (cellsC c ia ic oa oc) 25 (0, 0)))) (fun _ i _ => R - (intOf i).toNat)
  case atStart =>
    refine ⟨0, by omega, rfl, ?_, below_alloc BW.out _, block_alloc KC.out _⟩
    exact Own.of_block (enc := fun x => .int .i64 x) (xs := []) (cur := #[]) NoS (by simp) (block_at1 w _ _) (by simp) (by simp [maxLen]) rfl rfl
  case round =>
    obtain ⟨k, hk, rfl, HO, HB, KC1⟩ := hrel
    obtain ⟨z0, z1, z2, z3⟩ := cd_block4 KC1.out
    by_cases hlt : k < R
    · have hrl := regsK_length (stateR c.out (c.ins.drop i')) k
      have HT := Lib.hid (regsK_succ (stateR c.out (c.ins.drop i')) k)
      have hkR : (k : Int) < c.regs := by rw [HR.out]; omega
      go_wp2_with fail
      refine (ref50_used S c ⟨ia, ic, oa, oc⟩ i' k wr (HC.out.frame (Same.below HB.out)) hi).mono ?_
      rintro e w2 ⟨rfl, b2⟩
      have B2 := Lib.hid (below_both HB.out b2)
      have KC2 := Lib.hid (block_below b2 KC1.out)
      have O2 := Lib.hid (HO.out.below b2)
      have H2 : Hid (w.heap.size + 1 ≤ w2.heap.size) := (Array.getElem?_eq_some_iff.1 KC2.out).1
      clear b2 z0 z1 z2 z3
      cases hq : stateR c.out (c.ins.drop i') k
      · rw [hq] at HT
        go_wp2_with fail
        go_roundw
        case rel => exact ⟨k + 1, by omega, by go_num, by show Own _ _ _ _ _ _ _; rw [HT.out]; exact O2.out, B2.out, KC2.out⟩
        case measure => simp [intOf]; omega
      · rw [hq] at HT
        go_wp2_with (first
          | (at_builtin; refine wpList_append_ev _ rfl _ _ 23 rfl _ _ rfl rfl _ (run_app1 w2 infoInt rfl _ O2.out 3 [.int .i64 _] _ rfl (by omega) (by omega) H2.out) ?_; rintro n2 w3 ⟨ow3, g3, v3, _⟩; have B3 := Lib.hid (B2.out.grown g3 B2.out.size (fun k hk => Nat.le_of_succ_le (O2.out.lt k hk).1)); have KC3 := Lib.hid (block_grown g3 KC2.out (fun e => Nat.not_succ_le_self _ (O2.out.lt _ e.symm).1)); have O3 := Lib.hid ow3; clear ow3 g3 v3)
          | fail)
        go_roundw
        case rel => exact ⟨k + 1, by omega, by go_num, by show Own _ _ _ _ _ _ _; rw [HT.out]; exact O3.out, B3.out, KC3.out⟩
        case measure => simp [intOf]; omega
    · obtain rfl : k = R := by omega
      have hkR : ¬ (k : Int) < c.regs := by rw [HR.out]; omega
      go_wp2_with fail
      go_ret
      exact ⟨_, rfl, HO.out.mono (fun _ _ h => h) (by omega), HB.out⟩
end Go.Proofs.Sat
