/- The walks of slices.Equal at numbers, and of refine.shows. -/
import Derived.Test.YtkomfeeimdlokaaGreatDoorExF
import Derived.Test.YtkomfeeimdlokaaGreatDoorLvR
set_option linter.unusedVariables false
set_option linter.unusedSimpArgs false
namespace Go.Proofs.Sat
open Go Go.RowKit
set_option maxHeartbeats 400000 in
theorem eq_u64 (S1 S2 : Nat → Prop) (a1 a2 : Option Addr) (c1 c2 : Nat) (l1 l2 : List Int) (w : World) (h1 : Rd (Kd.int .u64) S1 w a1 c1 l1) (h2 : Rd (Kd.int .u64) S2 w a2 c2 l2) :
    Calls Tryz.prog 34 #[.slice a1 l1.length c1, .slice a2 l2.length c2] w fun e w' => e = .returned (.bool (decide (l1 = l2))) ∧ Drawn w w' := by
  have hl1 := h1.le
  have hl2 := h2.le
  go_enter Tryz.func34, Tryz.ntmps34
  by_cases he : l1.length = l2.length
  · have hb : (l1.length != l2.length) = false := by simp [he]
    have hb' : ((l1.length : Int) != (l2.length : Int)) = false := by simp [he]
    have HE := Lib.hid he
    clear he
    go_wp2
    go_loopw [13] (fun i wr => ∃ k : Nat, k ≤ l1.length ∧ i = .int .i64 k ∧ Hid (∀ i, i < k → l1.getD i 0 = l2.getD i 0) ∧ Drawn w wr) (fun i _ => l1.length - (intOf i).toNat)
    case atStart => exact ⟨0, by omega, rfl, fun i h => by omega, Drawn.refl _⟩
    case round =>
      obtain ⟨k, hk, rfl, hv, n, rfl⟩ := hrel
      by_cases hlt : k < l1.length
      · have hlt2 : k < l2.length := by have := HE.out; omega
        obtain ⟨b1, o1, rfl, _, _, hc1⟩ := h1.vals (by omega) 0
        obtain ⟨b2, o2, rfl, _, _, hc2⟩ := h2.vals (by omega) 0
        have d1 := hc1 k hlt
        have d2 := hc2 k hlt2
        have E1 := Lib.hid (getD_at l1 hlt)
        have E2 := Lib.hid (getD_at l2 hlt2)
        clear hc1 hc2 hb hb'
        go_wp2
        go_quiet (fail)
        by_cases hq : l1[k] = l2[k]
        · have hq' : (l1[k] != l2[k]) = false := by simp [hq]
          have HQ := Lib.hid hq
          clear hq
          go_wp2
          go_roundw
          case rel =>
            refine ⟨k + 1, by omega, by go_num, fun i h => ?_, by first | exact Drawn.of _ _ | exact Drawn.step (Drawn.of _ _) _⟩
            rcases Nat.lt_or_ge i k with h' | h'
            · exact hv.out i h'
            · obtain rfl : i = k := by omega
              rw [E1.out, E2.out, HQ.out]
          case measure => simp [intOf]; omega
        · have hq' : (l1[k] != l2[k]) = true := by simp [hq]
          have HQ := Lib.hid hq
          clear hq
          go_wp2
          go_ret
          refine ⟨ret_bool ?_, by first | exact Drawn.of _ _ | exact Drawn.step (Drawn.of _ _) _⟩
          symm
          rw [decide_eq_false_iff_not]
          rintro rfl
          exact HQ.out rfl
      · clear hb hb'
        go_wp2
        go_ret
        refine ⟨ret_bool ?_, Drawn.of _ _⟩
        symm
        rw [decide_eq_true_eq, eq_iff_places]
        exact ⟨HE.out, fun i hi => hv.out i (by omega)⟩
  · have hb : (l1.length != l2.length) = true := by simp [he]
    have hb' : ((l1.length : Int) != (l2.length : Int)) = true := by simp; omega
    go_wp2
    go_ret
    refine ⟨ret_bool ?_, Drawn.refl _⟩
    symm
    rw [decide_eq_false_iff_not]
    rintro rfl
    exact he rfl
set_option maxHeartbeats 400000 in
theorem eq_ints (S1 S2 : Nat → Prop) (a1 a2 : Option Addr) (c1 c2 : Nat) (l1 l2 : List Int) (w : World) (h1 : Rd (Kd.int .i64) S1 w a1 c1 l1) (h2 : Rd (Kd.int .i64) S2 w a2 c2 l2) :
    Calls Tryz.prog 24 #[.slice a1 l1.length c1, .slice a2 l2.length c2] w fun e w' => e = .returned (.bool (decide (l1 = l2))) ∧ Drawn w w' := by
  have hl1 := h1.le
  have hl2 := h2.le
  go_enter Tryz.func24, Tryz.ntmps24
  by_cases he : l1.length = l2.length
  · have hb : (l1.length != l2.length) = false := by simp [he]
    have hb' : ((l1.length : Int) != (l2.length : Int)) = false := by simp [he]
    have HE := Lib.hid he
    clear he
    go_wp2
    go_loopw [13] (fun i wr => ∃ k : Nat, k ≤ l1.length ∧ i = .int .i64 k ∧ Hid (∀ i, i < k → l1.getD i 0 = l2.getD i 0) ∧ Drawn w wr) (fun i _ => l1.length - (intOf i).toNat)
    case atStart => exact ⟨0, by omega, rfl, fun i h => by omega, Drawn.refl _⟩
    case round =>
      obtain ⟨k, hk, rfl, hv, n, rfl⟩ := hrel
      by_cases hlt : k < l1.length
      · have hlt2 : k < l2.length := by have := HE.out; omega
        obtain ⟨b1, o1, rfl, _, _, hc1⟩ := h1.vals (by omega) 0
        obtain ⟨b2, o2, rfl, _, _, hc2⟩ := h2.vals (by omega) 0
        have d1 := hc1 k hlt
        have d2 := hc2 k hlt2
        have E1 := Lib.hid (getD_at l1 hlt)
        have E2 := Lib.hid (getD_at l2 hlt2)
        clear hc1 hc2 hb hb'
        go_wp2
        go_quiet (fail)
        by_cases hq : l1[k] = l2[k]
        · have hq' : (l1[k] != l2[k]) = false := by simp [hq]
          have HQ := Lib.hid hq
          clear hq
          go_wp2
          go_roundw
          case rel =>
            refine ⟨k + 1, by omega, by go_num, fun i h => ?_, by first | exact Drawn.of _ _ | exact Drawn.step (Drawn.of _ _) _⟩
            rcases Nat.lt_or_ge i k with h' | h'
            · exact hv.out i h'
            · obtain rfl : i = k := by omega
              rw [E1.out, E2.out, HQ.out]
          case measure => simp [intOf]; omega
        · have hq' : (l1[k] != l2[k]) = true := by simp [hq]
          have HQ := Lib.hid hq
          clear hq
          go_wp2
          go_ret
          refine ⟨ret_bool ?_, by first | exact Drawn.of _ _ | exact Drawn.step (Drawn.of _ _) _⟩
          symm
          rw [decide_eq_false_iff_not]
          rintro rfl
          exact HQ.out rfl
      · clear hb hb'
        go_wp2
        go_ret
        refine ⟨ret_bool ?_, Drawn.of _ _⟩
        symm
        rw [decide_eq_true_eq, eq_iff_places]
        exact ⟨HE.out, fun i hi => hv.out i (by omega)⟩
  · have hb : (l1.length != l2.length) = true := by simp [he]
    have hb' : ((l1.length : Int) != (l2.length : Int)) = true := by simp; omega
    go_wp2
    go_ret
    refine ⟨ret_bool ?_, Drawn.refl _⟩
    symm
    rw [decide_eq_false_iff_not]
    rintro rfl
    exact he rfl
/-- Does a state show that d does not refine c? -/
def showsB (c d : Cd) (l : List Int) : Bool := decide (errR c l = 0) && (decide (errR d l ≠ 0) || !(decide (outsL c l = outsL d l)))
set_option maxRecDepth 20000 in
set_option maxHeartbeats 2000000 in
theorem refine_shows (S Sl : Nat → Prop) (c d : Cd) (p q : CdAt) (l : List Int) (a : Option Addr) (ca : Nat) (w : World) (hK : IsaT w) (h : CdRd S w c p) (h' : CdRd S w d q) (ho : c.out.length ≤ 20) (ho' : d.out.length ≤ 20) (himm : ∀ x ∈ c.ins, 0 ≤ x.imm ∧ x.imm < 18446744073709551616) (himm' : ∀ x ∈ d.ins, 0 ≤ x.imm ∧ x.imm < 18446744073709551616) (hr : Rd (Kd.int .u64) Sl w a ca l) (hl : ∀ x ∈ l, 0 ≤ x ∧ x < 18446744073709551616) :
    Calls Tryz.prog 30 #[cdVal c p, cdVal d q, .slice a l.length ca] w fun e w' => e = .returned (.bool (showsB c d l)) ∧ Below w.heap.size w w' := by
  have CX := fun W (b : Below w.heap.size w W) => exec_Outs S Sl c p l a ca W (hK.below b) (h.frame (Same.below b)) ho himm (hr.frame (Same.below b)) hl
  have CY := fun W (b : Below w.heap.size w W) => exec_Outs S Sl d q l a ca W (hK.below b) (h'.frame (Same.below b)) ho' himm' (hr.frame (Same.below b)) hl
  obtain ⟨ia, ic, oa, oc⟩ := p
  obtain ⟨ja, jc, qa, qc⟩ := q
  have BW := Lib.hid (below_alloc (below_alloc (Below.refl w.heap.size w) (.cells (cellsC c ia ic oa oc) 25)) (.cells (cellsC d ja jc qa qc) 25))
  have KC := Lib.hid (block_alloc (heap_alloc_new w (.cells (cellsC c ia ic oa oc) 25)) (.cells (cellsC d ja jc qa qc) 25))
  have KD := Lib.hid (block_at1 w (.cells (cellsC c ia ic oa oc) 25) (.cells (cellsC d ja jc qa qc) 25))
  have HX := Lib.hid CX
  have HY := Lib.hid CY
  have hol := h.out.le
  have hil := h.ins.le
  have hql := h'.out.le
  have hjl := h'.ins.le
  have hll := hr.le
  clear h h' hr hl himm himm' CX CY
  unfold cdVal
  go_enter Tryz.func30, Tryz.ntmps30
  obtain ⟨z0, z1, z2, z3⟩ := cd_block4 KC.out
  go_wp2_with fail
  refine (HX.out _ BW.out).mono ?_
  rintro e w2 ⟨v2, rfl, o2, b2⟩
  obtain ⟨a2, c2, rfl⟩ := o2.form
  have B2 := Lib.hid (below_both BW.out b2)
  have KD2 := Lib.hid (block_below b2 KD.out)
  have O2 := Lib.hid o2
  clear b2 o2 z0 z1 z2 z3
  by_cases he : errR c l = 0
  case neg =>
    have t0 : (errR c l != 0) = true := by simpa using he
    have HE : Hid (showsB c d l = false) := by show _ = _; unfold showsB; rw [decide_eq_false he]; rfl
    clear he
    go_wp2_with fail
    go_ret
    exact ⟨ret_bool (by rw [HE.out]), B2.out⟩
  have t0 : (errR c l != 0) = false := by simpa using he
  have HE0 := Lib.hid he
  clear he
  obtain ⟨y0, y1, y2, y3⟩ := cd_block4 KD2.out
  go_wp2_with fail
  refine (HY.out _ B2.out).mono ?_
  rintro e w3 ⟨v3, rfl, o3, b3⟩
  obtain ⟨a3, c3, rfl⟩ := o3.form
  have B3 := Lib.hid (below_both B2.out b3)
  have O3 := Lib.hid o3
  have O2' := Lib.hid (O2.out.below b3)
  clear b3 o3 y0 y1 y2 y3
  by_cases he : errR d l = 0
  case neg =>
    have t1 : (errR d l != 0) = true := by simpa using he
    have HE : Hid (showsB c d l = true) := by show _ = _; unfold showsB; rw [decide_eq_true HE0.out, decide_eq_true he]; rfl
    clear he
    go_wp2_with fail
    go_ret
    exact ⟨ret_bool (by rw [HE.out]), B3.out⟩
  have t1 : (errR d l != 0) = false := by simpa using he
  have HE : Hid (showsB c d l = !(decide (outsL c l = outsL d l))) := by show _ = _; unfold showsB; rw [decide_eq_true HE0.out, decide_eq_false (not_not_intro he)]; simp
  have CE := Lib.hid (eq_u64 _ _ a2 a3 c2 c3 (outsL c l) (outsL d l) w3 (Own.rd' O2'.out) (Own.rd' O3.out))
  generalize decide (outsL c l = outsL d l) = bb at *
  clear he
  go_wp2_with fail
  refine CE.out.mono ?_
  rintro e w4 ⟨rfl, d4⟩
  have B4 := Lib.hid (below_both B3.out (d4.below _))
  clear d4
  go_wp2_with fail
  go_ret
  exact ⟨ret_bool (by rw [HE.out]), B4.out⟩
end Go.Proofs.Sat
