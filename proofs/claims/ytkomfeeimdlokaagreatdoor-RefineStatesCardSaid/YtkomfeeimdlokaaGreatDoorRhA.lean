/- The walks of ref49.Same and of the law's example. -/
import Derived.Test.YtkomfeeimdlokaaGreatDoorRgE
set_option linter.unusedVariables false
set_option linter.unusedSimpArgs false
namespace Go.Proofs.Sat
open Go Go.RowKit
set_option maxHeartbeats 400000 in
theorem ref49_Same (S1 S2 : Nat → Prop) (a1 a2 : Option Addr) (c1 c2 : Nat) (l1 l2 : List Int) (w : World) (h1 : Rd (Kd.int .u64) S1 w a1 c1 l1) (h2 : Rd (Kd.int .u64) S2 w a2 c2 l2) :
    Calls Tryz.prog 17 #[.slice a1 l1.length c1, .slice a2 l2.length c2] w fun e w' => e = .returned (.bool (decide (l1 = l2))) ∧ Drawn w w' := by
  have hl1 := h1.le
  have hl2 := h2.le
  go_enter Tryz.func17, Tryz.ntmps17
  by_cases he : l1.length = l2.length
  · have hb : (l1.length != l2.length) = false := by simp [he]
    have hb' : ((l1.length : Int) != (l2.length : Int)) = false := by simp [he]
    have HE := Lib.hid he
    clear he
    go_wp2
    go_loopw [5] (fun i wr => ∃ k : Nat, k ≤ l1.length ∧ i = .int .i64 k ∧ Hid (∀ i, i < k → l1.getD i 0 = l2.getD i 0) ∧ Drawn w wr) (fun i _ => l1.length - (intOf i).toNat)
    case atStart => exact ⟨0, by omega, rfl, fun i h => by omega, Drawn.refl _⟩
    case round =>
      obtain ⟨k, hk, rfl, hv, n, rfl⟩ := hrel
      by_cases hlt : k < l1.length
      · have hlt2 : k < l2.length := by have := HE.out; omega
        obtain ⟨b1, o1, rfl, _, _, hc1⟩ := h1.vals (by omega) 0
        obtain ⟨b2, o2, rfl, _, _, hc2⟩ := h2.vals (by omega) 0
        have d1 := hc1 k hlt
        have d2 := hc2 k hlt2
        have E1 := Lib.hid (getD_at l1 hlt)
        have E2 := Lib.hid (getD_at l2 hlt2)
        clear hc1 hc2 hb hb'
        go_wp2
        go_quiet (fail)
        by_cases hq : l1[k] = l2[k]
        · have hq' : (l1[k] != l2[k]) = false := by simp [hq]
          have HQ := Lib.hid hq
          clear hq
          go_wp2
          go_roundw
          case rel =>
            refine ⟨k + 1, by omega, by go_num, fun i h => ?_, by first | exact Drawn.of _ _ | exact Drawn.step (Drawn.of _ _) _⟩
            rcases Nat.lt_or_ge i k with h' | h'
            · exact hv.out i h'
            · obtain rfl : i = k := by omega
              rw [E1.out, E2.out, HQ.out]
          case measure => simp [intOf]; omega
        · have hq' : (l1[k] != l2[k]) = true := by simp [hq]
          have HQ := Lib.hid hq
          clear hq
          go_wp2
          go_ret
          refine ⟨ret_bool ?_, by first | exact Drawn.of _ _ | exact Drawn.step (Drawn.of _ _) _⟩
          symm
          rw [decide_eq_false_iff_not]
          rintro rfl
          exact HQ.out rfl
      · clear hb hb'
        go_wp2
        go_ret
        refine ⟨ret_bool ?_, Drawn.of _ _⟩
        symm
        rw [decide_eq_true_eq, eq_iff_places]
        exact ⟨HE.out, fun i hi => hv.out i (by omega)⟩
  · have hb : (l1.length != l2.length) = true := by simp [he]
    have hb' : ((l1.length : Int) != (l2.length : Int)) = true := by simp; omega
    go_wp2
    go_ret
    refine ⟨ret_bool ?_, Drawn.refl _⟩
    symm
    rw [decide_eq_false_iff_not]
    rintro rfl
    exact he rfl
def zc : Cd := ⟨2, 2, [⟨1, 0, 0, 0, 0, 0⟩], [0]⟩
def sc : Cd := ⟨2, 2, [⟨9, 0, 1, 1, 0, 0⟩], [0]⟩
def rc : Cd := ⟨2, 2, [⟨12, 0, 1, 1, 0, 0⟩], [0]⟩
theorem ex_sz : chkB sc zc = true ∧ chkS sc zc = [] ∧ stsErr sc zc = 0 := by decide +kernel
theorem ex_rz : chkB rc zc = true ∧ chkS rc zc = [] ∧ stsErr rc zc = 0 := by decide +kernel
theorem ex_zr : chkB zc rc = false ∧ chkS zc rc = [0, 0] ∧ stsErr zc rc = 0 := by decide +kernel
theorem allocs_size (l : List Obj) : ∀ w : World, (l.foldl World.alloc w).heap.size = w.heap.size + l.length := by
  induction l with
  | nil => intro w; rfl
  | cons o l ih => intro w; rw [List.foldl_cons, ih, List.length_cons]; simp; omega
theorem allocs_at : ∀ (l : List Obj) (w : World) (k : Nat) (o : Obj), l[k]? = some o → (l.foldl World.alloc w).heap[w.heap.size + k]? = some o := by
  intro l
  induction l with
  | nil => intro w k o h; simp at h
  | cons x l ih =>
    intro w k o h
    rw [List.foldl_cons]
    cases k with
    | zero =>
      simp at h
      subst h
      have : ∀ (l : List Obj) (w : World) (g : Nat) (o : Obj), w.heap[g]? = some o → (l.foldl World.alloc w).heap[g]? = some o := by
        intro l
        induction l with
        | nil => intro w g o h; exact h
        | cons y l ih2 => intro w g o h; rw [List.foldl_cons]; exact ih2 _ _ _ (block_alloc h _)
      exact this _ _ _ _ (heap_alloc_new w x)
    | succ k =>
      have := ih (w.alloc x) k o (by simpa using h)
      rwa [show (w.alloc x).heap.size + k = w.heap.size + (k + 1) from by simp; omega] at this
theorem allocs_below (l : List Obj) : ∀ (w W : World), Below w.heap.size w W → Below w.heap.size w (l.foldl World.alloc W) := by
  induction l with
  | nil => intro w W h; exact h
  | cons x l ih => intro w W h; rw [List.foldl_cons]; exact ih w _ (below_alloc h x)
theorem cd_one {W : World} {B : Nat} (x : In) (r : Int) (k n : Int) (h0 : W.heap[B]? = some (.cells (inCells x).toArray 50 (0, 0))) (h1 : W.heap[B + 1]? = some (.cells #[.int .i64 r] 3 (0, 0))) : CdRd (fun _ => True) W ⟨k, n, [x], [r]⟩ ⟨some ⟨B, 0, none⟩, 1, some ⟨B + 1, 0, none⟩, 1⟩ :=
  ⟨rd_block (cs := inCells x) h0 (xs := [x]) (.cons (c := inCells x) rfl .nil) trivial 1 (by simp) (by decide), rd_block (cs := [.int .i64 r]) h1 (elems_vals [r]) trivial 1 (by simp) (by decide)⟩
def exObjs (B : Nat) : List Obj := [.cells #[.int .i64 1, .int .i64 0, .int .i64 0, .int .i64 0, .int .i64 0, .int .u64 0] 50, .cells #[.int .i64 0] 3, .cells #[.int .i64 2, .int .i64 2, .slice (some ⟨B, 0, none⟩) 1 1, .slice (some ⟨B + 1, 0, none⟩) 1 1] 25, .cells #[.int .i64 9, .int .i64 0, .int .i64 1, .int .i64 1, .int .i64 0, .int .u64 0] 50, .cells #[.int .i64 0] 3, .cells #[.int .i64 2, .int .i64 2, .slice (some ⟨B + 1 + 1 + 1, 0, none⟩) 1 1, .slice (some ⟨B + 1 + 1 + 1 + 1, 0, none⟩) 1 1] 25, .cells #[.int .i64 12, .int .i64 0, .int .i64 1, .int .i64 1, .int .i64 0, .int .u64 0] 50, .cells #[.int .i64 0] 3, .cells #[.int .i64 2, .int .i64 2, .slice (some ⟨B + 1 + 1 + 1 + 1 + 1 + 1, 0, none⟩) 1 1, .slice (some ⟨B + 1 + 1 + 1 + 1 + 1 + 1 + 1, 0, none⟩) 1 1] 25]
set_option maxRecDepth 20000 in
set_option maxHeartbeats 4000000 in
theorem law53_alive (w : World) (hK : IsaT w) : Calls Tryz.prog 10 #[] w fun e w' => e = .returned (.bool true) ∧ Below w.heap.size w w' := by
  go_enter Tryz.func10, Tryz.ntmps10
  go_upto_region 4 with fail
  have BW := Lib.hid (allocs_below (exObjs w.heap.size) w w (Below.refl _ _))
  have K := fun k o h => allocs_at (exObjs w.heap.size) w k o h
  obtain ⟨W0, hW0⟩ : ∃ W0, W0 = (exObjs w.heap.size).foldl World.alloc w := ⟨_, rfl⟩
  change Code.wp _ _ _ _ ((exObjs w.heap.size).foldl World.alloc w)
  rw [← hW0] at BW K ⊢
  clear hW0
  have Z0 : Hid (W0.heap[w.heap.size + 1 + 1]? = some (.cells #[.int .i64 2, .int .i64 2, .slice (some ⟨w.heap.size, 0, none⟩) 1 1, .slice (some ⟨w.heap.size + 1, 0, none⟩) 1 1] 25 (0, 0))) := K 2 _ rfl
  have CZ : Hid (CdRd (fun _ => True) W0 zc ⟨some ⟨w.heap.size, 0, none⟩, 1, some ⟨w.heap.size + 1, 0, none⟩, 1⟩) := cd_one (B := w.heap.size) _ 0 2 2 (K 0 _ rfl) (K 1 _ rfl)
  have S0 : Hid (W0.heap[w.heap.size + 1 + 1 + 1 + 1 + 1]? = some (.cells #[.int .i64 2, .int .i64 2, .slice (some ⟨w.heap.size + 1 + 1 + 1, 0, none⟩) 1 1, .slice (some ⟨w.heap.size + 1 + 1 + 1 + 1, 0, none⟩) 1 1] 25 (0, 0))) := K 5 _ rfl
  have CS : Hid (CdRd (fun _ => True) W0 sc ⟨some ⟨w.heap.size + 1 + 1 + 1, 0, none⟩, 1, some ⟨w.heap.size + 1 + 1 + 1 + 1, 0, none⟩, 1⟩) := cd_one (B := w.heap.size + 1 + 1 + 1) _ 0 2 2 (K 3 _ rfl) (K 4 _ rfl)
  have R0 : Hid (W0.heap[w.heap.size + 1 + 1 + 1 + 1 + 1 + 1 + 1 + 1]? = some (.cells #[.int .i64 2, .int .i64 2, .slice (some ⟨w.heap.size + 1 + 1 + 1 + 1 + 1 + 1, 0, none⟩) 1 1, .slice (some ⟨w.heap.size + 1 + 1 + 1 + 1 + 1 + 1 + 1, 0, none⟩) 1 1] 25 (0, 0))) := K 8 _ rfl
  have CR : Hid (CdRd (fun _ => True) W0 rc ⟨some ⟨w.heap.size + 1 + 1 + 1 + 1 + 1 + 1, 0, none⟩, 1, some ⟨w.heap.size + 1 + 1 + 1 + 1 + 1 + 1 + 1, 0, none⟩, 1⟩) := cd_one (B := w.heap.size + 1 + 1 + 1 + 1 + 1 + 1) _ 0 2 2 (K 6 _ rfl) (K 7 _ rfl)
  clear K
  have K1 : Hid (∀ W, Below W0.heap.size W0 W → Calls Tryz.prog 15 #[cdVal sc ⟨some ⟨w.heap.size + 1 + 1 + 1, 0, none⟩, 1, some ⟨w.heap.size + 1 + 1 + 1 + 1, 0, none⟩, 1⟩, cdVal zc ⟨some ⟨w.heap.size, 0, none⟩, 1, some ⟨w.heap.size + 1, 0, none⟩, 1⟩] W fun e w' => ∃ a ca, e = .returned (.tuple #[.bool true, .slice a 0 ca, .int .i64 0]) ∧ Rd (Kd.int .u64) (fun b => W.heap.size ≤ b) w' a ca [] ∧ Below W.heap.size W w') := by
    intro W b
    have := refine_Check (fun _ => True) sc zc ⟨some ⟨w.heap.size + 1 + 1 + 1, 0, none⟩, 1, some ⟨w.heap.size + 1 + 1 + 1 + 1, 0, none⟩, 1⟩ ⟨some ⟨w.heap.size, 0, none⟩, 1, some ⟨w.heap.size + 1, 0, none⟩, 1⟩ W (hK.below (below_both BW.out b)) (CS.out.frame (Same.below b)) (CZ.out.frame (Same.below b)) (by decide) (by decide) (by decide) (by decide)
    rwa [ex_sz.1, ex_sz.2.1, ex_sz.2.2] at this
  have K2 : Hid (∀ W, Below W0.heap.size W0 W → Calls Tryz.prog 15 #[cdVal rc ⟨some ⟨w.heap.size + 1 + 1 + 1 + 1 + 1 + 1, 0, none⟩, 1, some ⟨w.heap.size + 1 + 1 + 1 + 1 + 1 + 1 + 1, 0, none⟩, 1⟩, cdVal zc ⟨some ⟨w.heap.size, 0, none⟩, 1, some ⟨w.heap.size + 1, 0, none⟩, 1⟩] W fun e w' => ∃ a ca, e = .returned (.tuple #[.bool true, .slice a 0 ca, .int .i64 0]) ∧ Rd (Kd.int .u64) (fun b => W.heap.size ≤ b) w' a ca [] ∧ Below W.heap.size W w') := by
    intro W b
    have := refine_Check (fun _ => True) rc zc ⟨some ⟨w.heap.size + 1 + 1 + 1 + 1 + 1 + 1, 0, none⟩, 1, some ⟨w.heap.size + 1 + 1 + 1 + 1 + 1 + 1 + 1, 0, none⟩, 1⟩ ⟨some ⟨w.heap.size, 0, none⟩, 1, some ⟨w.heap.size + 1, 0, none⟩, 1⟩ W (hK.below (below_both BW.out b)) (CR.out.frame (Same.below b)) (CZ.out.frame (Same.below b)) (by decide) (by decide) (by decide) (by decide)
    rwa [ex_rz.1, ex_rz.2.1, ex_rz.2.2] at this
  have K3 : Hid (∀ W, Below W0.heap.size W0 W → Calls Tryz.prog 15 #[cdVal zc ⟨some ⟨w.heap.size, 0, none⟩, 1, some ⟨w.heap.size + 1, 0, none⟩, 1⟩, cdVal rc ⟨some ⟨w.heap.size + 1 + 1 + 1 + 1 + 1 + 1, 0, none⟩, 1, some ⟨w.heap.size + 1 + 1 + 1 + 1 + 1 + 1 + 1, 0, none⟩, 1⟩] W fun e w' => ∃ a ca, e = .returned (.tuple #[.bool false, .slice a 2 ca, .int .i64 0]) ∧ Rd (Kd.int .u64) (fun b => W.heap.size ≤ b) w' a ca [0, 0] ∧ Below W.heap.size W w') := by
    intro W b
    have := refine_Check (fun _ => True) zc rc ⟨some ⟨w.heap.size, 0, none⟩, 1, some ⟨w.heap.size + 1, 0, none⟩, 1⟩ ⟨some ⟨w.heap.size + 1 + 1 + 1 + 1 + 1 + 1, 0, none⟩, 1, some ⟨w.heap.size + 1 + 1 + 1 + 1 + 1 + 1 + 1, 0, none⟩, 1⟩ W (hK.below (below_both BW.out b)) (CZ.out.frame (Same.below b)) (CR.out.frame (Same.below b)) (by decide) (by decide) (by decide) (by decide)
    rwa [ex_zr.1, ex_zr.2.1, ex_zr.2.2] at this
  clear CZ CS CR
  obtain ⟨z0, z1, z2, z3⟩ := cd_block4 Z0.out
  obtain ⟨y0, y1, y2, y3⟩ := cd_block4 S0.out
  go_wp2_with fail
  refine (K1.out W0 (Below.refl _ _)).mono ?_
  rintro e w1 ⟨a1, n1, rfl, -, b1⟩
  have B1 := Lib.hid b1
  clear b1 z0 z1 z2 z3 y0 y1 y2 y3
  obtain ⟨z0, z1, z2, z3⟩ := cd_block4 (block_below B1.out Z0.out)
  obtain ⟨y0, y1, y2, y3⟩ := cd_block4 (block_below B1.out R0.out)
  go_wp2_with fail
  refine (K2.out w1 B1.out).mono ?_
  rintro e w2 ⟨a2, n2, rfl, -, b2⟩
  have B2 := Lib.hid (below_both B1.out b2)
  clear b2 z0 z1 z2 z3 y0 y1 y2 y3
  obtain ⟨z0, z1, z2, z3⟩ := cd_block4 (block_below B2.out Z0.out)
  obtain ⟨y0, y1, y2, y3⟩ := cd_block4 (block_below B2.out R0.out)
  go_wp2_with fail
  refine (K3.out w2 B2.out).mono ?_
  rintro e w3 ⟨a3, n3, rfl, r3, b3⟩
  have R3 := Lib.hid r3
  have B3 := Lib.hid (below_both B2.out b3)
  clear b3 r3 z0 z1 z2 z3 y0 y1 y2 y3
  have B4 := Lib.hid (below_alloc B3.out (.cells #[.int .u64 0, .int .u64 0] 48))
  have R4 := Lib.hid (R3.out.frame (Same.alloc _ w3 (.cells #[.int .u64 0, .int .u64 0] 48)))
  have L4 := Lib.hid (Rd.lit (enc := Value.int .u64) (h1 := fun _ => rfl) w3 48 [0, 0] 0 (by decide))
  go_wp2_with fail
  refine (ref49_Same _ _ a3 _ n3 _ [0, 0] [0, 0] _ R4.out L4.out).mono ?_
  rintro e w5 ⟨rfl, d5⟩
  have B5 := Lib.hid (below_both B4.out (d5.below _))
  go_wp2_with fail
  go_ret
  exact ⟨rfl, below_both BW.out B5.out⟩
end Go.Proofs.Sat
