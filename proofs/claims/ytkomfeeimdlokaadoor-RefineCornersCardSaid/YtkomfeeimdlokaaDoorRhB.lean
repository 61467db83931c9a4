/- RhA, RhB, one after the other. -/
import Derived.Test.YtkomfeeimdlokaaDoorRgE
import Derived.Test.YtkomfeeimdlokaaDoorRaE
import Derived.IntWalk
set_option linter.unusedVariables false
set_option linter.unusedSimpArgs false
/- The walks of ref49.Same and of the law's example. -/
namespace Go.Proofs.Sat
open Go Go.RowKit
set_option maxHeartbeats 400000 in
theorem ref49_Same (S1 S2 : Nat → Prop) (a1 a2 : Option Addr) (c1 c2 : Nat) (l1 l2 : List Int) (w : World) (h1 : Rd (Kd.int .u64) S1 w a1 c1 l1) (h2 : Rd (Kd.int .u64) S2 w a2 c2 l2) :
    Calls Tryd.prog 6 #[.slice a1 l1.length c1, .slice a2 l2.length c2] w fun e w' => e = .returned (.bool (decide (l1 = l2))) ∧ Drawn w w' := by
  have hl1 := h1.le
  have hl2 := h2.le
  go_enter Tryd.func6, Tryd.ntmps6
  by_cases he : l1.length = l2.length
  · have hb : (l1.length != l2.length) = false := by simp [he]
    have hb' : ((l1.length : Int) != (l2.length : Int)) = false := by simp [he]
    have HE := Lib.hid he
    clear he
    go_wp2
    go_loopw [5] (fun i wr => ∃ k : Nat, k ≤ l1.length ∧ i = .int .i64 k ∧ Hid (∀ i, i < k → l1.getD i 0 = l2.getD i 0) ∧ Drawn w wr) (fun i _ => l1.length - (intOf i).toNat)
    case atStart => exact ⟨0, by omega, rfl, fun i h => by omega, Drawn.refl _⟩
    case round =>
      obtain ⟨k, hk, rfl, hv, n, rfl⟩ := hrel
      by_cases hlt : k < l1.length
      · have hlt2 : k < l2.length := by have := HE.out; omega
        obtain ⟨b1, o1, rfl, _, _, hc1⟩ := h1.vals (by omega) 0
        obtain ⟨b2, o2, rfl, _, _, hc2⟩ := h2.vals (by omega) 0
        have d1 := hc1 k hlt
        have d2 := hc2 k hlt2
        have E1 := Lib.hid (getD_at l1 hlt)
        have E2 := Lib.hid (getD_at l2 hlt2)
        clear hc1 hc2 hb hb'
        go_wp2
        go_quiet (fail)
        by_cases hq : l1[k] = l2[k]
        · have hq' : (l1[k] != l2[k]) = false := by simp [hq]
          have HQ := Lib.hid hq
          clear hq
          go_wp2
          go_roundw
          case rel =>
            refine ⟨k + 1, by omega, by go_num, fun i h => ?_, by first | exact Drawn.of _ _ | exact Drawn.step (Drawn.of _ _) _⟩
            rcases Nat.lt_or_ge i k with h' | h'
            · exact hv.out i h'
            · obtain rfl : i = k := by omega
              rw [E1.out, E2.out, HQ.out]
          case measure => simp [intOf]; omega
        · have hq' : (l1[k] != l2[k]) = true := by simp [hq]
          have HQ := Lib.hid hq
          clear hq
          go_wp2
          go_ret
          refine ⟨ret_bool ?_, by first | exact Drawn.of _ _ | exact Drawn.step (Drawn.of _ _) _⟩
          symm
          rw [decide_eq_false_iff_not]
          rintro rfl
          exact HQ.out rfl
      · clear hb hb'
        go_wp2
        go_ret
        refine ⟨ret_bool ?_, Drawn.of _ _⟩
        symm
        rw [decide_eq_true_eq, eq_iff_places]
        exact ⟨HE.out, fun i hi => hv.out i (by omega)⟩
  · have hb : (l1.length != l2.length) = true := by simp [he]
    have hb' : ((l1.length : Int) != (l2.length : Int)) = true := by simp; omega
    go_wp2
    go_ret
    refine ⟨ret_bool ?_, Drawn.refl _⟩
    symm
    rw [decide_eq_false_iff_not]
    rintro rfl
    exact he rfl
def zc : Cd := ⟨2, 2, [⟨1, 0, 0, 0, 0, 0⟩], [0]⟩
def sc : Cd := ⟨2, 2, [⟨9, 0, 1, 1, 0, 0⟩], [0]⟩
def rc : Cd := ⟨2, 2, [⟨12, 0, 1, 1, 0, 0⟩], [0]⟩
theorem ex_sz : chkB sc zc = true ∧ chkS sc zc = [] ∧ stsErr sc zc = 0 := by decide +kernel
theorem ex_rz : chkB rc zc = true ∧ chkS rc zc = [] ∧ stsErr rc zc = 0 := by decide +kernel
theorem ex_zr : chkB zc rc = false ∧ chkS zc rc = [0, 0] ∧ stsErr zc rc = 0 := by decide +kernel
theorem allocs_size (l : List Obj) : ∀ w : World, (l.foldl World.alloc w).heap.size = w.heap.size + l.length := by
  induction l with
  | nil => intro w; rfl
  | cons o l ih => intro w; rw [List.foldl_cons, ih, List.length_cons]; simp; omega
theorem allocs_at : ∀ (l : List Obj) (w : World) (k : Nat) (o : Obj), l[k]? = some o → (l.foldl World.alloc w).heap[w.heap.size + k]? = some o := by
  intro l
  induction l with
  | nil => intro w k o h; simp at h
  | cons x l ih =>
    intro w k o h
    rw [List.foldl_cons]
    cases k with
    | zero =>
      simp at h
      subst h
      have : ∀ (l : List Obj) (w : World) (g : Nat) (o : Obj), w.heap[g]? = some o → (l.foldl World.alloc w).heap[g]? = some o := by
        intro l
        induction l with
        | nil => intro w g o h; exact h
        | cons y l ih2 => intro w g o h; rw [List.foldl_cons]; exact ih2 _ _ _ (block_alloc h _)
      exact this _ _ _ _ (heap_alloc_new w x)
    | succ k =>
      have := ih (w.alloc x) k o (by simpa using h)
      rwa [show (w.alloc x).heap.size + k = w.heap.size + (k + 1) from by simp; omega] at this
theorem allocs_below (l : List Obj) : ∀ (w W : World), Below w.heap.size w W → Below w.heap.size w (l.foldl World.alloc W) := by
  induction l with
  | nil => intro w W h; exact h
  | cons x l ih => intro w W h; rw [List.foldl_cons]; exact ih w _ (below_alloc h x)
theorem cd_one {W : World} {B : Nat} (x : In) (r : Int) (k n : Int) (h0 : W.heap[B]? = some (.cells (inCells x).toArray 35 (0, 0))) (h1 : W.heap[B + 1]? = some (.cells #[.int .i64 r] 3 (0, 0))) : CdRd (fun _ => True) W ⟨k, n, [x], [r]⟩ ⟨some ⟨B, 0, none⟩, 1, some ⟨B + 1, 0, none⟩, 1⟩ :=
  ⟨rd_block (cs := inCells x) h0 (xs := [x]) (.cons (c := inCells x) rfl .nil) trivial 1 (by simp) (by decide), rd_block (cs := [.int .i64 r]) h1 (elems_vals [r]) trivial 1 (by simp) (by decide)⟩
def exObjs (B : Nat) : List Obj := [.cells #[.int .i64 1, .int .i64 0, .int .i64 0, .int .i64 0, .int .i64 0, .int .u64 0] 35, .cells #[.int .i64 0] 3, .cells #[.int .i64 2, .int .i64 2, .slice (some ⟨B, 0, none⟩) 1 1, .slice (some ⟨B + 1, 0, none⟩) 1 1] 38, .cells #[.int .i64 9, .int .i64 0, .int .i64 1, .int .i64 1, .int .i64 0, .int .u64 0] 35, .cells #[.int .i64 0] 3, .cells #[.int .i64 2, .int .i64 2, .slice (some ⟨B + 1 + 1 + 1, 0, none⟩) 1 1, .slice (some ⟨B + 1 + 1 + 1 + 1, 0, none⟩) 1 1] 38, .cells #[.int .i64 12, .int .i64 0, .int .i64 1, .int .i64 1, .int .i64 0, .int .u64 0] 35, .cells #[.int .i64 0] 3, .cells #[.int .i64 2, .int .i64 2, .slice (some ⟨B + 1 + 1 + 1 + 1 + 1 + 1, 0, none⟩) 1 1, .slice (some ⟨B + 1 + 1 + 1 + 1 + 1 + 1 + 1, 0, none⟩) 1 1] 38]
set_option maxRecDepth 20000 in
set_option maxHeartbeats 4000000 in
theorem law53_alive (w : World) (hK : IsaT w) : Calls Tryd.prog 5 #[] w fun e w' => e = .returned (.bool true) ∧ Below w.heap.size w w' := by
  go_enter Tryd.func5, Tryd.ntmps5
  go_upto_region 4 with fail
  have BW := Lib.hid (allocs_below (exObjs w.heap.size) w w (Below.refl _ _))
  have K := fun k o h => allocs_at (exObjs w.heap.size) w k o h
  obtain ⟨W0, hW0⟩ : ∃ W0, W0 = (exObjs w.heap.size).foldl World.alloc w := ⟨_, rfl⟩
  change Code.wp _ _ _ _ ((exObjs w.heap.size).foldl World.alloc w)
  rw [← hW0] at BW K ⊢
  clear hW0
  have Z0 : Hid (W0.heap[w.heap.size + 1 + 1]? = some (.cells #[.int .i64 2, .int .i64 2, .slice (some ⟨w.heap.size, 0, none⟩) 1 1, .slice (some ⟨w.heap.size + 1, 0, none⟩) 1 1] 38 (0, 0))) := K 2 _ rfl
  have CZ : Hid (CdRd (fun _ => True) W0 zc ⟨some ⟨w.heap.size, 0, none⟩, 1, some ⟨w.heap.size + 1, 0, none⟩, 1⟩) := cd_one (B := w.heap.size) _ 0 2 2 (K 0 _ rfl) (K 1 _ rfl)
  have S0 : Hid (W0.heap[w.heap.size + 1 + 1 + 1 + 1 + 1]? = some (.cells #[.int .i64 2, .int .i64 2, .slice (some ⟨w.heap.size + 1 + 1 + 1, 0, none⟩) 1 1, .slice (some ⟨w.heap.size + 1 + 1 + 1 + 1, 0, none⟩) 1 1] 38 (0, 0))) := K 5 _ rfl
  have CS : Hid (CdRd (fun _ => True) W0 sc ⟨some ⟨w.heap.size + 1 + 1 + 1, 0, none⟩, 1, some ⟨w.heap.size + 1 + 1 + 1 + 1, 0, none⟩, 1⟩) := cd_one (B := w.heap.size + 1 + 1 + 1) _ 0 2 2 (K 3 _ rfl) (K 4 _ rfl)
  have R0 : Hid (W0.heap[w.heap.size + 1 + 1 + 1 + 1 + 1 + 1 + 1 + 1]? = some (.cells #[.int .i64 2, .int .i64 2, .slice (some ⟨w.heap.size + 1 + 1 + 1 + 1 + 1 + 1, 0, none⟩) 1 1, .slice (some ⟨w.heap.size + 1 + 1 + 1 + 1 + 1 + 1 + 1, 0, none⟩) 1 1] 38 (0, 0))) := K 8 _ rfl
  have CR : Hid (CdRd (fun _ => True) W0 rc ⟨some ⟨w.heap.size + 1 + 1 + 1 + 1 + 1 + 1, 0, none⟩, 1, some ⟨w.heap.size + 1 + 1 + 1 + 1 + 1 + 1 + 1, 0, none⟩, 1⟩) := cd_one (B := w.heap.size + 1 + 1 + 1 + 1 + 1 + 1) _ 0 2 2 (K 6 _ rfl) (K 7 _ rfl)
  clear K
  have K1 : Hid (∀ W, Below W0.heap.size W0 W → Calls Tryd.prog 12 #[cdVal sc ⟨some ⟨w.heap.size + 1 + 1 + 1, 0, none⟩, 1, some ⟨w.heap.size + 1 + 1 + 1 + 1, 0, none⟩, 1⟩, cdVal zc ⟨some ⟨w.heap.size, 0, none⟩, 1, some ⟨w.heap.size + 1, 0, none⟩, 1⟩] W fun e w' => ∃ a ca, e = .returned (.tuple #[.bool true, .slice a 0 ca, .int .i64 0]) ∧ Rd (Kd.int .u64) (fun b => W.heap.size ≤ b) w' a ca [] ∧ Below W.heap.size W w') := by
    intro W b
    have := refine_Check (fun _ => True) sc zc ⟨some ⟨w.heap.size + 1 + 1 + 1, 0, none⟩, 1, some ⟨w.heap.size + 1 + 1 + 1 + 1, 0, none⟩, 1⟩ ⟨some ⟨w.heap.size, 0, none⟩, 1, some ⟨w.heap.size + 1, 0, none⟩, 1⟩ W (hK.below (below_both BW.out b)) (CS.out.frame (Same.below b)) (CZ.out.frame (Same.below b)) (by decide) (by decide) (by decide) (by decide)
    rwa [ex_sz.1, ex_sz.2.1, ex_sz.2.2] at this
  have K2 : Hid (∀ W, Below W0.heap.size W0 W → Calls Tryd.prog 12 #[cdVal rc ⟨some ⟨w.heap.size + 1 + 1 + 1 + 1 + 1 + 1, 0, none⟩, 1, some ⟨w.heap.size + 1 + 1 + 1 + 1 + 1 + 1 + 1, 0, none⟩, 1⟩, cdVal zc ⟨some ⟨w.heap.size, 0, none⟩, 1, some ⟨w.heap.size + 1, 0, none⟩, 1⟩] W fun e w' => ∃ a ca, e = .returned (.tuple #[.bool true, .slice a 0 ca, .int .i64 0]) ∧ Rd (Kd.int .u64) (fun b => W.heap.size ≤ b) w' a ca [] ∧ Below W.heap.size W w') := by
    intro W b
    have := refine_Check (fun _ => True) rc zc ⟨some ⟨w.heap.size + 1 + 1 + 1 + 1 + 1 + 1, 0, none⟩, 1, some ⟨w.heap.size + 1 + 1 + 1 + 1 + 1 + 1 + 1, 0, none⟩, 1⟩ ⟨some ⟨w.heap.size, 0, none⟩, 1, some ⟨w.heap.size + 1, 0, none⟩, 1⟩ W (hK.below (below_both BW.out b)) (CR.out.frame (Same.below b)) (CZ.out.frame (Same.below b)) (by decide) (by decide) (by decide) (by decide)
    rwa [ex_rz.1, ex_rz.2.1, ex_rz.2.2] at this
  have K3 : Hid (∀ W, Below W0.heap.size W0 W → Calls Tryd.prog 12 #[cdVal zc ⟨some ⟨w.heap.size, 0, none⟩, 1, some ⟨w.heap.size + 1, 0, none⟩, 1⟩, cdVal rc ⟨some ⟨w.heap.size + 1 + 1 + 1 + 1 + 1 + 1, 0, none⟩, 1, some ⟨w.heap.size + 1 + 1 + 1 + 1 + 1 + 1 + 1, 0, none⟩, 1⟩] W fun e w' => ∃ a ca, e = .returned (.tuple #[.bool false, .slice a 2 ca, .int .i64 0]) ∧ Rd (Kd.int .u64) (fun b => W.heap.size ≤ b) w' a ca [0, 0] ∧ Below W.heap.size W w') := by
    intro W b
    have := refine_Check (fun _ => True) zc rc ⟨some ⟨w.heap.size, 0, none⟩, 1, some ⟨w.heap.size + 1, 0, none⟩, 1⟩ ⟨some ⟨w.heap.size + 1 + 1 + 1 + 1 + 1 + 1, 0, none⟩, 1, some ⟨w.heap.size + 1 + 1 + 1 + 1 + 1 + 1 + 1, 0, none⟩, 1⟩ W (hK.below (below_both BW.out b)) (CZ.out.frame (Same.below b)) (CR.out.frame (Same.below b)) (by decide) (by decide) (by decide) (by decide)
    rwa [ex_zr.1, ex_zr.2.1, ex_zr.2.2] at this
  clear CZ CS CR
  obtain ⟨z0, z1, z2, z3⟩ := cd_block4 Z0.out
  obtain ⟨y0, y1, y2, y3⟩ := cd_block4 S0.out
  go_wp2_with fail
  refine (K1.out W0 (Below.refl _ _)).mono ?_
  rintro e w1 ⟨a1, n1, rfl, -, b1⟩
  have B1 := Lib.hid b1
  clear b1 z0 z1 z2 z3 y0 y1 y2 y3
  obtain ⟨z0, z1, z2, z3⟩ := cd_block4 (block_below B1.out Z0.out)
  obtain ⟨y0, y1, y2, y3⟩ := cd_block4 (block_below B1.out R0.out)
  go_wp2_with fail
  refine (K2.out w1 B1.out).mono ?_
  rintro e w2 ⟨a2, n2, rfl, -, b2⟩
  have B2 := Lib.hid (below_both B1.out b2)
  clear b2 z0 z1 z2 z3 y0 y1 y2 y3
  obtain ⟨z0, z1, z2, z3⟩ := cd_block4 (block_below B2.out Z0.out)
  obtain ⟨y0, y1, y2, y3⟩ := cd_block4 (block_below B2.out R0.out)
  go_wp2_with fail
  refine (K3.out w2 B2.out).mono ?_
  rintro e w3 ⟨a3, n3, rfl, r3, b3⟩
  have R3 := Lib.hid r3
  have B3 := Lib.hid (below_both B2.out b3)
  clear b3 r3 z0 z1 z2 z3 y0 y1 y2 y3
  have B4 := Lib.hid (below_alloc B3.out (.cells #[.int .u64 0, .int .u64 0] 28))
  have R4 := Lib.hid (R3.out.frame (Same.alloc _ w3 (.cells #[.int .u64 0, .int .u64 0] 28)))
  have L4 := Lib.hid (Rd.lit (enc := Value.int .u64) (h1 := fun _ => rfl) w3 28 [0, 0] 0 (by decide))
  go_wp2_with fail
  refine (ref49_Same _ _ a3 _ n3 _ [0, 0] [0, 0] _ R4.out L4.out).mono ?_
  rintro e w5 ⟨rfl, d5⟩
  have B5 := Lib.hid (below_both B4.out (d5.below _))
  go_wp2_with fail
  go_ret
  exact ⟨rfl, below_both BW.out B5.out⟩
end Go.Proofs.Sat
/- The walk of ref53.State. -/
namespace Go.Proofs.Sat
open Go Go.RowKit
theorem ref_word {b : Nat} (idx : Int) : IntKind.u64.wrap idx = (((idx % 18446744073709551616).toNat : Nat) : Int) := by
  have h0 : 0 ≤ idx % 18446744073709551616 := Int.emod_nonneg _ (by omega)
  rw [wrap_int]; omega
theorem div_next (x j n : Nat) : x / 2 ^ (j * n) / 2 ^ n = x / 2 ^ ((j + 1) * n) := by
  rw [Nat.div_div_eq_div_mul, ← Nat.pow_add]
  congr 2
  rw [Nat.add_mul, Nat.one_mul]
set_option maxRecDepth 20000 in
set_option maxHeartbeats 4000000 in
theorem ref53_State (Sl : Nat → Prop) (L : List Int) (a : Option Addr) (ca : Nat) (W N idx : Int) (w : World) (hr : Rd (Kd.int .i64) Sl w a ca L) (hL : L.length ≤ 1000) :
    Calls Tryd.prog 8 #[.slice a L.length ca, .int .i64 W, .int .i64 N, .int .i64 idx] w fun e w' => ∃ g, e = .returned (.slice (some ⟨g, 0, none⟩) (numE N) (numE N)) ∧ w.heap.size ≤ g ∧ St8 w' g (numE N) (stateE L W N idx) ∧ Below w.heap.size w w' := by
  obtain ⟨n, hn⟩ : ∃ n, n = widE W := ⟨_, rfl⟩
  obtain ⟨R, hR⟩ : ∃ R, R = numE N := ⟨_, rfl⟩
  have hw1 : min (max W 1) 64 = (n : Int) := by rw [hn]; unfold widE; omega
  have hn1 : min (max N 0) 8 = (R : Int) := by rw [hR]; unfold numE; omega
  have n1 : 1 ≤ n := by omega
  have n2 : n ≤ 64 := by omega
  have R8 : R ≤ 8 := by omega
  have HST : Hid (stateE L W N idx = stFold n (idxE (bitsE n (ownE R L).length) idx) 0 (ownE R L) (fun _ => 0)) := by show _ = _; unfold stateE; rw [← hn, ← hR]
  have HR := Lib.hid hr
  have HRR := Lib.hid hR
  clear hr hn hR
  go_enter Tryd.func8, Tryd.ntmps8
  go_wp2_with (first
    | ((with_reducible refine gate_m 25 (.tmp 23) (.tmp 23) rfl ?_); refine wpList_make_ev _ rfl (.tmp 23) (.tmp 23) 25 rfl _ _ rfl rfl _ (run_mkR _ _ _ _ _ R rfl rfl (by omega)) ?_; rintro v' w1 ⟨hG, hg, rfl⟩; have G1 := Lib.hid hG; have B1 := Lib.hid ((Below.refl w.heap.size w).grown hg (Nat.le_refl _) (fun k hk => by cases hk)); clear hG hg)
    | fail)
  go_loopw [12, 13] (fun v i wr => ∃ k : Nat, k ≤ L.length ∧ i = .int .i64 k ∧ Hid (Own (Kd.int .i64) 3 NoS wr w1.heap.size v (ownE R (L.take k))) ∧ Hid (Below w1.heap.size w1 wr)) (fun _ i _ => L.length - (intOf i).toNat)
  case atStart => exact ⟨0, by omega, rfl, Own.nil _ _ _ _ _, Below.refl _ _⟩
  case round =>
    obtain ⟨k, hk, rfl, O2, B2⟩ := hrel
    by_cases hlt : k < L.length
    · have hkl : (k : Int) < (L.length : Int) := by omega
      obtain ⟨ob, oo, rfl, -, -, hc⟩ := ((HR.out.frame (Same.below B1.out)).frame (Same.below B2.out)).vals (by omega) 0
      have d5 := hc k hlt
      rw [getD_at _ hlt] at d5
      have HT : Hid (ownE R (L.take (k + 1)) = if 0 ≤ L[k] ∧ L[k] < (R : Int) then ownE R (L.take k) ++ [L[k]] else ownE R (L.take k)) := by show _ = _; rw [List.take_succ_eq_append_getElem hlt, ownE_snoc]
      have hXl : (ownE R (L.take k)).length ≤ 1000 := by have h1 := ownE_len R (L.take k); rw [List.length_take] at h1; omega
      clear hc
      generalize L[k] = r at *
      generalize ownE R (L.take k) = X at *
      obtain ⟨a4, c4, rfl⟩ := O2.out.form
      by_cases h0 : 0 ≤ r
      · by_cases h1 : r < (R : Int)
        · rw [if_pos ⟨h0, h1⟩] at HT
          have t0 : decide (0 ≤ r) = true := decide_eq_true h0
          have t1 : decide (r < (R : Int)) = true := decide_eq_true h1
          clear h0 h1
          go_wp2_with (first
            | (at_builtin; refine wpList_append_ev _ rfl _ _ 22 rfl _ _ rfl rfl _ (run_app1 wr infoInt rfl _ O2.out 3 [.int .i64 _] _ rfl (by omega) (by omega) B2.out.size) ?_; rintro n2 w5 ⟨ow2, g2, v2, _⟩; have B5 := Lib.hid (B2.out.grown g2 B2.out.size (fun k hk => (O2.out.lt k hk).1)); have O5 := Lib.hid ow2; clear ow2 g2 v2)
            | fail)
          go_roundw
          case rel => exact ⟨k + 1, by omega, by go_num, by rw [HT.out]; exact O5.out, B5.out⟩
          case measure => simp [intOf]; omega
        · rw [if_neg (fun h => h1 h.2)] at HT
          have t0 : decide (0 ≤ r) = true := decide_eq_true h0
          have t1 : decide (r < (R : Int)) = false := decide_eq_false h1
          clear h0 h1
          go_wp2_with fail
          go_roundw
          case rel => exact ⟨k + 1, by omega, by go_num, by rw [HT.out]; exact O2.out, B2.out⟩
          case measure => simp [intOf]; omega
      · rw [if_neg (fun h => h0 h.1)] at HT
        have t0 : decide (0 ≤ r) = false := decide_eq_false h0
        clear h0
        go_wp2_with fail
        go_roundw
        case rel => exact ⟨k + 1, by omega, by go_num, by rw [HT.out]; exact O2.out, B2.out⟩
        case measure => simp [intOf]; omega
    · have hnl : ¬ ((k : Int) < (L.length : Int)) := by omega
      have h5 := O2.out
      rw [show k = L.length by omega, List.take_length] at h5
      have O5 := Lib.hid h5
      have HOM : Hid (∀ r ∈ ownE R L, 0 ≤ r ∧ r < (R : Int)) := fun r hr => ownE_mem hr
      have hml := ownE_len R L
      clear h5 hlt hk O2
      generalize ownE R L = X at *
      obtain ⟨a4, c4, rfl⟩ := O5.out.form
      obtain ⟨b, hb⟩ : ∃ b, b = bitsE n X.length := ⟨_, rfl⟩
      have hb16 := bitsE_le n X.length
      rw [← hb] at hb16 HST
      have HB := Lib.hid hb
      clear hb
      obtain ⟨w2, hw2⟩ : ∃ w2, w2 = wr := ⟨_, rfl⟩
      subst hw2
      go_upto_if 53 with fail
      go_cut [14] (fun s wx => s = .int .i64 (b : Int) ∧ wx = w2)
      case first =>
        have hw64 : wrap64 ((n : Int) * (X.length : Int)) = ((n * X.length : Nat) : Int) := by
          have h1 : n * X.length ≤ 64 * 1000 := Nat.mul_le_mul n2 (by omega)
          rw [← Int.natCast_mul, IntWalk.wrap64_in _ (by omega)]
        by_cases h16 : X.length < 16
        · have hbe : min 16 ((n * X.length : Nat) : Int) = (b : Int) := by rw [HB.out]; unfold bitsE; rw [if_pos h16]; omega
          have h16' : (X.length : Int) < 16 := by omega
          go_wp2_with fail
          go_meet
          case rel => exact ⟨by first | rw [hw64, hbe] | (show Value.int .i64 (min 16 ((n : Int) * (X.length : Int))) = _; rw [← Int.natCast_mul, hbe]), rfl⟩
        · have hbe : b = 16 := by rw [HB.out]; unfold bitsE; rw [if_neg h16]
          have h16' : ¬ (X.length : Int) < 16 := by omega
          clear HST
          go_wp2_with fail
          go_meet
          case rel => exact ⟨by rw [hbe]; rfl, rfl⟩
      case rest =>
        obtain ⟨rfl, hwc⟩ := hcut
        subst hwc
        have HSZ1 := Lib.hid G1.out.lt
        have G2 := Lib.hid (G1.out.below B2.out)
        have B3 := Lib.hid (below_both B1.out B2.out)
        obtain ⟨bm, hbm⟩ : ∃ bm, bm = max 1 b := ⟨_, rfl⟩
        have hmaxb : max 1 (b : Int) = (bm : Int) := by omega
        have hbm1 : 1 ≤ bm := by omega
        have hbm2 : bm ≤ 64 := by omega
        obtain ⟨Z, hZ⟩ : ∃ Z, Z = (idx % 18446744073709551616).toNat := ⟨_, rfl⟩
        have hZl : Z < 18446744073709551616 := by
          have h1 : idx % 18446744073709551616 < 18446744073709551616 := Int.emod_lt_of_pos _ (by omega)
          omega
        have HWD : Hid (IntKind.u64.wrap idx = (Z : Int)) := by show _ = _; rw [hZ]; exact ref_word (b := 0) idx
        have HXE : Hid ((if b = 0 then 0 else Z % 2 ^ bm) = idxE b idx) := by
          show _ = _
          unfold idxE
          rw [← hZ]
          by_cases h : b = 0
          · rw [if_pos h, h, Nat.pow_zero, Nat.mod_one]
          · rw [if_neg h, show bm = b by omega]
        have CB := Lib.hid (fun W => ref01_Cut bm Z W hbm1 hbm2 hZl)
        have hx := idxE_lt b idx
        have HXL : Hid (idxE b idx < 18446744073709551616) := Nat.lt_of_lt_of_le hx (by have := Nat.pow_le_pow_right (show 0 < 2 by omega) (show b ≤ 64 by omega); simpa using this)
        generalize idxE b idx = x at *
        generalize Z % 2 ^ bm = Y at *
        clear hx hZ hbm
        have hwd := HWD.out
        go_upto_region 14 with (first | ((go_simp; try rw [hwd]); go_at_call 13; refine (CB.out _).mono ?_; rintro e w3 ⟨rfl, d3⟩) | fail)
        have G3 := Lib.hid (G2.out.drawn d3)
        have O6 := Lib.hid (O5.out.drawn d3)
        have B4 := Lib.hid (below_both B3.out (d3.below _))
        clear d3 hwd
        obtain ⟨w4, hw4⟩ : ∃ w4, w4 = w3 := ⟨_, rfl⟩
        subst hw4
        go_upto_if 65 with fail
        go_cut [15] (fun s wx => s = .int .u64 (x : Int) ∧ wx = w4)
        case first =>
          by_cases h0 : b = 0
          · have hb0 : ((b : Int) == 0) = true := by rw [h0]; rfl
            have hx0 : x = 0 := by rw [← HXE.out, if_pos h0]
            clear h0
            go_wp2_with fail
            go_meet
            case rel => exact ⟨by rw [hx0]; rfl, rfl⟩
          · have hb0 : ((b : Int) == 0) = false := by simpa using h0
            have hx0 : x = Y := by rw [← HXE.out, if_neg h0]
            clear h0
            go_wp2_with fail
            go_meet
            case rel => exact ⟨by rw [hx0], rfl⟩
        case rest =>
          obtain ⟨rfl, hwc2⟩ := hcut
          subst hwc2
          clear HXE CB HWD hZl
          go_wp2_with fail
          go_loopw [15, 16] (fun lv i wr => ∃ (j : Nat) (s : Nat → Nat), j ≤ X.length ∧ i = .int .i64 j ∧ lv = .int .u64 ((x / 2 ^ (j * n) : Nat) : Int) ∧ Hid (stFold n x 0 X (fun _ => 0) = stFold n x j (X.drop j) s) ∧ Hid (St8 wr w.heap.size R s) ∧ Hid (Own (Kd.int .i64) 3 NoS wr w1.heap.size (.slice a4 X.length c4) X) ∧ Hid (Below w.heap.size w wr)) (fun _ i _ => X.length - (intOf i).toNat)
          case atStart => exact ⟨0, _, by omega, rfl, by rw [Nat.zero_mul, Nat.pow_zero, Nat.div_one], by show _ = _; rw [List.drop_zero], G3.out, O6.out, B4.out⟩
          case round =>
            obtain ⟨j, s, hj, rfl, rfl, HF, G4, O7, B5⟩ := hrel
            by_cases hlt : j < X.length
            · have hjl : (j : Int) < (X.length : Int) := by omega
              obtain ⟨ob, oo, rfl, -, hob, hc⟩ := (Own.rd' O7.out).vals (by omega) 0
              have d5 := hc j hlt
              rw [getD_at _ hlt] at d5
              have hr := HOM.out _ (List.getElem_mem hlt)
              have HFS : Hid (stFold n x j (X.drop j) s = stFold n x (j + 1) (X.drop (j + 1)) (updN s (X[j]).toNat (x / 2 ^ (j * n) % 2 ^ n))) := by show _ = _; rw [List.drop_eq_getElem_cons hlt]; rfl
              clear hc
              generalize X[j] = r at *
              obtain ⟨hr0, hr1⟩ := hr
              obtain ⟨m, rfl⟩ := Int.eq_ofNat_of_zero_le hr0
              rw [Int.toNat_natCast] at HFS
              have hmR : m < R := by omega
              have hmR' : (m : Int) < (R : Int) := hr1
              clear hr1
              have HN : Hid (x / 2 ^ (j * n) / 2 ^ n = x / 2 ^ ((j + 1) * n)) := div_next x j n
              have hYL : x / 2 ^ (j * n) < 18446744073709551616 := Nat.lt_of_le_of_lt (Nat.div_le_self _ _) HXL.out
              generalize x / 2 ^ (j * n) = Y2 at *
              have CC := Lib.hid (fun W => ref01_Cut n Y2 W n1 n2 hYL)
              have HSH : Hid ((Y2 : Int) / 2 ^ n = ((Y2 / 2 ^ n : Nat) : Int)) := shr_nat Y2 n n2
              generalize Y2 / 2 ^ n = Y3 at *
              generalize Y2 % 2 ^ n = Y4 at *
              obtain ⟨s1, s2, s3⟩ := G4.out.at hmR
              have UO : Hid (∀ W', Same (fun b => b ≠ w.heap.size) wr W' → Own (Kd.int .i64) 3 NoS W' w1.heap.size (.slice (some ⟨ob, oo, none⟩) X.length c4) X) := fun W' hs => O7.out.same ⟨hs.1, fun b hb hbl => hs.2 b (by rcases hb with hb | hb; (· exact hb.elim); (· have := (O7.out.lt b hb.symm).1; have := HSZ1.out; show b ≠ w.heap.size; omega)) hbl⟩
              clear hYL
              go_wp2_with fail
              go_region_law
                (first
                | (go_simp; go_at_call 13; refine (CC.out _).mono ?_; rintro e w5 ⟨rfl, e5⟩; have D5 := Lib.hid (show Drawn wr w5 from (Drawn.step (Drawn.refl _) _).trans e5); have G5 := Lib.hid (G4.out.drawn D5.out); have s9 := (G5.out.at hmR).2.1; have s8 := (G5.out.at hmR).1; have d9 := D5.out.cell d5; clear e5)
                | fail)
              all_goals
                have G6 := Lib.hid ((G5.out.at hmR).2.2 Y4)
                have S6 : Hid (Same (fun b => b ≠ w.heap.size) wr (w5.setCell ⟨w.heap.size, m, none⟩ (.int .u64 (Y4 : Int)))) := (Same.drawn _ D5.out).trans (Same.setCell _ _ (fun b hb => hb))
                have B6 : Hid (Below w.heap.size w (w5.setCell ⟨w.heap.size, m, none⟩ (.int .u64 (Y4 : Int)))) := (below_both B5.out (D5.out.below _)).setCell (Nat.le_refl _) _
                clear s8 s9 d9
                generalize w5.setCell ⟨w.heap.size, m, none⟩ (.int .u64 (Y4 : Int)) = V at *
                go_wp2_with fail
                go_roundw
                case rel => exact ⟨j + 1, _, by omega, by go_num, by rw [← HN.out, ← HSH.out], HF.out.trans HFS.out, G6.out, UO.out _ S6.out, B6.out⟩
                case measure => simp [intOf]; omega
            · have hnl2 : ¬ ((j : Int) < (X.length : Int)) := by omega
              rw [show j = X.length by omega, List.drop_length] at HF
              clear hlt hj
              go_wp2_with fail
              go_ret
              refine ⟨w.heap.size, ?_, Nat.le_refl _, ?_, B5.out⟩
              · rw [← HRR.out]; rfl
              · rw [← HRR.out, HST.out, HF.out]; exact G4.out
end Go.Proofs.Sat
