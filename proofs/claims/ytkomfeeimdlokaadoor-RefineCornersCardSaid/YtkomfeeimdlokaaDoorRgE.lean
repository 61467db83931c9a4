/- The walk of refine.Check. -/
import Derived.Test.YtkomfeeimdlokaaDoorRgD
set_option linter.unusedVariables false
set_option linter.unusedSimpArgs false
namespace Go.Proofs.Sat
open Go Go.RowKit Go.Shelf
attribute [local go_sem] Oper.semAt_some
/-- A state as a list. -/
def stL (n : Nat) (s : Nat → Nat) : List Int := (List.range n).map (fun i => (s i : Int))
theorem stL_length (n : Nat) (s : Nat → Nat) : (stL n s).length = n := by simp [stL]
theorem stL_get (n : Nat) (s : Nat → Nat) {i : Nat} (h : i < n) (h' : i < (stL n s).length) : (stL n s)[i] = (s i : Int) := by simp [stL]
theorem St8.rd {w : World} {g n : Nat} {s : Nat → Nat} (S : Nat → Prop) (h : St8 w g n s) (hS : S g) (hn : n ≤ 1000000) : Rd (Kd.int .u64) S w (some ⟨g, 0, none⟩) n (stL n s) := by
  refine Rd.of_vals 0 (by rw [stL_length]; exact Nat.le_refl _) (by omega) (fun _ => ⟨hS, h.lt⟩) (fun j hj => ?_)
  have hj' : j < n := by rw [stL_length] at hj; exact hj
  rw [getD_at _ hj, stL_get n s hj' hj, Nat.zero_add]
  exact (h.at hj').1
theorem stFold_lt (n x : Nat) (hn : n ≤ 64) : ∀ (l : List Int) (j : Nat) (s : Nat → Nat), (∀ k, s k < 18446744073709551616) → ∀ k, stFold n x j l s k < 18446744073709551616
  | [], _, _, h, k => h k
  | r :: l, j, s, h, k => by
    refine stFold_lt n x hn l (j + 1) _ (fun k => ?_) k
    unfold updN
    by_cases e : k = r.toNat
    · rw [if_pos e]
      have h1 := Nat.mod_lt (x / 2 ^ (j * n)) (Nat.two_pow_pos n)
      have h2 : 2 ^ n ≤ 2 ^ 64 := Nat.pow_le_pow_right (by omega) hn
      omega
    · rw [if_neg e]; exact h k
theorem stateE_lt (L : List Int) (W N idx : Int) (k : Nat) : stateE L W N idx k < 18446744073709551616 := by
  unfold stateE
  exact stFold_lt _ _ (by unfold widE; omega) _ _ _ (fun _ => by decide) k
theorem stL_lt {n : Nat} {s : Nat → Nat} (h : ∀ k, s k < 18446744073709551616) : ∀ x ∈ stL n s, 0 ≤ x ∧ x < 18446744073709551616 := by
  intro x hx
  unfold stL at hx
  obtain ⟨i, -, rfl⟩ := List.mem_map.1 hx
  have := h i
  omega
theorem numE_le (N : Int) : numE N ≤ 8 := by unfold numE; omega
theorem stsN_le (c d : Cd) : stsN c d ≤ 65536 := by
  unfold stsN
  split
  · rename_i h
    unfold stsErr at h
    by_cases h1 : cmpErr c d = 0
    · rw [if_neg (not_not_intro h1)] at h
      by_cases h2 : 16 < c.width * ((inp2 c d).length : Int)
      · rw [if_pos h2] at h; cases h
      · have h3 : c.width.toNat * (inp2 c d).length ≤ 16 := by
          rcases Int.le_total 0 c.width with h4 | h4
          · obtain ⟨n, hn⟩ := Int.eq_ofNat_of_zero_le h4
            rw [hn] at h2 ⊢
            rw [Int.toNat_natCast]
            have : ((n * (inp2 c d).length : Nat) : Int) ≤ 16 := by rw [Int.natCast_mul]; omega
            omega
          · rw [show c.width.toNat = 0 by omega]; omega
        have := Nat.pow_le_pow_right (show 0 < 2 by omega) h3
        simpa using this
    · rw [if_pos h1] at h; exact absurd h h1
  · omega
theorem stsL_len (c d : Cd) : (stsL c d).length ≤ 16 := by
  unfold stsL
  split
  · exact inp2_length c d
  · simp
/-- The state with an index that Check asks. -/
def chkSt (c d : Cd) (i : Nat) : List Int := stL (numE c.regs) (stateE (stsL c d) c.width c.regs (i : Int))
/-- Does it show the contrary? -/
def chkBad (c d : Cd) (i : Nat) : Bool := showsB c d (chkSt c d i)
def chkK (c d : Cd) : Option Nat := (List.range (stsN c d)).find? (chkBad c d)
def chkB (c d : Cd) : Bool := decide (stsErr c d = 0) && (chkK c d).isNone
def chkS (c d : Cd) : List Int := match chkK c d with | some i => chkSt c d i | none => []
theorem chkK_some {c d : Cd} {i : Nat} (hi : i < stsN c d) (hb : ∀ j, j < i → chkBad c d j = false) (h : chkBad c d i = true) : chkK c d = some i := by
  unfold chkK
  rw [List.find?_range_eq_some]
  exact ⟨h, by simpa using hi, fun j hj => by rw [hb j hj]; rfl⟩
theorem chkK_none {c d : Cd} (hb : ∀ j, j < stsN c d → chkBad c d j = false) : chkK c d = none := by
  unfold chkK
  rw [List.find?_eq_none]
  intro j hj
  rw [hb j (List.mem_range.1 hj)]
  decide
theorem blk_set1 {W : World} {g : Nat} {t : TypeId} {v0 v1 : Value} (h : W.heap[g]? = some (.cells #[v0] t (0, 0))) : (W.setCell ⟨g, 0, none⟩ v1).heap[g]? = some (.cells #[v1] t (0, 0)) := by
  simp [World.setCell, Array.getElem?_modify, h]
theorem blk_set_ne {W : World} {g k : Nat} {v : Value} {o : Option Obj} (h : W.heap[k]? = o) (hne : k ≠ g) : (W.setCell ⟨g, 0, none⟩ v).heap[k]? = o := (Below.heap_setCell W ⟨g, 0, none⟩ v k hne).trans h
theorem blk_at {W : World} {g : Nat} {t : TypeId} {v : Value} (h : W.heap[g]? = some (.cells #[v] t (0, 0))) : W.cell? ⟨g, 0, none⟩ = some v ∧ W.frozen? ⟨g, 0, none⟩ = false := ⟨cell_of_row _ _ 0 _ _ _ h, frozen_of_block h⟩
/-- Check's five boxes. -/
structure ChkW (B : Nat) (W : World) (c d : Cd) (ia : Option Addr) (ic : Nat) (oa : Option Addr) (oc : Nat) (ja : Option Addr) (jc : Nat) (qa : Option Addr) (qc : Nat) (b : Bool) (v : Value) (e : Int) : Prop where
  kc : W.heap[B]? = some (.cells (cellsC c ia ic oa oc) 38 (0, 0))
  kd : W.heap[B + 1]? = some (.cells (cellsC d ja jc qa qc) 38 (0, 0))
  k4 : W.heap[B + 1 + 1]? = some (.cells #[.bool b] 4 (0, 0))
  k5 : W.heap[B + 1 + 1 + 1]? = some (.cells #[v] 25 (0, 0))
  k6 : W.heap[B + 1 + 1 + 1 + 1]? = some (.cells #[.int .i64 e] 39 (0, 0))
section
variable {B : Nat} {W W' : World} {c d : Cd} {ia oa ja qa : Option Addr} {ic oc jc qc : Nat} {b b' : Bool} {v v' : Value} {e e' : Int}
theorem ChkW.frame (h : ChkW B W c d ia ic oa oc ja jc qa qc b v e) (hb : ∀ k, k ≤ B + 4 → W'.heap[k]? = W.heap[k]?) : ChkW B W' c d ia ic oa oc ja jc qa qc b v e :=
  ⟨(hb _ (by omega)).trans h.kc, (hb _ (by omega)).trans h.kd, (hb _ (by omega)).trans h.k4, (hb _ (by omega)).trans h.k5, (hb _ (by omega)).trans h.k6⟩
theorem ChkW.lt (h : ChkW B W c d ia ic oa oc ja jc qa qc b v e) : B + 4 < W.heap.size := (Array.getElem?_eq_some_iff.1 h.k6).1
theorem ChkW.below (h : ChkW B W c d ia ic oa oc ja jc qa qc b v e) (hb : Below W.heap.size W W') : ChkW B W' c d ia ic oa oc ja jc qa qc b v e := h.frame (fun k hk => hb.block k (by have := h.lt; omega))
theorem ChkW.set (h : ChkW B W c d ia ic oa oc ja jc qa qc b v e) (b' : Bool) (v' : Value) (e' : Int) :
    ChkW B (((W.setCell ⟨B + 1 + 1, 0, none⟩ (.bool b')).setCell ⟨B + 1 + 1 + 1, 0, none⟩ v').setCell ⟨B + 1 + 1 + 1 + 1, 0, none⟩ (.int .i64 e')) c d ia ic oa oc ja jc qa qc b' v' e' :=
  ⟨blk_set_ne (blk_set_ne (blk_set_ne h.kc (by omega)) (by omega)) (by omega), blk_set_ne (blk_set_ne (blk_set_ne h.kd (by omega)) (by omega)) (by omega),
   blk_set_ne (blk_set_ne (blk_set1 h.k4) (by omega)) (by omega), blk_set_ne (blk_set1 (blk_set_ne h.k5 (by omega))) (by omega), blk_set1 (blk_set_ne (blk_set_ne h.k6 (by omega)) (by omega))⟩
end
theorem chkW_new (w : World) (c d : Cd) (ia : Option Addr) (ic : Nat) (oa : Option Addr) (oc : Nat) (ja : Option Addr) (jc : Nat) (qa : Option Addr) (qc : Nat) :
    ChkW w.heap.size (((((w.alloc (.cells (cellsC c ia ic oa oc) 38)).alloc (.cells (cellsC d ja jc qa qc) 38)).alloc (.cells #[.bool false] 4)).alloc (.cells #[.slice none 0 0] 25)).alloc (.cells #[.int .i64 0] 39)) c d ia ic oa oc ja jc qa qc false (.slice none 0 0) 0 := by
  refine ⟨?_, ?_, ?_, ?_, ?_⟩
  · exact block_alloc (block_alloc (block_alloc (block_alloc (heap_alloc_new _ _) _) _) _) _
  · exact block_alloc (block_alloc (block_alloc (block_at1 _ _ _) _) _) _
  · exact block_alloc (block_alloc (block_at2 _ _ _ _) _) _
  · exact block_alloc (by have := heap_alloc_new (((w.alloc (.cells (cellsC c ia ic oa oc) 38)).alloc (.cells (cellsC d ja jc qa qc) 38)).alloc (.cells #[.bool false] 4)) (.cells #[.slice none 0 0] 25); simpa using this) _
  · have := heap_alloc_new ((((w.alloc (.cells (cellsC c ia ic oa oc) 38)).alloc (.cells (cellsC d ja jc qa qc) 38)).alloc (.cells #[.bool false] 4)).alloc (.cells #[.slice none 0 0] 25)) (.cells #[.int .i64 0] 39); simpa using this
theorem chkW_below (w : World) (o1 o2 o3 o4 o5 : Obj) : Below w.heap.size w (((((w.alloc o1).alloc o2).alloc o3).alloc o4).alloc o5) := below_alloc (below_alloc (below_alloc (below_alloc (below_alloc (Below.refl _ _) _) _) _) _) _
set_option maxRecDepth 100000 in
set_option maxHeartbeats 4000000 in
theorem refine_Check (S : Nat → Prop) (c d : Cd) (p q : CdAt) (w : World) (hK : IsaT w) (h : CdRd S w c p) (h' : CdRd S w d q) (ho : c.out.length ≤ 20) (ho' : d.out.length ≤ 20) (himm : ∀ x ∈ c.ins, 0 ≤ x.imm ∧ x.imm < 18446744073709551616) (himm' : ∀ x ∈ d.ins, 0 ≤ x.imm ∧ x.imm < 18446744073709551616) :
    Calls Tryd.prog 12 #[cdVal c p, cdVal d q] w fun e w' => ∃ a ca, e = .returned (.tuple #[.bool (chkB c d), .slice a (chkS c d).length ca, .int .i64 (stsErr c d)]) ∧ Rd (Kd.int .u64) (fun b => w.heap.size ≤ b) w' a ca (chkS c d) ∧ Below w.heap.size w w' := by
  refine (callsIn_wide (n := 3)).1 ?_
  have CC := Lib.hid (fun W (b : Below w.heap.size w W) => refine_States S c d p q W (hK.below b) (h.frame (Same.below b)) (h'.frame (Same.below b)))
  have CS := Lib.hid (fun W (b : Below w.heap.size w W) Sl l a ca (hr : Rd (Kd.int .u64) Sl W a ca l) (hl : ∀ x ∈ l, 0 ≤ x ∧ x < 18446744073709551616) => refine_shows S Sl c d p q l a ca W (hK.below b) (h.frame (Same.below b)) (h'.frame (Same.below b)) ho ho' himm himm' hr hl)
  obtain ⟨ia, ic, oa, oc⟩ := p
  obtain ⟨ja, jc, qa, qc⟩ := q
  clear h h' hK himm himm' ho ho'
  unfold cdVal
  refine callsIn_of_wp_marks Tryd.func12 rfl trivial ?_ rfl
  simp only [Tryd.ntmps12, List.size_toArray, List.length_cons, List.length_nil, Nat.reduceAdd, Nat.reduceSub, Array.replicate_succ, Array.replicate_zero, List.push_toArray, List.append_toArray, List.nil_append, List.cons_append]
  have K0 := Lib.hid (chkW_new w c d ia ic oa oc ja jc qa qc)
  have B0 := Lib.hid (chkW_below w (.cells (cellsC c ia ic oa oc) 38) (.cells (cellsC d ja jc qa qc) 38) (.cells #[.bool false] 4) (.cells #[.slice none 0 0] 25) (.cells #[.int .i64 0] 39))
  obtain ⟨z0, z1, z2, z3⟩ := cd_block4 K0.out.kc
  obtain ⟨y0, y1, y2, y3⟩ := cd_block4 K0.out.kd
  gi_wp2
  refine ⟨trivial, ?_⟩
  refine (callsIn_wide.2 (CC.out _ B0.out)).mono ?_
  rintro e W1 ⟨v, rfl, o1, b1⟩
  obtain ⟨a1, c1, rfl⟩ := o1.form
  have K1 := Lib.hid (K0.out.below b1)
  have B1 := Lib.hid (below_both B0.out b1)
  have O1 := Lib.hid o1
  clear o1 b1 z0 z1 z2 z3 y0 y1 y2 y3
  obtain ⟨k4, f4⟩ := blk_at K1.out.k4
  obtain ⟨k5, f5⟩ := blk_at K1.out.k5
  obtain ⟨k6, f6⟩ := blk_at K1.out.k6
  by_cases he : stsErr c d = 0
  case neg =>
    have t0 : (stsErr c d != 0) = true := by simpa using he
    have HE := Lib.hid he
    clear he
    gi_wp2
    have K2 := Lib.hid (K1.out.set false (.slice none 0 0) (stsErr c d))
    have B2 : Hid (Below w.heap.size w (((W1.setCell ⟨w.heap.size + 1 + 1, 0, none⟩ (.bool false)).setCell ⟨w.heap.size + 1 + 1 + 1, 0, none⟩ (.slice none 0 0)).setCell ⟨w.heap.size + 1 + 1 + 1 + 1, 0, none⟩ (.int .i64 (stsErr c d)))) := by
      show Below _ _ _
      exact ((B1.out.setCell (show w.heap.size ≤ w.heap.size + 1 + 1 by omega) _).setCell (show w.heap.size ≤ w.heap.size + 1 + 1 + 1 by omega) _).setCell (show w.heap.size ≤ w.heap.size + 1 + 1 + 1 + 1 by omega) _
    clear k4 f4 k5 f5 k6 f6
    generalize ((W1.setCell ⟨w.heap.size + 1 + 1, 0, none⟩ (.bool false)).setCell ⟨w.heap.size + 1 + 1 + 1, 0, none⟩ (.slice none 0 0)).setCell ⟨w.heap.size + 1 + 1 + 1 + 1, 0, none⟩ (.int .i64 (stsErr c d)) = W2 at *
    obtain ⟨k4, -⟩ := blk_at K2.out.k4
    obtain ⟨k5, -⟩ := blk_at K2.out.k5
    obtain ⟨k6, -⟩ := blk_at K2.out.k6
    have hS : chkS c d = [] := by unfold chkS chkK stsN; rw [if_neg HE.out]; rfl
    have hB : chkB c d = false := by unfold chkB; rw [decide_eq_false HE.out]; rfl
    simp only [bodyPostM, LeavesInM, LeavesIn]
    refine ⟨_, by simp [results, Tryd.f12, go_sem, k4, k5, k6]; rfl, none, 0, ?_, ?_, B2.out⟩
    · rw [hS, hB]; rfl
    · rw [hS]; exact Rd.nil _ _ _ _ _ (by decide)
  have t0 : (stsErr c d != 0) = false := by simpa using he
  have HE := Lib.hid he
  clear he k4 f4 k5 f5 k6 f6
  obtain ⟨z0, z1, z2, z3⟩ := cd_block4 K1.out.kc
  gi_wp2
  refine ⟨trivial, ?_⟩
  refine (callsIn_wide.2 (refine_states c ⟨ia, ic, oa, oc⟩ a1 (stsL c d).length c1 (stsN c d : Int) W1)).mono ?_
  rintro e W2 ⟨rfl, rfl⟩
  clear z0 z1 z2 z3
  have b3 : Below W1.heap.size W1 (((W1.alloc (.cells #[.slice a1 (stsL c d).length c1] 22)).alloc (.cells (cellsC c ia ic oa oc) 38)).alloc (.cells #[.int .i64 (stsN c d : Int)] 3)) := below_alloc (below_alloc (below_alloc (Below.refl _ _) _) _) _
  have hz : (((W1.alloc (.cells #[.slice a1 (stsL c d).length c1] 22)).alloc (.cells (cellsC c ia ic oa oc) 38)).alloc (.cells #[.int .i64 (stsN c d : Int)] 3)).heap.size = W1.heap.size + 3 := by simp
  have k0 : (((W1.alloc (.cells #[.slice a1 (stsL c d).length c1] 22)).alloc (.cells (cellsC c ia ic oa oc) 38)).alloc (.cells #[.int .i64 (stsN c d : Int)] 3)).heap[W1.heap.size]? = some (.cells #[.slice a1 (stsL c d).length c1] 22 (0, 0)) := block_alloc (block_alloc (heap_alloc_new _ _) _) _
  have k1 : (((W1.alloc (.cells #[.slice a1 (stsL c d).length c1] 22)).alloc (.cells (cellsC c ia ic oa oc) 38)).alloc (.cells #[.int .i64 (stsN c d : Int)] 3)).heap[W1.heap.size + 1]? = some (.cells (cellsC c ia ic oa oc) 38 (0, 0)) := block_alloc (block_at1 _ _ _) _
  have k2 : (((W1.alloc (.cells #[.slice a1 (stsL c d).length c1] 22)).alloc (.cells (cellsC c ia ic oa oc) 38)).alloc (.cells #[.int .i64 (stsN c d : Int)] 3)).heap[W1.heap.size + 1 + 1]? = some (.cells #[.int .i64 (stsN c d : Int)] 3 (0, 0)) := block_at2 _ _ _ _
  have HZ := Lib.hid hz
  have Z0 := Lib.hid k0
  have Z1 := Lib.hid k1
  have Z2 := Lib.hid k2
  have K2 := Lib.hid (K1.out.below b3)
  have B2 := Lib.hid (below_both B1.out b3)
  have R2 := Lib.hid (((Own.rd' O1.out).lt).frame (Same.below b3))
  have KLT := Lib.hid K1.out.lt
  clear hz k0 k1 k2 b3
  gi_wp2
  generalize ((W1.alloc (.cells #[.slice a1 (stsL c d).length c1] 22)).alloc (.cells (cellsC c ia ic oa oc) 38)).alloc (.cells #[.int .i64 (stsN c d : Int)] 3) = W2 at *
  generalize hzz : W1.heap.size = z at *
  refine rangeFunc_idx (gf := 28) (lb := #[.pointer (some ⟨z + 1 + 1, 0, none⟩), .pointer (some ⟨z, 0, none⟩), .pointer (some ⟨z + 1, 0, none⟩)]) rfl (enters_of Tryd.func28 (by kernel_rfl) rfl) rfl (stsN c d)
    (fun i W => (∀ j, j < i → chkBad c d j = false) ∧ Below w.heap.size w W ∧ ChkW w.heap.size W c d ia ic oa oc ja jc qa qc false (.slice none 0 0) 0 ∧
      (W.heap[z]? = some (.cells #[.slice a1 (stsL c d).length c1] 22 (0, 0)) ∧ W.heap[z + 1]? = some (.cells (cellsC c ia ic oa oc) 38 (0, 0)) ∧ W.heap[z + 1 + 1]? = some (.cells #[.int .i64 (stsN c d : Int)] 3 (0, 0))) ∧
      Rd (Kd.int .i64) (fun b => b < z) W a1 c1 (stsL c d))
    (fun i W => (∀ j, j < i → chkBad c d j = false) ∧ chkBad c d i = true ∧ Below w.heap.size w W ∧ ∃ g, W2.heap.size + 1 < g ∧ ChkW w.heap.size W c d ia ic oa oc ja jc qa qc false (.slice (some ⟨g, 0, none⟩) (numE c.regs) (numE c.regs)) 0 ∧ St8 W g (numE c.regs) (stateE (stsL c d) c.width c.regs (i : Int)))
    (fun i x W => ∃ g, x = .slice (some ⟨g, 0, none⟩) (numE c.regs) (numE c.regs) ∧ W2.heap.size + 1 < g ∧ St8 W g (numE c.regs) (stateE (stsL c d) c.width c.regs (i : Int)))
    ?a1 ?hI ?hIx ?hF ?iter ?start ?assign ?body ?done ?stop
  case assign =>
    intro l x W K hK
    gi_wp2
    exact hK
  case hI =>
    rintro i W W' ⟨hb, hbw, hk, ⟨q0, q1, q2⟩, hr⟩ ho
    have hz := HZ.out
    have hkl := KLT.out
    have hl0 := (Array.getElem?_eq_some_iff.1 q2).1
    have hw0 := hbw.size
    refine ⟨hb, ho.below hbw (Nat.le_refl _) (by omega) (by omega), hk.frame (fun k hk' => ho.block k (by omega) (by omega) (by omega)), ⟨(ho.block _ (by omega) (by omega) (by omega)).trans q0, (ho.block _ (by omega) (by omega) (by omega)).trans q1, (ho.block _ (by omega) (by omega) (by omega)).trans q2⟩, hr.frame ⟨ho.size, fun b hb' hlt => ho.block b hlt (by omega) (by omega)⟩⟩
  case hIx =>
    rintro i W W' ⟨hb, hbi, hbw, g, hg, hk, hs⟩ ho
    have hz := HZ.out
    have hkl := KLT.out
    have hl1 := hk.lt
    have hl2 := hs.lt
    exact ⟨hb, hbi, ho.below hbw (Nat.le_refl _) (by omega) (by omega), g, hg, hk.frame (fun k hk' => ho.block k (by omega) (by omega) (by omega)), hs.frame (ho.block g hl2 (by omega) (by omega))⟩
  case hF =>
    rintro i x W W' ⟨g, hx, hg, hs⟩ ho
    exact ⟨g, hx, hg, hs.frame (ho.block g hs.lt (by omega) (by omega))⟩
  case iter =>
    refine states1_in _ _ _ _ (fun b => b < z) (stsL c d) a1 c1 c ia ic oa oc (stsN c d) ?_ ?_ _ W2 ?_
    · exact stsN_le c d
    · have := stsL_len c d; omega
    · rintro i W ⟨hb, hbw, hk, ⟨q0, q1, q2⟩, hr⟩
      exact ⟨(blk_at q2).1, (blk_at q0).1, q1, hr⟩
  case start => exact ⟨fun j hj => by omega, B2.out, K2.out, ⟨Z0.out, Z1.out, Z2.out⟩, R2.out⟩
  case body =>
    rintro l i x W hi ⟨hb, hbw, hk, hq, hr⟩ ⟨g, rfl, hg, hs⟩
    obtain ⟨z0, z1, z2, z3⟩ := cd_block4 hk.kc
    obtain ⟨y0, y1, y2, y3⟩ := cd_block4 hk.kd
    have CW := CS.out W hbw (fun b => b = g) _ _ _ (hs.rd (fun b => b = g) rfl (by have := numE_le c.regs; omega)) (stL_lt (stateE_lt _ _ _ _))
    rw [stL_length] at CW
    gi_wp2
    refine ⟨trivial, ?_⟩
    refine (CallsIn.inRound l (callsIn_wide.2 CW)).mono ?_
    rintro e W3 ⟨rfl, b3⟩
    clear z0 z1 z2 z3 y0 y1 y2 y3 CW
    have hk3 := hk.below b3
    have hbw3 := below_both hbw b3
    have hs3 := hs.below b3
    have ko : KeepsOthers W W3 := ⟨b3.size, fun k o hk _ => block_below b3 hk⟩
    by_cases hx : chkBad c d i = true
    · have t1 : showsB c d (stL (numE c.regs) (stateE (stsL c d) c.width c.regs (i : Int))) = true := hx
      rw [t1]
      obtain ⟨k4, f4⟩ := blk_at hk3.k4
      obtain ⟨k5, f5⟩ := blk_at hk3.k5
      obtain ⟨k6, f6⟩ := blk_at hk3.k6
      gi_wp2
      refine ⟨((ko.trans (KeepsOthers.setCell _ _ _)).trans (KeepsOthers.setCell _ _ _)).trans (KeepsOthers.setCell _ _ _), hb, hx, ?_, g, hg, hk3.set false (.slice (some ⟨g, 0, none⟩) (numE c.regs) (numE c.regs)) 0, ?_⟩
      · exact ((hbw3.setCell (show w.heap.size ≤ w.heap.size + 1 + 1 by omega) _).setCell (show w.heap.size ≤ w.heap.size + 1 + 1 + 1 by omega) _).setCell (show w.heap.size ≤ w.heap.size + 1 + 1 + 1 + 1 by omega) _
      · have hz := HZ.out
        have hkl := KLT.out
        exact hs3.frame (((Below.heap_setCell _ _ _ g (show g ≠ w.heap.size + 1 + 1 + 1 + 1 by omega)).trans (Below.heap_setCell _ _ _ g (show g ≠ w.heap.size + 1 + 1 + 1 by omega))).trans (Below.heap_setCell _ _ _ g (show g ≠ w.heap.size + 1 + 1 by omega)))
    · have hx' : chkBad c d i = false := by simpa using hx
      have t1 : showsB c d (stL (numE c.regs) (stateE (stsL c d) c.width c.regs (i : Int))) = false := hx'
      rw [t1]
      gi_wp2
      refine ⟨ko, fun j hj => ?_, hbw3, hk3, ⟨block_below b3 hq.1, block_below b3 hq.2.1, block_below b3 hq.2.2⟩, hr.frame (Same.below b3)⟩
      rcases Nat.lt_or_ge j i with h' | h'
      · exact hb j h'
      · rw [show j = i by omega]; exact hx'
  case done =>
    rintro W ⟨hb, hbw, hk, hq, hr⟩ hK
    obtain ⟨k4, f4⟩ := blk_at hk.k4
    obtain ⟨k5, f5⟩ := blk_at hk.k5
    obtain ⟨k6, f6⟩ := blk_at hk.k6
    gi_wp2
    have hk2 := hk.set true (.slice none 0 0) 0
    have hbw2 : Below w.heap.size w (((W.setCell ⟨w.heap.size + 1 + 1, 0, none⟩ (.bool true)).setCell ⟨w.heap.size + 1 + 1 + 1, 0, none⟩ (.slice none 0 0)).setCell ⟨w.heap.size + 1 + 1 + 1 + 1, 0, none⟩ (.int .i64 0)) :=
      ((hbw.setCell (show w.heap.size ≤ w.heap.size + 1 + 1 by omega) _).setCell (show w.heap.size ≤ w.heap.size + 1 + 1 + 1 by omega) _).setCell (show w.heap.size ≤ w.heap.size + 1 + 1 + 1 + 1 by omega) _
    have hK2 := (((KeepsOthers.setCell W ⟨w.heap.size + 1 + 1, 0, none⟩ (.bool true)).trans (KeepsOthers.setCell _ ⟨w.heap.size + 1 + 1 + 1, 0, none⟩ (.slice none 0 0))).trans (KeepsOthers.setCell _ ⟨w.heap.size + 1 + 1 + 1 + 1, 0, none⟩ (.int .i64 0))).same _ _ hK rfl
    clear k4 f4 k5 f5 k6 f6
    generalize ((W.setCell ⟨w.heap.size + 1 + 1, 0, none⟩ (.bool true)).setCell ⟨w.heap.size + 1 + 1 + 1, 0, none⟩ (.slice none 0 0)).setCell ⟨w.heap.size + 1 + 1 + 1 + 1, 0, none⟩ (.int .i64 0) = V at *
    have hz := HZ.out
    have hkl := KLT.out
    have hk3 := hk2.frame (W' := V.putObj W2.heap.size (.deferred none)) (fun k hk => World.putObj_heap_other (by omega))
    have hbw3 : Below w.heap.size w (V.putObj W2.heap.size (.deferred none)) := ⟨hbw2.os, hbw2.tape, hbw2.output, by rw [World.putObj_size]; exact hbw2.size, fun k hk => (World.putObj_heap_other (by omega)).trans (hbw2.block k hk)⟩
    have hS : chkS c d = [] := by unfold chkS; rw [chkK_none hb]
    have hB : chkB c d = true := by unfold chkB; rw [decide_eq_true HE.out, chkK_none hb]; rfl
    refine ⟨by simp, .inl ⟨_, _, rfl, run_takeDeferred hK2, ?_⟩⟩
    obtain ⟨k4, -⟩ := blk_at hk3.k4
    obtain ⟨k5, -⟩ := blk_at hk3.k5
    obtain ⟨k6, -⟩ := blk_at hk3.k6
    generalize V.putObj W2.heap.size (.deferred none) = V3 at *
    simp only [LeavesInM, LeavesIn]
    refine ⟨_, by simp [results, Tryd.f12, go_sem, k4, k5, k6]; rfl, none, 0, ?_, ?_, hbw3⟩
    · rw [hS, hB, HE.out]; rfl
    · rw [hS]; exact Rd.nil _ _ _ _ _ (by decide)
  case stop =>
    rintro i W hi ⟨hb, hbi, hbw, g, hg, hk, hs⟩ hK
    gi_wp2
    have hz := HZ.out
    have hkl := KLT.out
    have hk3 := hk.frame (W' := W.putObj W2.heap.size (.deferred none)) (fun k hk => World.putObj_heap_other (by omega))
    have hs3 := hs.frame (w' := W.putObj W2.heap.size (.deferred none)) (World.putObj_heap_other (by omega))
    have hbw3 : Below w.heap.size w (W.putObj W2.heap.size (.deferred none)) := ⟨hbw.os, hbw.tape, hbw.output, by rw [World.putObj_size]; exact hbw.size, fun k hk => (World.putObj_heap_other (by omega)).trans (hbw.block k hk)⟩
    have hKs := chkK_some hi hb hbi
    have hS : chkS c d = chkSt c d i := by unfold chkS; rw [hKs]
    have hB : chkB c d = false := by unfold chkB; rw [hKs]; simp
    refine ⟨by simp, .inl ⟨_, _, rfl, run_takeDeferred hK, ?_⟩⟩
    obtain ⟨k4, -⟩ := blk_at hk3.k4
    obtain ⟨k5, -⟩ := blk_at hk3.k5
    obtain ⟨k6, -⟩ := blk_at hk3.k6
    generalize W.putObj W2.heap.size (.deferred none) = V3 at *
    simp only [LeavesInM, LeavesIn]
    have hl : (chkSt c d i).length = numE c.regs := stL_length _ _
    refine ⟨_, by simp [results, Tryd.f12, go_sem, k4, k5, k6]; rfl, some ⟨g, 0, none⟩, numE c.regs, ?_, ?_, hbw3⟩
    · rw [hS, hB, hl, HE.out]
    · rw [hS]; exact hs3.rd _ (by omega) (by have := numE_le c.regs; omega)
end Go.Proofs.Sat
