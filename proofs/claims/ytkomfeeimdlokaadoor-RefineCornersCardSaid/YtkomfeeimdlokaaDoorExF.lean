/- ExA, ExB, ExC, ExD, ExE, ExF, one after the other. -/
import Derived.Test.YtkomfeeimdlokaaDoorRaN
import Derived.Test.YtkomfeeimdlokaaDoorBiW
import Derived.Test.YtkomfeeimdlokaaDoorLvT
import Derived.Test.YtkomfeeimdlokaaDoorIsaK
import Derived.BigQuiet
import Derived.Test.YtkomfeeimdlokaaDoorLvB
import Derived.StillTailTactics
import Derived.Defers
import Derived.Recover
set_option linter.unusedVariables false
set_option linter.unusedSimpArgs false
/- States as rows of numbers; the walk of exec.words. -/
namespace Go.Proofs.Sat
open Go Go.RowKit
/-- A state's cells. -/
def cellsR (n : Nat) (s : Nat → Nat) : Array Value := ((List.range n).map fun i => Value.int .u64 (s i : Int)).toArray
theorem cellsR_size (n : Nat) (s : Nat → Nat) : (cellsR n s).size = n := by simp [cellsR]
theorem cellsR_get (n : Nat) (s : Nat → Nat) {i : Nat} (h : i < n) : (cellsR n s)[i]? = some (.int .u64 (s i : Int)) := by simp [cellsR, h]
theorem cellsR_set (n : Nat) (s : Nat → Nat) {i : Nat} (h : i < n) (v : Nat) : (cellsR n s).setIfInBounds i (.int .u64 (v : Int)) = cellsR n (updN s i v) := by
  apply Array.ext_getElem?
  intro j
  by_cases hj : j < n
  · rw [cellsR_get n _ hj, Array.getElem?_setIfInBounds]
    unfold updN
    by_cases e : i = j
    · subst e
      rw [if_pos rfl, if_pos (by rw [cellsR_size]; exact h)]
      simp
    · rw [if_neg e, cellsR_get n s hj, if_neg (Ne.symm e)]
  · rw [Array.getElem?_eq_none (by rw [Array.size_setIfInBounds, cellsR_size]; omega), Array.getElem?_eq_none (by rw [cellsR_size]; omega)]
theorem cellsR_congr {n : Nat} {s t : Nat → Nat} (h : ∀ i, i < n → s i = t i) : cellsR n s = cellsR n t := by
  apply Array.ext_getElem?
  intro j
  by_cases hj : j < n
  · rw [cellsR_get n s hj, cellsR_get n t hj, h j hj]
  · rw [Array.getElem?_eq_none (by rw [cellsR_size]; omega), Array.getElem?_eq_none (by rw [cellsR_size]; omega)]
/-- A block that is a state. -/
def St8 (w : World) (g n : Nat) (s : Nat → Nat) : Prop := w.heap[g]? = some (.cells (cellsR n s) 28 (0, 0))
theorem St8.lt {w : World} {g n : Nat} {s : Nat → Nat} (h : St8 w g n s) : g < w.heap.size := (Array.getElem?_eq_some_iff.1 h).1
theorem St8.at {w : World} {g n : Nat} {s : Nat → Nat} (h : St8 w g n s) {i : Nat} (hi : i < n) : w.cell? ⟨g, i, none⟩ = some (.int .u64 (s i : Int)) ∧ w.frozen? ⟨g, i, none⟩ = false ∧ ∀ v : Nat, St8 (w.setCell ⟨g, i, none⟩ (.int .u64 (v : Int))) g n (updN s i v) := by
  have hg : w.heap[g]? = some (.cells (cellsR n s) 28 (0, 0)) := h
  refine ⟨?_, frozen_of_block hg, fun v => ?_⟩
  · rw [cell_of_row _ _ i _ _ _ hg, cellsR_get n s hi]
  · unfold St8
    rw [← cellsR_set n s hi v]
    simp [World.setCell, Array.getElem?_modify, hg]
theorem St8.frame {w w' : World} {g n : Nat} {s : Nat → Nat} (h : St8 w g n s) (hb : w'.heap[g]? = w.heap[g]?) : St8 w' g n s := by unfold St8; rw [hb]; exact h
theorem St8.drawn {w w' : World} {g n : Nat} {s : Nat → Nat} (h : St8 w g n s) (hd : Drawn w w') : St8 w' g n s := hd.heap h
theorem St8.below {w w' : World} {g n : Nat} {s : Nat → Nat} (h : St8 w g n s) (hb : Below w.heap.size w w') : St8 w' g n s := h.frame (hb.block g h.lt)
theorem St8.congr {w : World} {g n : Nat} {s t : Nat → Nat} (h : St8 w g n s) (e : ∀ i, i < n → s i = t i) : St8 w g n t := by unfold St8; rw [← cellsR_congr e]; exact h
theorem infoU64 : ElemInfo Tryd.prog 25 28 (.int .u64 0) 1 8 := ⟨Tryd.underlying25, by kernel_rfl, rfl, by decide⟩
theorem run_mkR (w : World) (kl kc : IntKind) (L C : Int) (n : Nat) (hL : L = n) (hC : C = n) (hn : n ≤ 1000000) :
    ∃ v' w', (Instr.makeSlice 25 (.int kl L) (.int kc C)).run Tryd.prog w = .ok v' w' ∧ St8 w' w.heap.size n (fun _ => 0) ∧ w.grownBy w' none ∧ v' = .slice (some ⟨w.heap.size, 0, none⟩) n n := by
  subst hL hC
  obtain ⟨i, hi, h2, h3, h4⟩ := info_parts infoU64.hi
  obtain ⟨w', hr, ho, hg⟩ := run_make_full (P := Tryd.prog) w w.heap.size 25 28 i _ 1 infoU64.ht hi h2 h3 kl kc n (by rw [h4]; omega) (by simp [maxLen]; omega) (Nat.le_refl _)
  refine ⟨_, w', hr, ?_, hg, rfl⟩
  rcases ho.2 with ⟨h, _⟩ | ⟨g, cap, cur, hv, hb', hg', q1, q2, q3, q4⟩
  · cases h
  · cases hv
    have hcur : cur = cellsR n (fun _ => 0) := by
     apply Array.ext_getElem?
     intro j
     have e : (madeCells (Value.int .u64 0).cells (n * 1)).toList = List.replicate n (Value.int .u64 0) := by rw [Nat.mul_one]; exact madeCells_one _ n
     by_cases hj : j < n
     · have e1 : (cur.toList.take (n * 1))[j]? = cur[j]? := by rw [List.getElem?_take_of_lt (by omega), Array.getElem?_toList]
       rw [← e1, q4, e, cellsR_get n _ hj, List.getElem?_replicate, if_pos hj]
       rfl
     · rw [Array.getElem?_eq_none (by rw [q3]; omega), Array.getElem?_eq_none (by rw [cellsR_size]; omega)]
    unfold St8
    rw [hg', hcur]
/-- Values cut to a width; zeros behind. -/
def cutL (n : Nat) (l : List Int) : Nat → Nat := fun i => (l.getD i 0).toNat % 2 ^ n
def cutP (n : Nat) (l : List Int) (k : Nat) : Nat → Nat := fun i => if i < k then cutL n l i else 0
theorem cutP_succ (n : Nat) (l : List Int) (k : Nat) : cutP n l (k + 1) = updN (cutP n l k) k (cutL n l k) := by
  funext j
  unfold cutP updN
  show (if j < k + 1 then _ else _) = (if j = k then _ else if j < k then _ else _)
  by_cases h : j = k
  · subst h; simp
  · by_cases h2 : j < k
    · rw [if_pos (by omega), if_neg h, if_pos h2]
    · rw [if_neg (by omega), if_neg h, if_neg h2]
theorem cutL_lt (n : Nat) (l : List Int) (i : Nat) : cutL n l i < 2 ^ n := Nat.mod_lt _ (Nat.two_pow_pos n)
set_option maxRecDepth 20000 in
set_option maxHeartbeats 1000000 in
theorem exec_words (S : Nat → Prop) (W n : Nat) (l : List Int) (a : Option Addr) (c : Nat) (w : World) (h : Rd (Kd.int .u64) S w a c l) (hl : ∀ x ∈ l, 0 ≤ x ∧ x < 18446744073709551616) (h1 : 1 ≤ W) (h2 : W ≤ 64) (hn : n ≤ 8) :
    Calls Tryd.prog 51 #[.int .i64 (W : Int), .int .i64 (n : Int), .slice a l.length c] w fun e w' => ∃ g, e = .returned (.slice (some ⟨g, 0, none⟩) n n) ∧ w.heap.size ≤ g ∧ St8 w' g n (cutL W l) ∧ Below w.heap.size w w' := by
  have HR := Lib.hid h
  have HL := Lib.hid hl
  have hll := h.le
  clear h hl
  obtain ⟨m, hm⟩ : ∃ m, m = min n l.length := ⟨_, rfl⟩
  have hmin : min (n : Int) (l.length : Int) = (m : Int) := by omega
  have HM := Lib.hid hm
  have hmn : m ≤ n := by omega
  have hml : m ≤ l.length := by omega
  clear hm
  go_enter Tryd.func51, Tryd.ntmps51
  go_wp2_with (first
    | ((with_reducible refine gate_m 25 (.tmp 9) (.tmp 9) rfl ?_); refine wpList_make_ev _ rfl (.tmp 9) (.tmp 9) 25 rfl _ _ rfl rfl _ (run_mkR _ _ _ _ _ n rfl rfl (by omega)) ?_; rintro v' w1 ⟨hG, hg, rfl⟩; have G1 := Lib.hid hG; have B1 := Lib.hid ((Below.refl w.heap.size w).grown hg (Nat.le_refl _) (fun k hk => by cases hk)); clear hG hg)
    | fail)
  go_loopw [15] (fun i wr => ∃ k : Nat, k ≤ m ∧ i = .int .i64 k ∧ Hid (St8 wr w.heap.size n (cutP W l k)) ∧ Hid (Below w.heap.size w wr)) (fun i _ => m - (intOf i).toNat)
  case atStart => exact ⟨0, by omega, rfl, G1.out.congr (fun i _ => by unfold cutP; rw [if_neg (by omega)]), B1.out⟩
  case round =>
    obtain ⟨k, hk, rfl, G2, B2⟩ := hrel
    by_cases hlt : k < m
    · have hkl : (k : Int) < (m : Int) := by omega
      have hk2 : k < l.length := by omega
      obtain ⟨b, o, rfl, -, -, hc⟩ := (HR.out.frame (Same.below B2.out)).vals (by omega) 0
      have d5 := hc k hk2
      rw [getD_at _ hk2] at d5
      have hx := HL.out _ (List.getElem_mem hk2)
      have HE : Hid (cutP W l (k + 1) = updN (cutP W l k) k (l[k].toNat % 2 ^ W)) := by show _ = _; rw [cutP_succ]; unfold cutL; rw [getD_at _ hk2]
      clear hc
      generalize l[k] = x at *
      obtain ⟨hx0, hx1⟩ := hx
      obtain ⟨X, rfl⟩ := Int.eq_ofNat_of_zero_le hx0
      rw [Int.toNat_natCast] at HE
      have CC := Lib.hid (fun W' => bits_Cut W X W' h1 h2 (by omega))
      generalize X % 2 ^ W = Y at *
      have hkn : (k : Int) < (n : Int) := by omega
      have hkn' : k < n := by omega
      have hkl2 : (k : Int) < (l.length : Int) := by omega
      clear hx1
      go_wp2_with fail
      refine (CC.out _).mono ?_
      rintro e w3 ⟨rfl, d3⟩
      have G3 := Lib.hid (G2.out.drawn d3)
      have B3 := Lib.hid (below_both B2.out (d3.below _))
      obtain ⟨s1, s2, s3⟩ := G3.out.at hkn'
      have US := Lib.hid s3
      clear d3 s3
      go_wp2_with fail
      go_roundw
      case rel => exact ⟨k + 1, by omega, by go_num, by rw [HE.out]; exact US.out Y, B3.out.setCell (Nat.le_refl _) _⟩
      case measure => simp [intOf]; omega
    · have hnl : ¬ ((k : Int) < (m : Int)) := by omega
      have hkm : k = m := by omega
      have G3 := Lib.hid (G2.out.congr (t := cutL W l) (fun i hi => by
        have hmm := HM.out
        unfold cutP
        by_cases e : i < k
        · rw [if_pos e]
        · rw [if_neg e]
          unfold cutL
          rw [List.getD_eq_getElem?_getD, List.getElem?_eq_none (by omega)]
          simp))
      clear hkm hlt hk
      go_wp2_with fail
      go_ret
      exact ⟨w.heap.size, rfl, Nat.le_refl _, G3.out, B2.out⟩
end Go.Proofs.Sat
/- The walks of exec.truth, of exec.value and of its closure. -/
namespace Go.Proofs.Sat
open Go Go.RowKit
theorem exec_truth (b : Bool) (w : World) : Calls Tryd.prog 75 #[.bool b] w fun e w' => e = .returned (.int .u64 ((if b = true then 1 else 0 : Nat) : Int)) ∧ Drawn w w' := by
  go_enter Tryd.func75, Tryd.ntmps75
  cases b
  · go_wp2_with fail
    go_ret
    exact ⟨rfl, Drawn.refl _⟩
  · go_wp2_with fail
    go_ret
    exact ⟨rfl, Drawn.refl _⟩
theorem exec_get (b g R r : Nat) (s : Nat → Nat) (w : World) (hc : w.cell? ⟨b, 0, none⟩ = some (.slice (some ⟨g, 0, none⟩) R R)) (hs : St8 w g R s) (hr : r < R) : Calls Tryd.prog 66 #[.int .i64 (r : Int), .pointer (some ⟨b, 0, none⟩)] w fun e w' => e = .returned (.int .u64 (s r : Int)) ∧ Drawn w w' := by
  have hrr : (r : Int) < (R : Int) := by omega
  obtain ⟨s1, -, -⟩ := hs.at hr
  clear hs
  go_enter Tryd.func66, Tryd.ntmps66
  go_wp2_with fail
  go_ret
  exact ⟨rfl, Drawn.refl _⟩
/-- What an instruction computes. -/
def valE (n : Nat) (s : Nat → Nat) (x : In) : Nat := if x.op = 1 then x.imm.toNat % 2 ^ n else if x.op = 19 then (if s x.a.toNat ≠ 0 then s x.b.toNat else s x.c.toNat) else valN x.op n (s x.a.toNat) (s x.b.toNat)
/-- Does it trap? -/
def trapE (s : Nat → Nat) (x : In) : Prop := (x.op = 11 ∨ x.op = 12) ∧ s x.b.toNat = 0
theorem valE_eq (n : Nat) (s : Nat → Nat) (op d a b c i : Int) : valE n s ⟨op, d, a, b, c, i⟩ = if op = 1 then i.toNat % 2 ^ n else if op = 19 then (if s a.toNat ≠ 0 then s b.toNat else s c.toNat) else valN op n (s a.toNat) (s b.toNat) := rfl
theorem ins_block {w : World} {g : Nat} {t : TypeId} {fr : Nat × Nat} {v0 v1 v2 v3 v4 v5 : Value} (h : w.heap[g]? = some (.cells #[v0, v1, v2, v3, v4, v5] t fr)) : w.cell? ⟨g, 0, none⟩ = some v0 ∧ w.cell? ⟨g, 1, none⟩ = some v1 ∧ w.cell? ⟨g, 2, none⟩ = some v2 ∧ w.cell? ⟨g, 3, none⟩ = some v3 ∧ w.cell? ⟨g, 4, none⟩ = some v4 ∧ w.cell? ⟨g, 5, none⟩ = some v5 :=
  ⟨by rw [cell_of_row _ _ 0 _ _ _ h]; rfl, by rw [cell_of_row _ _ 1 _ _ _ h]; rfl, by rw [cell_of_row _ _ 2 _ _ _ h]; rfl, by rw [cell_of_row _ _ 3 _ _ _ h]; rfl, by rw [cell_of_row _ _ 4 _ _ _ h]; rfl, by rw [cell_of_row _ _ 5 _ _ _ h]; rfl⟩
set_option maxRecDepth 20000 in
set_option maxHeartbeats 8000000 in
theorem exec_value (n R op D A B C I g : Nat) (s : Nat → Nat) (w : World) (hs : St8 w g R s) (h1 : 1 ≤ n) (h2 : n ≤ 64) (hA : A < R) (hB : B < R) (hC : C < R) (hI : I < 18446744073709551616) (hv : ∀ i, i < R → s i < 2 ^ n) (ho : 1 ≤ op ∧ op ≤ 19) :
    Calls Tryd.prog 62 #[.int .i64 (n : Int), .agg #[.int .i64 (op : Int), .int .i64 (D : Int), .int .i64 (A : Int), .int .i64 (B : Int), .int .i64 (C : Int), .int .u64 (I : Int)], .slice (some ⟨g, 0, none⟩) R R] w fun e w' => ((trapE s ⟨op, D, A, B, C, I⟩ ∧ e = .panicked [{ v := .iface 106 (.agg #[]), recovered := false }]) ∨ (¬ trapE s ⟨op, D, A, B, C, I⟩ ∧ e = .returned (.int .u64 (valE n s ⟨op, D, A, B, C, I⟩ : Int)))) ∧ Below w.heap.size w w' := by
  have hmf : ∀ (fn : Fn) (first cap : Array Value) (w : World), (Instr.makeFunc fn first cap).run Tryd.prog w = .ok (.func fn first cap) w := fun _ _ _ _ => rfl
  have BW := Lib.hid (below_alloc (below_alloc (Below.refl w.heap.size w) (.cells #[.int .i64 (op : Int), .int .i64 (D : Int), .int .i64 (A : Int), .int .i64 (B : Int), .int .i64 (C : Int), .int .u64 (I : Int)] 35)) (.cells #[.slice (some ⟨g, 0, none⟩) R R] 25))
  have KX := Lib.hid (block_alloc (heap_alloc_new w (.cells #[.int .i64 (op : Int), .int .i64 (D : Int), .int .i64 (A : Int), .int .i64 (B : Int), .int .i64 (C : Int), .int .u64 (I : Int)] 35)) (.cells #[.slice (some ⟨g, 0, none⟩) R R] 25))
  have KS := Lib.hid (block_at1 w (.cells #[.int .i64 (op : Int), .int .i64 (D : Int), .int .i64 (A : Int), .int .i64 (B : Int), .int .i64 (C : Int), .int .u64 (I : Int)] 35) (.cells #[.slice (some ⟨g, 0, none⟩) R R] 25))
  have HS0 := Lib.hid hs
  have LA := Lib.hid (hv A hA)
  have LB := Lib.hid (hv B hB)
  have h64 := Lib.hid (pow_le64 h2)
  have HI := Lib.hid hI
  have HT : Hid (trapE s ⟨op, D, A, B, C, I⟩ ↔ ((op = 11 ∨ op = 12) ∧ s B = 0)) := by
    show _ ↔ _
    unfold trapE
    show (((op : Int) = 11 ∨ (op : Int) = 12) ∧ s (B : Int).toNat = 0) ↔ _
    rw [Int.toNat_natCast]
    constructor
    · rintro ⟨h, h'⟩; exact ⟨by omega, h'⟩
    · rintro ⟨h, h'⟩; exact ⟨by omega, h'⟩
  have HVE := Lib.hid (valE_eq n s op D A B C I)
  clear hI hv
  go_enter Tryd.func62, Tryd.ntmps62
  go_upto_region 2 with fail
  generalize hW : ((w.alloc (.cells #[.int .i64 (op : Int), .int .i64 (D : Int), .int .i64 (A : Int), .int .i64 (B : Int), .int .i64 (C : Int), .int .u64 (I : Int)] 35)).alloc (.cells #[.slice (some ⟨g, 0, none⟩) R R] 25)) = W at *
  have HS := Lib.hid (show St8 W g R s from by rw [← hW]; exact (HS0.out.below (below_alloc (below_alloc (Below.refl _ _) _) _)))
  clear hW hs HS0
  obtain ⟨x0, x1, x2, x3, x4, x5⟩ := ins_block KX.out
  have sb : W.cell? ⟨w.heap.size + 1, 0, none⟩ = some (.slice (some ⟨g, 0, none⟩) R R) := by rw [cell_of_row _ _ 0 _ _ _ KS.out]; rfl
  have SB := Lib.hid sb
  have CG := Lib.hid (fun (W' : World) (d : Drawn W W') (r : Nat) (hr : r < R) => exec_get (w.heap.size + 1) g R r s W' (d.cell SB.out) (HS.out.drawn d) hr)
  have CGQ : Hid (∀ (r : Nat) (hr : r < R) (m : Nat), Calls Tryd.prog 66 #[.int .i64 (r : Int), .pointer (some ⟨w.heap.size + 1, 0, none⟩)] (W.drewN m) fun e w' => e = .returned (.int .u64 (s r : Int)) ∧ Drawn (W.drewN m) w') := fun r hr m => CG.out _ (Drawn.of W m) r hr
  go_quiet ((go_at_call 66; exact Calls.quiet_of (CGQ.out _ (by assumption) _)))
  have DD : Drawn W (W.drewN nq) := ⟨nq, rfl⟩
  have y0 := DD.cell x0
  have y4 := DD.cell x4
  have y5 := DD.cell x5
  have BV := Lib.hid (below_both BW.out (DD.below _))
  have CG2 := Lib.hid (fun r hr => CG.out _ DD r hr)
  clear x0 x1 x2 x3 x4 x5 sb SB CGQ CG KX KS DD BW
  generalize W.drewN nq = V at *
  clear HS
  have HVK : Hid (∀ k : Nat, op = k → k ≠ 1 → k ≠ 19 → valE n s ⟨op, D, A, B, C, I⟩ = valN (k : Int) n (s A) (s B)) := by
    intro k hk k1 k2
    subst hk
    rw [HVE.out, if_neg (by omega), if_neg (by omega), Int.toNat_natCast, Int.toNat_natCast]
  have HNT : Hid (¬ (op = 11 ∨ op = 12) → ¬ trapE s ⟨op, D, A, B, C, I⟩) := fun h ht => h (HT.out.1 ht).1
  have LA64 : Hid (s A < 18446744073709551616) := Nat.lt_of_lt_of_le LA.out h64.out
  have LB64 : Hid (s B < 18446744073709551616) := Nat.lt_of_lt_of_le LB.out h64.out
  by_cases e1 : op = 1
  · have HV : Hid (valE n s ⟨op, D, A, B, C, I⟩ = I % 2 ^ n) := by show _ = _; rw [HVE.out, if_pos (by omega), Int.toNat_natCast]
    have HN := Lib.hid (HNT.out (by omega))
    subst e1
    clear HVK HVE HT
    have CC := Lib.hid (bits_Cut n I V h1 h2 HI.out)
    generalize I % 2 ^ n = r at *
    generalize s A = va at *
    generalize s B = vb at *
    go_wp2_with fail
    refine CC.out.mono ?_
    rintro e w3 ⟨rfl, d3⟩
    have B3 := Lib.hid (below_both BV.out (d3.below _))
    clear d3 CC
    go_wp2_with fail
    go_ret
    exact ⟨.inr ⟨HN.out, ret_int (by rw [HV.out])⟩, B3.out⟩
  have t1 : ((op : Int) == 1) = false := by rw [beq_eq_false_iff_ne]; omega
  by_cases e2 : op = 2
  · have HV : Hid (valE n s ⟨op, D, A, B, C, I⟩ = s A) := by show _ = _; rw [HVK.out 2 e2 (by omega) (by omega)]; rfl
    have HN := Lib.hid (HNT.out (by omega))
    subst e2
    clear HVK HVE HT
    generalize s A = va at *
    generalize s B = vb at *
    go_wp2_with fail
    go_ret
    exact ⟨.inr ⟨HN.out, ret_int (by rw [HV.out])⟩, BV.out⟩
  have t2 : ((op : Int) == 2) = false := by rw [beq_eq_false_iff_ne]; omega
  by_cases e3 : op = 3
  · have HV : Hid (valE n s ⟨op, D, A, B, C, I⟩ = notN n (s A)) := by show _ = _; rw [HVK.out 3 e3 (by omega) (by omega)]; rfl
    have HN := Lib.hid (HNT.out (by omega))
    subst e3
    clear HVK HVE HT
    have CC := Lib.hid (bits_Not n (s A) V h1 h2 LA64.out)
    generalize notN n (s A) = r at *
    generalize s A = va at *
    generalize s B = vb at *
    go_wp2_with fail
    refine CC.out.mono ?_
    rintro e w3 ⟨rfl, d3⟩
    have B3 := Lib.hid (below_both BV.out (d3.below _))
    clear d3 CC
    go_wp2_with fail
    go_ret
    exact ⟨.inr ⟨HN.out, ret_int (by rw [HV.out])⟩, B3.out⟩
  have t3 : ((op : Int) == 3) = false := by rw [beq_eq_false_iff_ne]; omega
  by_cases e4 : op = 4
  · have HV : Hid (valE n s ⟨op, D, A, B, C, I⟩ = negN n (s A)) := by show _ = _; rw [HVK.out 4 e4 (by omega) (by omega)]; rfl
    have HN := Lib.hid (HNT.out (by omega))
    subst e4
    clear HVK HVE HT
    have CC := Lib.hid (bits_Neg n (s A) V h1 h2 LA64.out)
    generalize negN n (s A) = r at *
    generalize s A = va at *
    generalize s B = vb at *
    go_wp2_with fail
    refine CC.out.mono ?_
    rintro e w3 ⟨rfl, d3⟩
    have B3 := Lib.hid (below_both BV.out (d3.below _))
    clear d3 CC
    go_wp2_with fail
    go_ret
    exact ⟨.inr ⟨HN.out, ret_int (by rw [HV.out])⟩, B3.out⟩
  have t4 : ((op : Int) == 4) = false := by rw [beq_eq_false_iff_ne]; omega
  by_cases e5 : op = 5
  · have HV : Hid (valE n s ⟨op, D, A, B, C, I⟩ = andN n (s A) (s B)) := by show _ = _; rw [HVK.out 5 e5 (by omega) (by omega)]; rfl
    have HN := Lib.hid (HNT.out (by omega))
    subst e5
    clear HVK HVE HT
    have HB := Lib.hid (and_nat LA64.out LB64.out)
    rw [and_word (s B) LA.out] at HB
    generalize andN n (s A) (s B) = r at *
    generalize s A = va at *
    generalize s B = vb at *
    go_wp2_with fail
    go_ret
    exact ⟨.inr ⟨HN.out, ret_int (by rw [HV.out]; exact HB.out)⟩, BV.out⟩
  have t5 : ((op : Int) == 5) = false := by rw [beq_eq_false_iff_ne]; omega
  by_cases e6 : op = 6
  · have HV : Hid (valE n s ⟨op, D, A, B, C, I⟩ = orN n (s A) (s B)) := by show _ = _; rw [HVK.out 6 e6 (by omega) (by omega)]; rfl
    have HN := Lib.hid (HNT.out (by omega))
    subst e6
    clear HVK HVE HT
    have HB := Lib.hid (or_nat LA64.out LB64.out)
    rw [or_word LA.out LB.out] at HB
    generalize orN n (s A) (s B) = r at *
    generalize s A = va at *
    generalize s B = vb at *
    go_wp2_with fail
    go_ret
    exact ⟨.inr ⟨HN.out, ret_int (by rw [HV.out]; exact HB.out)⟩, BV.out⟩
  have t6 : ((op : Int) == 6) = false := by rw [beq_eq_false_iff_ne]; omega
  by_cases e7 : op = 7
  · have HV : Hid (valE n s ⟨op, D, A, B, C, I⟩ = xorN n (s A) (s B)) := by show _ = _; rw [HVK.out 7 e7 (by omega) (by omega)]; rfl
    have HN := Lib.hid (HNT.out (by omega))
    subst e7
    clear HVK HVE HT
    have HB := Lib.hid (xor_nat LA64.out LB64.out)
    rw [xor_word LA.out LB.out] at HB
    generalize xorN n (s A) (s B) = r at *
    generalize s A = va at *
    generalize s B = vb at *
    go_wp2_with fail
    go_ret
    exact ⟨.inr ⟨HN.out, ret_int (by rw [HV.out]; exact HB.out)⟩, BV.out⟩
  have t7 : ((op : Int) == 7) = false := by rw [beq_eq_false_iff_ne]; omega
  by_cases e8 : op = 8
  · have HV : Hid (valE n s ⟨op, D, A, B, C, I⟩ = addN n (s A) (s B)) := by show _ = _; rw [HVK.out 8 e8 (by omega) (by omega)]; rfl
    have HN := Lib.hid (HNT.out (by omega))
    subst e8
    clear HVK HVE HT
    have CC := Lib.hid (bits_Add n (s A) (s B) V h1 h2)
    generalize addN n (s A) (s B) = r at *
    generalize s A = va at *
    generalize s B = vb at *
    go_wp2_with fail
    refine CC.out.mono ?_
    rintro e w3 ⟨rfl, d3⟩
    have B3 := Lib.hid (below_both BV.out (d3.below _))
    clear d3 CC
    go_wp2_with fail
    go_ret
    exact ⟨.inr ⟨HN.out, ret_int (by rw [HV.out])⟩, B3.out⟩
  have t8 : ((op : Int) == 8) = false := by rw [beq_eq_false_iff_ne]; omega
  by_cases e9 : op = 9
  · have HV : Hid (valE n s ⟨op, D, A, B, C, I⟩ = subN n (s A) (s B)) := by show _ = _; rw [HVK.out 9 e9 (by omega) (by omega)]; rfl
    have HN := Lib.hid (HNT.out (by omega))
    subst e9
    clear HVK HVE HT
    have CC := Lib.hid (bits_Sub n (s A) (s B) V h1 h2 LB64.out)
    generalize subN n (s A) (s B) = r at *
    generalize s A = va at *
    generalize s B = vb at *
    go_wp2_with fail
    refine CC.out.mono ?_
    rintro e w3 ⟨rfl, d3⟩
    have B3 := Lib.hid (below_both BV.out (d3.below _))
    clear d3 CC
    go_wp2_with fail
    go_ret
    exact ⟨.inr ⟨HN.out, ret_int (by rw [HV.out])⟩, B3.out⟩
  have t9 : ((op : Int) == 9) = false := by rw [beq_eq_false_iff_ne]; omega
  by_cases e10 : op = 10
  · have HV : Hid (valE n s ⟨op, D, A, B, C, I⟩ = mulN n (s A) (s B)) := by show _ = _; rw [HVK.out 10 e10 (by omega) (by omega)]; rfl
    have HN := Lib.hid (HNT.out (by omega))
    subst e10
    clear HVK HVE HT
    have CC := Lib.hid (bits_Mul n (s A) (s B) V h1 h2)
    generalize mulN n (s A) (s B) = r at *
    generalize s A = va at *
    generalize s B = vb at *
    go_wp2_with fail
    refine CC.out.mono ?_
    rintro e w3 ⟨rfl, d3⟩
    have B3 := Lib.hid (below_both BV.out (d3.below _))
    clear d3 CC
    go_wp2_with fail
    go_ret
    exact ⟨.inr ⟨HN.out, ret_int (by rw [HV.out])⟩, B3.out⟩
  have t10 : ((op : Int) == 10) = false := by rw [beq_eq_false_iff_ne]; omega
  by_cases e11 : op = 11
  · have HV : Hid (valE n s ⟨op, D, A, B, C, I⟩ = udivN n (s A) (s B)) := by show _ = _; rw [HVK.out 11 e11 (by omega) (by omega)]; rfl
    subst e11
    clear HVK HVE
    by_cases hz : s B = 0
    · have HTT : Hid (trapE s ⟨((11 : Nat) : Int), D, A, B, C, I⟩) := HT.out.2 ⟨by omega, hz⟩
      generalize s A = va at *
      generalize s B = vb at *
      have tz : ((vb : Int) == 0) = true := by simpa using hz
      clear hz
      go_wp2_with fail
      exact ⟨rfl, .inl ⟨HTT.out, rfl⟩, BV.out⟩
    · have HTN : Hid (¬ trapE s ⟨((11 : Nat) : Int), D, A, B, C, I⟩) := fun ht => hz (HT.out.1 ht).2
      have HD := Lib.hid (div_word LA.out LB.out hz)
      have HQ : Hid (s A / s B < 18446744073709551616) := Nat.lt_of_le_of_lt (Nat.div_le_self _ _) LA64.out
      generalize udivN n (s A) (s B) = r at *
      generalize s A = va at *
      generalize s B = vb at *
      have tz : ((vb : Int) == 0) = false := by simpa using hz
      have hvb : ¬ (vb : Int) = 0 := by omega
      clear hz
      go_wp2_with fail
      go_ret
      refine ⟨.inr ⟨HTN.out, ret_int ?_⟩, BV.out⟩
      show _ = ((valE n s ⟨((11 : Nat) : Int), D, A, B, C, I⟩ : Nat) : Int)
      rw [HV.out, ← HD.out, ← Int.natCast_ediv, wrap_nat, Nat.mod_eq_of_lt HQ.out]
  have t11 : ((op : Int) == 11) = false := by rw [beq_eq_false_iff_ne]; omega
  by_cases e12 : op = 12
  · have HV : Hid (valE n s ⟨op, D, A, B, C, I⟩ = uremN n (s A) (s B)) := by show _ = _; rw [HVK.out 12 e12 (by omega) (by omega)]; rfl
    subst e12
    clear HVK HVE
    by_cases hz : s B = 0
    · have HTT : Hid (trapE s ⟨((12 : Nat) : Int), D, A, B, C, I⟩) := HT.out.2 ⟨by omega, hz⟩
      generalize s A = va at *
      generalize s B = vb at *
      have tz : ((vb : Int) == 0) = true := by simpa using hz
      clear hz
      go_wp2_with fail
      exact ⟨rfl, .inl ⟨HTT.out, rfl⟩, BV.out⟩
    · have HTN : Hid (¬ trapE s ⟨((12 : Nat) : Int), D, A, B, C, I⟩) := fun ht => hz (HT.out.1 ht).2
      have HD := Lib.hid (rem_word LA.out LB.out hz)
      have HQ : Hid (s A / s B < 18446744073709551616) := Nat.lt_of_le_of_lt (Nat.div_le_self _ _) LA64.out
      generalize uremN n (s A) (s B) = r at *
      generalize s A = va at *
      generalize s B = vb at *
      have tz : ((vb : Int) == 0) = false := by simpa using hz
      have hvb : ¬ (vb : Int) = 0 := by omega
      clear hz
      go_wp2_with fail
      go_ret
      refine ⟨.inr ⟨HTN.out, ret_int ?_⟩, BV.out⟩
      show _ = ((valE n s ⟨((12 : Nat) : Int), D, A, B, C, I⟩ : Nat) : Int)
      rw [HV.out, ← HD.out, Int.natCast_emod]
  have t12 : ((op : Int) == 12) = false := by rw [beq_eq_false_iff_ne]; omega
  by_cases e13 : op = 13
  · have HV : Hid (valE n s ⟨op, D, A, B, C, I⟩ = shlN n (s A) (s B)) := by show _ = _; rw [HVK.out 13 e13 (by omega) (by omega)]; rfl
    have HN := Lib.hid (HNT.out (by omega))
    subst e13
    clear HVK HVE HT
    have CC := Lib.hid (bits_Shl n (s A) (s B) V h1 h2 LA64.out LB64.out)
    generalize shlN n (s A) (s B) = r at *
    generalize s A = va at *
    generalize s B = vb at *
    go_wp2_with fail
    refine CC.out.mono ?_
    rintro e w3 ⟨rfl, d3⟩
    have B3 := Lib.hid (below_both BV.out (d3.below _))
    clear d3 CC
    go_wp2_with fail
    go_ret
    exact ⟨.inr ⟨HN.out, ret_int (by rw [HV.out])⟩, B3.out⟩
  have t13 : ((op : Int) == 13) = false := by rw [beq_eq_false_iff_ne]; omega
  by_cases e14 : op = 14
  · have HV : Hid (valE n s ⟨op, D, A, B, C, I⟩ = lshrN n (s A) (s B)) := by show _ = _; rw [HVK.out 14 e14 (by omega) (by omega)]; rfl
    have HN := Lib.hid (HNT.out (by omega))
    subst e14
    clear HVK HVE HT
    have CC := Lib.hid (bits_Lshr n (s A) (s B) V h1 h2 LA64.out LB64.out)
    generalize lshrN n (s A) (s B) = r at *
    generalize s A = va at *
    generalize s B = vb at *
    go_wp2_with fail
    refine CC.out.mono ?_
    rintro e w3 ⟨rfl, d3⟩
    have B3 := Lib.hid (below_both BV.out (d3.below _))
    clear d3 CC
    go_wp2_with fail
    go_ret
    exact ⟨.inr ⟨HN.out, ret_int (by rw [HV.out])⟩, B3.out⟩
  have t14 : ((op : Int) == 14) = false := by rw [beq_eq_false_iff_ne]; omega
  by_cases e15 : op = 15
  · have HV : Hid (valE n s ⟨op, D, A, B, C, I⟩ = ashrN n (s A) (s B)) := by show _ = _; rw [HVK.out 15 e15 (by omega) (by omega)]; rfl
    have HN := Lib.hid (HNT.out (by omega))
    subst e15
    clear HVK HVE HT
    have CC := Lib.hid (bits_Ashr n (s A) (s B) V h1 h2 LA64.out LB64.out)
    generalize ashrN n (s A) (s B) = r at *
    generalize s A = va at *
    generalize s B = vb at *
    go_wp2_with fail
    refine CC.out.mono ?_
    rintro e w3 ⟨rfl, d3⟩
    have B3 := Lib.hid (below_both BV.out (d3.below _))
    clear d3 CC
    go_wp2_with fail
    go_ret
    exact ⟨.inr ⟨HN.out, ret_int (by rw [HV.out])⟩, B3.out⟩
  have t15 : ((op : Int) == 15) = false := by rw [beq_eq_false_iff_ne]; omega
  by_cases e16 : op = 16
  · have HV : Hid (valE n s ⟨op, D, A, B, C, I⟩ = eqN n (s A) (s B)) := by show _ = _; rw [HVK.out 16 e16 (by omega) (by omega)]; rfl
    have HN := Lib.hid (HNT.out (by omega))
    subst e16
    clear HVK HVE HT
    have HE := Lib.hid (eq_word LA.out LB.out)
    generalize eqN n (s A) (s B) = r at *
    generalize s A = va at *
    generalize s B = vb at *
    by_cases hh : va = vb
    · rw [if_pos hh] at HE
      have CT := Lib.hid (exec_truth true V)
      have tq : ((va : Int) == (vb : Int)) = true := by rw [beq_iff_eq]; omega
      clear hh
      go_wp2_with fail
      refine CT.out.mono ?_
      rintro e w3 ⟨rfl, d3⟩
      have B3 := Lib.hid (below_both BV.out (d3.below _))
      clear d3 CT
      go_wp2_with fail
      go_ret
      exact ⟨.inr ⟨HN.out, ret_int (by rw [HV.out, ← HE.out]; rfl)⟩, B3.out⟩
    · rw [if_neg hh] at HE
      have CT := Lib.hid (exec_truth false V)
      have tq : ((va : Int) == (vb : Int)) = false := by rw [beq_eq_false_iff_ne]; omega
      clear hh
      go_wp2_with fail
      refine CT.out.mono ?_
      rintro e w3 ⟨rfl, d3⟩
      have B3 := Lib.hid (below_both BV.out (d3.below _))
      clear d3 CT
      go_wp2_with fail
      go_ret
      exact ⟨.inr ⟨HN.out, ret_int (by rw [HV.out, ← HE.out]; rfl)⟩, B3.out⟩
  have t16 : ((op : Int) == 16) = false := by rw [beq_eq_false_iff_ne]; omega
  by_cases e17 : op = 17
  · have HV : Hid (valE n s ⟨op, D, A, B, C, I⟩ = ultN n (s A) (s B)) := by show _ = _; rw [HVK.out 17 e17 (by omega) (by omega)]; rfl
    have HN := Lib.hid (HNT.out (by omega))
    subst e17
    clear HVK HVE HT
    have HE := Lib.hid (ult_word LA.out LB.out)
    generalize ultN n (s A) (s B) = r at *
    generalize s A = va at *
    generalize s B = vb at *
    by_cases hh : va < vb
    · rw [if_pos hh] at HE
      have CT := Lib.hid (exec_truth true V)
      have tq : decide (va < vb) = true := decide_eq_true hh
      clear hh
      go_wp2_with fail
      refine CT.out.mono ?_
      rintro e w3 ⟨rfl, d3⟩
      have B3 := Lib.hid (below_both BV.out (d3.below _))
      clear d3 CT
      go_wp2_with fail
      go_ret
      exact ⟨.inr ⟨HN.out, ret_int (by rw [HV.out, ← HE.out]; rfl)⟩, B3.out⟩
    · rw [if_neg hh] at HE
      have CT := Lib.hid (exec_truth false V)
      have tq : decide (va < vb) = false := decide_eq_false hh
      clear hh
      go_wp2_with fail
      refine CT.out.mono ?_
      rintro e w3 ⟨rfl, d3⟩
      have B3 := Lib.hid (below_both BV.out (d3.below _))
      clear d3 CT
      go_wp2_with fail
      go_ret
      exact ⟨.inr ⟨HN.out, ret_int (by rw [HV.out, ← HE.out]; rfl)⟩, B3.out⟩
  have t17 : ((op : Int) == 17) = false := by rw [beq_eq_false_iff_ne]; omega
  by_cases e18 : op = 18
  · have HV : Hid (valE n s ⟨op, D, A, B, C, I⟩ = sltN n (s A) (s B)) := by show _ = _; rw [HVK.out 18 e18 (by omega) (by omega)]; rfl
    have HN := Lib.hid (HNT.out (by omega))
    subst e18
    clear HVK HVE HT
    have CC := Lib.hid (bits_Slt n (s A) (s B) V h1 h2 LA64.out LB64.out)
    generalize sltN n (s A) (s B) = r at *
    generalize s A = va at *
    generalize s B = vb at *
    go_wp2_with fail
    refine CC.out.mono ?_
    rintro e w3 ⟨rfl, d3⟩
    have B3 := Lib.hid (below_both BV.out (d3.below _))
    clear d3 CC
    go_wp2_with fail
    go_ret
    exact ⟨.inr ⟨HN.out, ret_int (by rw [HV.out])⟩, B3.out⟩
  have t18 : ((op : Int) == 18) = false := by rw [beq_eq_false_iff_ne]; omega
  obtain rfl : op = 19 := by omega
  have HN := Lib.hid (HNT.out (by omega))
  have HV : Hid (valE n s ⟨((19 : Nat) : Int), D, A, B, C, I⟩ = if s A ≠ 0 then s B else s C) := by show _ = _; rw [HVE.out, if_neg (by omega), if_pos (by omega), Int.toNat_natCast, Int.toNat_natCast, Int.toNat_natCast]
  clear HVK HVE HT
  have CC := Lib.hid (CG2.out C hC)
  by_cases hz : s A = 0
  · have HV2 : Hid (valE n s ⟨((19 : Nat) : Int), D, A, B, C, I⟩ = s C) := by show _ = _; rw [HV.out, if_neg (by rw [hz]; simp)]
    clear HV CG2
    generalize s A = va at *
    generalize s B = vb at *
    generalize s C = vc at *
    have tz : ((va : Int) != 0) = false := by simpa using hz
    clear hz
    go_wp2_with fail
    refine CC.out.mono ?_
    rintro e w3 ⟨rfl, d3⟩
    have B3 := Lib.hid (below_both BV.out (d3.below _))
    clear d3 CC
    go_wp2_with fail
    go_ret
    exact ⟨.inr ⟨HN.out, ret_int (by rw [HV2.out])⟩, B3.out⟩
  · have HV2 : Hid (valE n s ⟨((19 : Nat) : Int), D, A, B, C, I⟩ = s B) := by show _ = _; rw [HV.out, if_pos hz]
    clear HV CG2
    generalize s A = va at *
    generalize s B = vb at *
    have tz : ((va : Int) != 0) = true := by simpa using hz
    clear hz
    go_wp2_with fail
    go_ret
    exact ⟨.inr ⟨HN.out, ret_int (by rw [HV2.out])⟩, BV.out⟩
end Go.Proofs.Sat
/- The walk of exec.step, in place in a state's block. -/
namespace Go.Proofs.Sat
open Go Go.RowKit
/-- Nothing but block g has changed, and new blocks. -/
def But (g : Nat) (w w' : World) : Prop := Below g w w' ∧ Same (fun b => b ≠ g) w w'
theorem But.refl (g : Nat) (w : World) : But g w w := ⟨Below.refl _ _, Same.refl _ _⟩
theorem But.trans {g : Nat} {w w1 w2 : World} (h : But g w w1) (k : But g w1 w2) : But g w w2 := ⟨h.1.trans k.1, h.2.trans k.2⟩
theorem But.of_below {g : Nat} {w w' : World} (h : Below w.heap.size w w') (hg : g ≤ w.heap.size) : But g w w' := ⟨⟨h.os, h.tape, h.output, h.size, fun i hi => h.block i (by omega)⟩, Same.below h⟩
theorem But.drawn {g : Nat} {w w' : World} (h : Drawn w w') : But g w w' := ⟨h.below _, Same.drawn _ h⟩
theorem But.set {g i : Nat} {w w' : World} (h : But g w w') (v : Value) : But g w (w'.setCell ⟨g, i, none⟩ v) :=
  ⟨h.1.setCell (Nat.le_refl _) _, h.2.trans (Same.setCell _ _ (fun b hb => hb))⟩
theorem But.size {g : Nat} {w w' : World} (h : But g w w') : w.heap.size ≤ w'.heap.size := h.2.1
theorem But.block {g b : Nat} {ob : Obj} {w w' : World} (h : But g w w') (hb : w.heap[b]? = some ob) (hne : b ≠ g) : w'.heap[b]? = some ob := (h.2.2 b hne (Array.getElem?_eq_some_iff.1 hb).1).trans hb
theorem But.below {B g : Nat} {w w' : World} (h : But g w w') (hB : B ≤ g) : Below B w w' := ⟨h.1.os, h.1.tape, h.1.output, h.1.size, fun i hi => h.1.block i (by omega)⟩
/-- One instruction: none if it traps. -/
noncomputable def stepE (n : Nat) (s : Nat → Nat) (x : In) : Option (Nat → Nat) := by
  classical exact if x.op = 0 then some s else if trapE s x then none else some (updN s x.dst.toNat (valE n s x))
theorem stepE_nop {n : Nat} {s : Nat → Nat} {x : In} (h : x.op = 0) : stepE n s x = some s := by unfold stepE; rw [if_pos h]
theorem stepE_trap {n : Nat} {s : Nat → Nat} {x : In} (h : x.op ≠ 0) (ht : trapE s x) : stepE n s x = none := by unfold stepE; rw [if_neg h, if_pos ht]
theorem stepE_some {n : Nat} {s : Nat → Nat} {x : In} (h : x.op ≠ 0) (ht : ¬ trapE s x) : stepE n s x = some (updN s x.dst.toNat (valE n s x)) := by unfold stepE; rw [if_neg h, if_neg ht]
theorem valE_lt (n : Nat) (s : Nat → Nat) (x : In) {R : Nat} (h1 : 1 ≤ n) (h2 : n ≤ 64) (hA : x.a.toNat < R) (hB : x.b.toNat < R) (hC : x.c.toNat < R) (hv : ∀ i, i < R → s i < 2 ^ n) : valE n s x < 18446744073709551616 := by
  have h64 := pow_le64 h2
  unfold valE
  split
  · exact mod_u64 _ h2
  · split
    · split
      · exact Nat.lt_of_lt_of_le (hv _ hB) h64
      · exact Nat.lt_of_lt_of_le (hv _ hC) h64
    · exact valN_lt _ _ _ _ h1 h2 (Nat.lt_of_lt_of_le (hv _ hA) h64)
/-- How a step ends: a panic of the trap's type, or the new state in the same block. -/
def StepP (g R : Nat) (o : Option (Nat → Nat)) (e : Ending) (w' : World) : Prop := match o with
  | none => e = .panicked [{ v := .iface 106 (.agg #[]), recovered := false }]
  | some s' => e = .returned (.tuple #[]) ∧ St8 w' g R s'
set_option maxRecDepth 20000 in
set_option maxHeartbeats 2000000 in
theorem exec_step (n R op D A B C I g : Nat) (s : Nat → Nat) (w : World) (hs : St8 w g R s) (h1 : 1 ≤ n) (h2 : n ≤ 64) (hD : D < R) (hA : A < R) (hB : B < R) (hC : C < R) (hI : I < 18446744073709551616) (hv : ∀ i, i < R → s i < 2 ^ n) (ho : op ≤ 19) :
    Calls Tryd.prog 54 #[.int .i64 (n : Int), .agg #[.int .i64 (op : Int), .int .i64 (D : Int), .int .i64 (A : Int), .int .i64 (B : Int), .int .i64 (C : Int), .int .u64 (I : Int)], .slice (some ⟨g, 0, none⟩) R R] w fun e w' => StepP g R (stepE n s ⟨op, D, A, B, C, I⟩) e w' ∧ But g w w' := by
  have BW := Lib.hid (below_alloc (Below.refl w.heap.size w) (.cells #[.int .i64 (op : Int), .int .i64 (D : Int), .int .i64 (A : Int), .int .i64 (B : Int), .int .i64 (C : Int), .int .u64 (I : Int)] 35))
  have KX := Lib.hid (heap_alloc_new w (.cells #[.int .i64 (op : Int), .int .i64 (D : Int), .int .i64 (A : Int), .int .i64 (B : Int), .int .i64 (C : Int), .int .u64 (I : Int)] 35))
  have HG := Lib.hid hs.lt
  have HS := Lib.hid (hs.below BW.out)
  have CD := Lib.hid (isa_Def ⟨op, D, A, B, C, I⟩ (w.alloc (.cells #[.int .i64 (op : Int), .int .i64 (D : Int), .int .i64 (A : Int), .int .i64 (B : Int), .int .i64 (C : Int), .int .u64 (I : Int)] 35)))
  have HV := Lib.hid hv
  have HI := Lib.hid hI
  clear hs hv hI
  go_enter Tryd.func54, Tryd.ntmps54
  obtain ⟨x0, x1, x2, x3, x4, x5⟩ := ins_block KX.out
  by_cases e0 : op = 0
  · have HE := Lib.hid (stepE_nop (n := n) (s := s) (x := ⟨op, D, A, B, C, I⟩) (by show (op : Int) = 0; omega))
    have hdf : defsI ⟨op, D, A, B, C, I⟩ = false := decide_eq_false (by show ¬ (1 ≤ (op : Int) ∧ (op : Int) ≤ 19); omega)
    rw [hdf] at CD
    simp only [Bool.false_eq_true, if_false] at CD
    clear e0 hdf
    go_wp2_with fail
    refine CD.out.mono ?_
    rintro e w3 ⟨rfl, b3⟩
    have B3 := Lib.hid (below_both BW.out b3)
    have G3 := Lib.hid (HS.out.below b3)
    clear b3 CD x0 x1 x2 x3 x4 x5
    go_wp2_with fail
    go_end0
    exact ⟨by rw [HE.out]; exact ⟨rfl, G3.out⟩, But.of_below B3.out (by have := HG.out; omega)⟩
  have HDF : Hid (defsI ⟨op, D, A, B, C, I⟩ = true) := decide_eq_true (by show 1 ≤ (op : Int) ∧ (op : Int) ≤ 19; omega)
  rw [HDF.out] at CD
  simp only [if_true] at CD
  have CV := Lib.hid (fun (W : World) (hW : St8 W g R s) => exec_value n R op D A B C I g s W hW h1 h2 hA hB hC HI.out HV.out (by omega))
  have HTR : Hid (trapE s ⟨op, D, A, B, C, I⟩ → stepE n s ⟨op, D, A, B, C, I⟩ = none) := fun ht => stepE_trap (by show (op : Int) ≠ 0; omega) ht
  have HSM : Hid (¬ trapE s ⟨op, D, A, B, C, I⟩ → stepE n s ⟨op, D, A, B, C, I⟩ = some (updN s D (valE n s ⟨op, D, A, B, C, I⟩))) := fun ht => by
    have := stepE_some (n := n) (x := ⟨op, D, A, B, C, I⟩) (by show (op : Int) ≠ 0; omega) ht
    rw [this]
    rfl
  generalize valE n s ⟨op, D, A, B, C, I⟩ = vv at *
  have hDR : (D : Int) < (R : Int) := by omega
  clear e0
  go_wp2_with fail
  refine CD.out.mono ?_
  rintro e w3 ⟨rfl, b3⟩
  have B3 := Lib.hid (below_both BW.out b3)
  have G3 := Lib.hid (HS.out.below b3)
  have KX3 := Lib.hid (block_below b3 KX.out)
  clear b3 CD x0 x1 x2 x3 x4 x5
  obtain ⟨x0, x1, x2, x3, x4, x5⟩ := ins_block KX3.out
  go_wp2_with fail
  refine (CV.out w3 G3.out).mono ?_
  rintro e w4 ⟨hor, b4⟩
  have B4 := Lib.hid (below_both B3.out b4)
  have G4 := Lib.hid (G3.out.below b4)
  clear b4 x0 x1 x2 x3 x4 x5
  rcases hor with ⟨ht, rfl⟩ | ⟨ht, rfl⟩
  · have HE := Lib.hid (HTR.out ht)
    clear ht
    go_wp2_with fail
    exact ⟨rfl, by rw [HE.out]; rfl, But.of_below B4.out (by have := HG.out; omega)⟩
  · have HE := Lib.hid (HSM.out ht)
    clear ht
    obtain ⟨s1, s2, s3⟩ := G4.out.at hD
    have US := Lib.hid s3
    clear s3
    go_wp2_with fail
    go_end0
    exact ⟨by rw [HE.out]; exact ⟨rfl, US.out vv⟩, (But.of_below B4.out (by have := HG.out; omega)).set _⟩
end Go.Proofs.Sat
/- The walk of exec.Run's closure: a program is run in a state's block. -/
namespace Go.Proofs.Sat
open Go Go.RowKit
theorem ins_imm {width regs : Int} {x : In} (h : insErr width regs x = 0) (h1 : x.op = 1) : x.imm ≤ maskI width := by
  unfold insErr at h
  split at h
  · exact absurd h (by decide)
  split at h
  · exact absurd h (by decide)
  split at h
  · exact absurd h (by decide)
  split at h
  · exact absurd h (by decide)
  rename_i hm
  exact Int.not_lt.1 fun hlt => hm ⟨h1, hlt⟩
theorem ins_dst {width regs : Int} {x : In} (h : insErr width regs x = 0) (h1 : x.op = 0) : x.dst = 0 := by
  unfold insErr at h
  split at h
  · exact absurd h (by decide)
  split at h
  · exact absurd h (by decide)
  split at h
  · exact absurd h (by decide)
  split at h
  · exact absurd h (by decide)
  split at h
  · exact absurd h (by decide)
  rename_i hz
  by_cases h0 : x.dst = 0
  · exact h0
  · exact absurd (Or.inr (Or.inl ⟨h1, h0⟩)) hz
theorem stepE_stepN {n : Nat} {s : Nat → Nat} {x : In} {regs : Int} (hx : insErr (n : Int) regs x = 0) (hi : 0 ≤ x.imm) : stepE n s x = stepN n s x := by
  unfold stepN
  by_cases e0 : x.op = 0
  · rw [if_pos e0, stepE_nop e0]
  rw [if_neg e0]
  by_cases e1 : x.op = 1
  · have ht : ¬ trapE s x := fun ⟨h, _⟩ => by omega
    have hm := ins_imm hx e1
    rw [mask_int] at hm
    have hp := Nat.two_pow_pos n
    rw [if_pos e1, stepE_some e0 ht]
    unfold valE
    rw [if_pos e1, Nat.mod_eq_of_lt (by omega)]
  rw [if_neg e1]
  by_cases e2 : (x.op = 11 ∨ x.op = 12) ∧ s x.b.toNat = 0
  · rw [if_pos e2, stepE_trap e0 e2]
  rw [if_neg e2, stepE_some e0 e2]
  unfold valE
  rw [if_neg e1]
  by_cases e3 : x.op = 19
  · rw [if_pos e3, if_pos e3]
  · rw [if_neg e3, if_neg e3]
theorem valN_lt2 (op : Int) (n a b : Nat) (h1 : 1 ≤ n) (ha : a < 2 ^ n) : valN op n a b < 2 ^ n := by
  have hp0 := Nat.two_pow_pos n
  have h2 : 2 ≤ 2 ^ n := by
    have := Nat.pow_le_pow_right (show 0 < 2 by omega) h1
    simpa using this
  have hm := Nat.mod_lt a hp0
  have hsh : ∀ (d : Int) (fl : Nat), fl ≤ 1 → shiftN n a d fl < 2 ^ n := fun d fl hf => shSum_lt hf n
  have hb1 : bitN a (n - 1) ≤ 1 := by unfold bitN; omega
  have it : ∀ (p : Prop) [Decidable p] (x y : Nat), x < 2 ^ n → y < 2 ^ n → (if p then x else y) < 2 ^ n := fun p _ x y hx hy => by by_cases h : p <;> simp [h, hx, hy]
  have hno : ∀ a, notN n a < 2 ^ n := fun a => by unfold notN; omega
  have k10 : udivN n a b < 2 ^ n := by unfold udivN; have := Nat.div_le_self (a % 2 ^ n) (b % 2 ^ n); exact it _ _ _ (by omega) (by omega)
  have k11 : uremN n a b < 2 ^ n := by unfold uremN; have := Nat.mod_le (a % 2 ^ n) (b % 2 ^ n); exact it _ _ _ (by omega) (by omega)
  have k7 : xorN n a b < 2 ^ n := by unfold xorN; have : orN n a b < 2 ^ n := hno _; omega
  have k16 : eqN n a b < 2 ^ n := it _ _ _ (by omega) (by omega)
  have k17 : ultN n a b < 2 ^ n := it _ _ _ (by omega) (by omega)
  have k18 : sltN n a b < 2 ^ n := it _ _ _ (by omega) (by omega)
  exact it _ _ _ ha (it _ _ _ (hno _) (it _ _ _ (Nat.mod_lt _ hp0) (it _ _ _ (Nat.mod_lt _ hp0) (it _ _ _ (hno _) (it _ _ _ k7 (it _ _ _ (Nat.mod_lt _ hp0) (it _ _ _ (Nat.mod_lt _ hp0) (it _ _ _ (Nat.mod_lt _ hp0) (it _ _ _ k10 (it _ _ _ k11 (it _ _ _ (hsh _ _ (by omega)) (it _ _ _ (hsh _ _ (by omega)) (it _ _ _ (hsh _ _ hb1) (it _ _ _ k16 (it _ _ _ k17 k18)))))))))))))))
/-- The states stay within the width. -/
theorem stepE_lt {n R : Nat} {s s' : Nat → Nat} {x : In} (h1 : 1 ≤ n) (h2 : n ≤ 64) (hA : x.a.toNat < R) (hB : x.b.toNat < R) (hC : x.c.toNat < R) (hv : ∀ i, i < R → s i < 2 ^ n) (h : stepE n s x = some s') : ∀ i, i < R → s' i < 2 ^ n := by
  by_cases e0 : x.op = 0
  · rw [stepE_nop e0] at h
    obtain rfl := Option.some.inj h
    exact hv
  by_cases ht : trapE s x
  · rw [stepE_trap e0 ht] at h; cases h
  rw [stepE_some e0 ht] at h
  obtain rfl := Option.some.inj h
  have hp := Nat.two_pow_pos n
  have hV : valE n s x < 2 ^ n := by
    unfold valE
    split
    · exact Nat.mod_lt _ hp
    · split
      · split
        · exact hv _ hB
        · exact hv _ hC
      · exact valN_lt2 _ _ _ _ h1 (hv _ hA)
  intro i hi
  unfold updN
  by_cases e : i = x.dst.toNat
  · rw [if_pos e]; exact hV
  · rw [if_neg e]; exact hv i hi
/-- Nothing but the blocks g and a has changed, and new blocks. -/
def But2 (g a : Nat) (w w' : World) : Prop := Below (min g a) w w' ∧ Same (fun b => b ≠ g ∧ b ≠ a) w w'
theorem But2.refl (g a : Nat) (w : World) : But2 g a w w := ⟨Below.refl _ _, Same.refl _ _⟩
theorem But2.trans {g a : Nat} {w w1 w2 : World} (h : But2 g a w w1) (k : But2 g a w1 w2) : But2 g a w w2 := ⟨h.1.trans k.1, h.2.trans k.2⟩
theorem But2.of_but {g a : Nat} {w w' : World} (h : But g w w') : But2 g a w w' := ⟨h.below (Nat.min_le_left _ _), ⟨h.size, fun b hb hl => h.2.2 b hb.1 hl⟩⟩
theorem But2.drawn {g a : Nat} {w w' : World} (h : Drawn w w') : But2 g a w w' := ⟨h.below _, Same.drawn _ h⟩
theorem But2.set {g a i : Nat} {w w' : World} (h : But2 g a w w') (v : Value) : But2 g a w (w'.setCell ⟨a, i, none⟩ v) :=
  ⟨h.1.setCell (Nat.min_le_right _ _) _, h.2.trans (Same.setCell _ _ (fun b hb => hb.2))⟩
theorem But2.block {g a b : Nat} {ob : Obj} {w w' : World} (h : But2 g a w w') (hb : w.heap[b]? = some ob) (h1 : b ≠ g) (h2 : b ≠ a) : w'.heap[b]? = some ob := (h.2.2 b ⟨h1, h2⟩ (Array.getElem?_eq_some_iff.1 hb).1).trans hb
theorem But2.below {B g a : Nat} {w w' : World} (h : But2 g a w w') (h1 : B ≤ g) (h2 : B ≤ a) : Below B w w' := ⟨h.1.os, h.1.tape, h.1.output, h.1.size, fun i hi => h.1.block i (by have := Nat.le_min.2 ⟨h1, h2⟩; omega)⟩
/-- How the closure ends. -/
def RunP (g R : Nat) (o : (Nat → Nat) × Bool) (e : Ending) (w' : World) : Prop := (o.2 = true ∧ e = .returned (.tuple #[]) ∧ St8 w' g R o.1) ∨ (o.2 = false ∧ e = .panicked [{ v := .iface 106 (.agg #[]), recovered := false }])
set_option maxRecDepth 20000 in
set_option maxHeartbeats 4000000 in
theorem exec_Run1 (S : Nat → Prop) (c : Cd) (ia : Option Addr) (ic : Nat) (oa : Option Addr) (oc : Nat) (n R g pa pc ps : Nat) (s : Nat → Nat) (w : World) (hok : CdOK c) (hn : c.width = (n : Int)) (hR : c.regs = (R : Int)) (himm : ∀ x ∈ c.ins, 0 ≤ x.imm ∧ x.imm < 18446744073709551616)
    (hI : Rd kIn S w ia ic c.ins) (hSg : ∀ b, S b → b ≠ g ∧ b ≠ pa) (hs : St8 w g R s) (hv : ∀ i, i < R → s i < 2 ^ n) (ka : w.heap[pa]? = some (.cells #[.int .i64 0] 3 (0, 0))) (kc : w.heap[pc]? = some (.cells (cellsC c ia ic oa oc) 38 (0, 0))) (ks : w.heap[ps]? = some (.cells #[.slice (some ⟨g, 0, none⟩) R R] 25 (0, 0)))
    (hd : pa ≠ g ∧ pc ≠ g ∧ ps ≠ g ∧ pa ≠ pc ∧ pa ≠ ps) :
    Calls Tryd.prog 53 #[.pointer (some ⟨pa, 0, none⟩), .pointer (some ⟨pc, 0, none⟩), .pointer (some ⟨ps, 0, none⟩)] w fun e w' => RunP g R (runN n c.ins s) e w' ∧ (∃ k : Nat, k ≤ c.ins.length ∧ w'.heap[pa]? = some (.cells #[.int .i64 (k : Int)] 3 (0, 0))) ∧ But2 g pa w w' := by
  obtain ⟨d1, d2, d3, d4, d5⟩ := hd
  have HOK := Lib.hid hok
  have HI := Lib.hid hI
  have HSG := Lib.hid hSg
  have HIM := Lib.hid himm
  have HN := Lib.hid hn
  have HRR := Lib.hid hR
  have KA := Lib.hid ka
  have KC := Lib.hid kc
  have KS := Lib.hid ks
  have HS := Lib.hid hs
  have HV := Lib.hid hv
  have hil := hI.le
  have w1 := hok.w1
  have w2 := hok.w2
  have hn1 : 1 ≤ n := by omega
  have hn2 : n ≤ 64 := by omega
  clear hok hI hSg himm hn hR ka kc ks hs hv w1 w2
  go_enter Tryd.func53, Tryd.ntmps53
  go_wp2_with fail
  go_loopw [3] (fun i wr => ∃ (k : Nat) (s' : Nat → Nat), k ≤ c.ins.length ∧ Hid (runN n c.ins s = runN n (c.ins.drop k) s') ∧ Hid (∀ i, i < R → s' i < 2 ^ n) ∧ Hid (St8 wr g R s') ∧ Hid (wr.heap[pa]? = some (.cells #[.int .i64 (k : Int)] 3 (0, 0))) ∧ Hid (But2 g pa w wr)) (fun _ wr => c.ins.length - (match wr.cell? ⟨pa, 0, none⟩ with | some (.int _ k) => k.toNat | _ => 0))
  case atStart => exact ⟨0, s, by omega, by show _ = _; rw [List.drop_zero], HV.out, HS.out, KA.out, But2.refl _ _ _⟩
  case round =>
    obtain ⟨k, s', hk, HRUN, HV2, HS2, KA2, B2⟩ := hrel
    have KC2 := Lib.hid (B2.out.block KC.out d2 (Ne.symm d4))
    have KS2 := Lib.hid (B2.out.block KS.out d3 (Ne.symm d5))
    obtain ⟨z0, z1, z2, z3⟩ := cd_block4 KC2.out
    have a0 := cell_of_block KA2.out
    have sl := cell_of_block KS2.out
    rw [HN.out] at z0
    by_cases hlt : k < c.ins.length
    · have hkl : (k : Int) < (c.ins.length : Int) := by omega
      obtain ⟨b, o, rfl, hSb, hbw0, hat0⟩ := in_elem HI.out hlt
      obtain ⟨c0, c1, c2, c3, c4, c5⟩ := hat0.frame (w' := wr) (B2.out.2.2 b (HSG.out b hSb) hbw0)
      have hx := HOK.out.ins _ (List.getElem_mem hlt)
      have hf := ins_fields HOK.out.r1 hx
      have hi := HIM.out _ (List.getElem_mem hlt)
      have hdr : Hid (runN n (c.ins.drop k) s' = match stepN n s' c.ins[k] with | none => (s', false) | some s2 => runN n (c.ins.drop (k + 1)) s2) := by show _ = _; rw [List.drop_eq_getElem_cons hlt]; rfl
      rw [HN.out] at hx
      have HES := Lib.hid (stepE_stepN (n := n) (s := s') hx hi.1)
      have hd0 := fun h0 => ins_dst hx h0
      clear hat0 hx
      generalize c.ins[k] = x at *
      obtain ⟨op, xd, xa, xb, xc, xi⟩ := x
      obtain ⟨⟨ho0, ho1⟩, hd, ha, hb, hc⟩ := hf
      replace ho0 : 0 ≤ op := ho0
      replace ho1 : op ≤ 19 := ho1
      replace hd0 : op = 0 → xd = 0 := hd0
      replace hd : 1 ≤ op → 0 ≤ xd ∧ xd < c.regs := hd
      replace ha : 0 ≤ xa ∧ xa < c.regs := ha
      replace hb : 0 ≤ xb ∧ xb < c.regs := hb
      replace hc : 0 ≤ xc ∧ xc < c.regs := hc
      replace hi : 0 ≤ xi ∧ xi < 18446744073709551616 := hi
      have hrr := HRR.out
      have hr1 := HOK.out.r1
      have hdd : 0 ≤ xd ∧ xd < (R : Int) := by
        by_cases h0 : op = 0
        · have := hd0 h0; omega
        · have := hd (by omega); omega
      obtain ⟨O, rfl⟩ := Int.eq_ofNat_of_zero_le ho0
      obtain ⟨D, rfl⟩ := Int.eq_ofNat_of_zero_le hdd.1
      obtain ⟨A, rfl⟩ := Int.eq_ofNat_of_zero_le ha.1
      obtain ⟨B, rfl⟩ := Int.eq_ofNat_of_zero_le hb.1
      obtain ⟨C, rfl⟩ := Int.eq_ofNat_of_zero_le hc.1
      obtain ⟨I, rfl⟩ := Int.eq_ofNat_of_zero_le hi.1
      have CX := Lib.hid (exec_step n R O D A B C I g s' wr.drew (HS2.out.drawn ⟨1, rfl⟩) hn1 hn2 (by omega) (by omega) (by omega) (by omega) (by omega) HV2.out (by omega))
      have HLT : Hid (∀ s2, stepN n s' ⟨O, D, A, B, C, I⟩ = some s2 → ∀ i, i < R → s2 i < 2 ^ n) := fun s2 h2 => stepE_lt (x := ⟨O, D, A, B, C, I⟩) hn1 hn2 (by show (A : Int).toNat < R; omega) (by show (B : Int).toNat < R; omega) (by show (C : Int).toNat < R; omega) HV2.out (by rw [HES.out]; exact h2)
      rw [HES.out] at CX
      clear hd0 hd ha hb hc hi hdd hrr hr1 ho0 ho1 HES
      generalize hq : stepN n s' ⟨O, D, A, B, C, I⟩ = q at *
      have HQ := Lib.hid hq
      clear hq
      go_wp2_with fail
      go_still_tail 8, (by kernel_rfl)
      change wpList _ _ _ _ _ wr.drew
      go_wp2_with fail
      refine CX.out.mono ?_
      rintro e w5 ⟨hp, b5⟩
      have B5 := Lib.hid ((B2.out.trans (But2.drawn (w' := wr.drew) ⟨1, rfl⟩)).trans (But2.of_but b5))
      have KA5 := Lib.hid (b5.block (w := wr.drew) KA2.out d1)
      clear b5 CX
      cases q with
      | none =>
        obtain rfl : e = .panicked [{ v := .iface 106 (.agg #[]), recovered := false }] := hp
        have HEND : Hid (runN n c.ins s = (s', false)) := HRUN.out.trans hdr.out
        go_wp2_with fail
        exact ⟨rfl, .inr ⟨by rw [HEND.out], rfl⟩, ⟨k, by omega, KA5.out⟩, B5.out⟩
      | some s2 =>
        obtain ⟨rfl, hs2⟩ : e = .returned (.tuple #[]) ∧ St8 w5 g R s2 := hp
        have HS5 := Lib.hid hs2
        clear hs2
        have a5 := cell_of_block KA5.out
        have f5 := frozen_of_block (o := 0) KA5.out
        go_wp2_with fail
        go_roundw
        case rel => exact ⟨k + 1, s2, by omega, HRUN.out.trans hdr.out, HLT.out s2 rfl, HS5.out.frame (Below.heap_setCell _ _ _ _ (Ne.symm d1)), by have := block_set (u := .int .i64 ((k : Int) + 1)) KA5.out; rw [show ((k + 1 : Nat) : Int) = (k : Int) + 1 by omega]; exact this, B5.out.set _⟩
        case measure =>
          rw [cell_of_block (block_set (u := .int .i64 ((k : Int) + 1)) KA5.out), a0]
          show c.ins.length - ((k : Int) + 1).toNat < c.ins.length - (k : Int).toNat
          omega
    · have hnl : ¬ ((k : Int) < (c.ins.length : Int)) := by omega
      have hkk : k = c.ins.length := by omega
      have HEND : Hid (runN n c.ins s = (s', true)) := by show _ = _; rw [HRUN.out, hkk, List.drop_length]; rfl
      clear hkk hlt
      go_wp2_with fail
      go_end0
      exact ⟨.inl ⟨by rw [HEND.out], rfl, by rw [HEND.out]; exact HS2.out⟩, ⟨k, hk, KA2.out⟩, B2.out⟩
end Go.Proofs.Sat
/- The walks of exec.guarded and of its deferred closure, which recovers from a trap. -/
namespace Go.Proofs.Sat
open Go Go.RowKit
set_option maxRecDepth 20000 in
set_option maxHeartbeats 2000000 in
theorem catch_panicking (p : Nat) (x : Bool) (older : List PanicEntry) (w : World) (hc : w.heap[p]? = some (.cells #[.bool x] 4 (0, 0))) :
    CallsD Tryd.prog 61 #[.pointer (some ⟨p, 0, none⟩)] (.panicking ({ v := .iface 106 (.agg #[]), recovered := false } :: older)) w fun e u' w' =>
      e = .returned (.tuple #[]) ∧ u' = .panicking ({ v := .iface 106 (.agg #[]), recovered := true } :: older) ∧ w'.heap[p]? = some (.cells #[.bool false] 4 (0, 0)) ∧ But p w w' := by
  have KP := Lib.hid (block_alloc hc (.cells #[] 106))
  have c1 := cell_of_block KP.out
  have f1 := frozen_of_block (o := 0) KP.out
  have HP := Lib.hid (Array.getElem?_eq_some_iff.1 hc).1
  have HB := Lib.hid (Below.refl w.heap.size w)
  clear hc
  have hta : ∀ w : World, (Instr.typeAssert (.iface 106 (.agg #[])) 20 106 true).run Tryd.prog w = .ok (.tuple #[.agg #[], .bool true]) w := fun _ => by kernel_rfl
  refine callsD_of_wpS Tryd.func61 rfl fun c₀ cs hu => ?_
  apply wpS_seq
  apply wpS_region
  simp [wpOpsS, go_sem, recoverD, hu, Tryd.ntmps61, Exit.thenS]
  refine wpS_of_wp ?_
  simp only [Array.replicate_succ, Array.replicate_zero, List.push_toArray, List.append_toArray, List.nil_append, List.cons_append, List.setIfInBounds_toArray, List.set_cons_zero, List.set_cons_succ]
  go_wp2_with fail
  simp [bodyPostS, results, Tryd.results61, hu]
  exact ⟨block_set KP.out, (But.of_below ((Below.refl _ _).alloc (Nat.le_refl _) _) (by have := HP.out; omega)).set _⟩
set_option maxRecDepth 20000 in
set_option maxHeartbeats 2000000 in
theorem catch_idle (p : Nat) (x : Bool) (w : World) (hc : w.heap[p]? = some (.cells #[.bool x] 4 (0, 0))) :
    CallsD Tryd.prog 61 #[.pointer (some ⟨p, 0, none⟩)] .returning w fun e u' w' =>
      e = .returned (.tuple #[]) ∧ u' = .returning ∧ w'.heap[p]? = some (.cells #[.bool true] 4 (0, 0)) ∧ But p w w' := by
  have KP := Lib.hid (block_alloc hc (.cells #[] 106))
  have c1 := cell_of_block KP.out
  have f1 := frozen_of_block (o := 0) KP.out
  have HP := Lib.hid (Array.getElem?_eq_some_iff.1 hc).1
  clear hc
  have hta : ∀ w : World, (Instr.typeAssert .nilIface 20 106 true).run Tryd.prog w = .ok (.tuple #[.agg #[], .bool false]) w := fun _ => by kernel_rfl
  refine callsD_of_wpS Tryd.func61 rfl fun c₀ cs hu => ?_
  apply wpS_seq
  apply wpS_region
  simp [wpOpsS, go_sem, recoverD, hu, Tryd.ntmps61, Exit.thenS]
  refine wpS_of_wp ?_
  simp only [Array.replicate_succ, Array.replicate_zero, List.push_toArray, List.append_toArray, List.nil_append, List.cons_append, List.setIfInBounds_toArray, List.set_cons_zero, List.set_cons_succ]
  go_wp2_with fail
  simp [bodyPostS, results, Tryd.results61, hu]
  refine ⟨.returning, by cases c₀; simp_all, rfl, block_set KP.out, (But.of_below ((Below.refl _ _).alloc (Nat.le_refl _) _) (by have := HP.out; omega)).set _⟩
set_option maxRecDepth 20000 in
set_option maxHeartbeats 2000000 in
/-- A function that returns or traps, guarded. -/
theorem exec_guarded (f : Nat) (caps : Array Value) (w : World) (OK BAD : World → Prop)
    (h : Calls Tryd.prog f caps (w.alloc (.cells #[.bool false] 4)) fun e w' => ((OK w' ∧ e = .returned (.tuple #[])) ∨ (BAD w' ∧ e = .panicked [{ v := .iface 106 (.agg #[]), recovered := false }])) ∧ w'.heap[w.heap.size]? = some (.cells #[.bool false] 4 (0, 0)))
    (hf : f = 53) :
    Calls Tryd.prog 52 #[.func (.func f) #[] caps] w fun e w' => ∃ (b : Bool) (w1 : World), e = .returned (.bool b) ∧ (if b = true then OK w1 else BAD w1) ∧ But w.heap.size w1 w' := by
  subst hf
  have HH := Lib.hid h
  clear h
  have hmf : ∀ (fn : Fn) (first cap : Array Value) (w : World), (Instr.makeFunc fn first cap).run Tryd.prog w = .ok (.func fn first cap) w := fun _ _ _ _ => rfl
  go_enter_defers Tryd.func52, Tryd.ntmps52
  go_wp2_with fail
  refine HH.out.mono ?_
  rintro e w1 ⟨hor, hb⟩
  have KB := Lib.hid hb
  have c0 := cell_of_block hb
  have f0 := frozen_of_block (o := 0) hb
  clear hb HH
  rcases hor with ⟨ho, rfl⟩ | ⟨ho, rfl⟩
  · have HO := Lib.hid ho
    clear ho
    go_wp2_with fail
    refine leaves_cons (f := 61) (args := #[.pointer (some ⟨w.heap.size, 0, none⟩)]) (by simp) (by simp [go_sem]) ?_
    refine (catch_idle w.heap.size true _ (block_set KB.out)).mono ?_
    rintro e u' w2 ⟨rfl, rfl, hb2, hbut⟩
    have c2 := cell_of_block hb2
    simp [Leaves, settle, results, Tryd.results52, go_sem, c2]
    exact ⟨w1, HO.out, ((But.refl _ _).set _).trans hbut⟩
  · have HO := Lib.hid ho
    clear ho
    go_wp2_with fail
    refine leaves_cons (f := 61) (args := #[.pointer (some ⟨w.heap.size, 0, none⟩)]) (by simp) (by simp [go_sem]) ?_
    refine (catch_panicking w.heap.size false [] _ KB.out).mono ?_
    rintro e u' w2 ⟨rfl, rfl, hb2, hbut⟩
    have c2 := cell_of_block hb2
    simp [Leaves, settle, results, Tryd.results52, go_sem, c2]
    exact ⟨w1, HO.out, hbut⟩
end Go.Proofs.Sat
/- The walks of exec.Run and exec.Outs. -/
namespace Go.Proofs.Sat
open Go Go.RowKit
/-- What a run of a program from a list of values leaves. -/
def finR (c : Cd) (l : List Int) : (Nat → Nat) × Bool := runN c.width.toNat c.ins (cutL c.width.toNat l)
/-- Its error. -/
def errR (c : Cd) (l : List Int) : Int := if cdErr c ≠ 0 then cdErr c else if (finR c l).2 = true then 0 else 17
/-- The final values of Out. -/
def outsL (c : Cd) (l : List Int) : List Int := if errR c l = 0 then c.out.map (fun r => ((finR c l).1 r.toNat : Int)) else []
set_option maxRecDepth 20000 in
set_option maxHeartbeats 2000000 in
theorem exec_Run (S Sl : Nat → Prop) (c : Cd) (p : CdAt) (l : List Int) (a : Option Addr) (ca : Nat) (w : World) (hK : IsaT w) (h : CdRd S w c p) (himm : ∀ x ∈ c.ins, 0 ≤ x.imm ∧ x.imm < 18446744073709551616) (hr : Rd (Kd.int .u64) Sl w a ca l) (hl : ∀ x ∈ l, 0 ≤ x ∧ x < 18446744073709551616) :
    Calls Tryd.prog 37 #[cdVal c p, .slice a l.length ca] w fun e w' => (∃ k : Int, (errR c l ≠ 0 ∧ e = .returned (.tuple #[.slice none 0 0, .int .i64 k, .int .i64 (errR c l)])) ∨ (errR c l = 0 ∧ ∃ (g R : Nat), c.regs = (R : Int) ∧ e = .returned (.tuple #[.slice (some ⟨g, 0, none⟩) R R, .int .i64 0, .int .i64 0]) ∧ w.heap.size ≤ g ∧ St8 w' g R (finR c l).1)) ∧ Below w.heap.size w w' := by
  obtain ⟨ia, ic, oa, oc⟩ := p
  have BW := Lib.hid (below_alloc (Below.refl w.heap.size w) (.cells (cellsC c ia ic oa oc) 38))
  have KC := Lib.hid (heap_alloc_new w (.cells (cellsC c ia ic oa oc) 38))
  have HC := Lib.hid (h.mono (S' := fun b => b < w.heap.size) (fun b hb _ => hb))
  have HR := Lib.hid hr
  have HL := Lib.hid hl
  have HIM := Lib.hid himm
  have hil := h.ins.le
  have hol := h.out.le
  have hll := hr.le
  have CK := Lib.hid (fun W (b : Below w.heap.size w W) => isa_Check _ c ⟨ia, ic, oa, oc⟩ W (hK.below b) (HC.out.frame (Same.below b)))
  clear h hr hl himm
  unfold cdVal
  go_enter Tryd.func37, Tryd.ntmps37
  obtain ⟨z0, z1, z2, z3⟩ := cd_block4 KC.out
  by_cases hce : cdErr c = 0
  case neg =>
    have HE : Hid (errR c l = cdErr c) := by show _ = _; unfold errR; rw [if_pos hce]
    have HNE := Lib.hid hce
    have t0 : (cdErr c != 0) = true := by simpa using hce
    generalize cdErr c = ce at *
    generalize cdIx c = ci at *
    clear hce
    go_wp2_with fail
    refine (CK.out _ BW.out).mono ?_
    rintro e w2 ⟨rfl, b2⟩
    have B2 := Lib.hid (below_both BW.out b2)
    clear b2 z0 z1 z2 z3
    go_wp2_with fail
    go_ret3
    exact ⟨⟨ci, .inl ⟨by rw [HE.out]; exact HNE.out, by rw [HE.out]; rfl⟩⟩, B2.out⟩
  have HOK := Lib.hid (cd_ok hce)
  have h1 := HOK.out.w1
  have h2 := HOK.out.w2
  have h3 := HOK.out.r1
  have h4 := HOK.out.r2
  obtain ⟨n, hn⟩ : ∃ n : Nat, c.width = (n : Int) := ⟨c.width.toNat, by omega⟩
  obtain ⟨R, hR⟩ : ∃ R : Nat, c.regs = (R : Int) := ⟨c.regs.toNat, by omega⟩
  have HN := Lib.hid hn
  have HRR := Lib.hid hR
  have HFIN : Hid (finR c l = runN n c.ins (cutL n l)) := by show _ = _; unfold finR; rw [hn, Int.toNat_natCast]
  have HERR : Hid (errR c l = if (finR c l).2 = true then 0 else 17) := by show _ = _; unfold errR; rw [if_neg (by rw [hce]; simp)]
  rw [hce] at CK
  have hn1 : 1 ≤ n := by omega
  have hn2 : n ≤ 64 := by omega
  have hR8 : R ≤ 8 := by omega
  clear hce h1 h2 h3 h4 hn hR
  have CWD := Lib.hid (fun W (b : Below w.heap.size w W) => exec_words _ n R l a ca W (HR.out.frame (Same.below b)) HL.out hn1 hn2 hR8)
  have hmf : ∀ (fn : Fn) (first cap : Array Value) (w : World), (Instr.makeFunc fn first cap).run Tryd.prog w = .ok (.func fn first cap) w := fun _ _ _ _ => rfl
  go_wp2_with fail
  refine (CK.out _ BW.out).mono ?_
  rintro e w2 ⟨rfl, b2⟩
  have B2 := Lib.hid (below_both BW.out b2)
  have KC2 := Lib.hid (block_below b2 KC.out)
  clear b2 z0 z1 z2 z3 CK BW KC
  obtain ⟨z0, z1, z2, z3⟩ := cd_block4 KC2.out
  rw [HN.out] at z0
  rw [HRR.out] at z1
  go_wp2_with fail
  refine (CWD.out _ B2.out).mono ?_
  rintro e w3 ⟨g, rfl, hg, s3, b3⟩
  have B3 := Lib.hid (below_both B2.out b3)
  have KC3 := Lib.hid (block_below b3 KC2.out)
  have S3 := Lib.hid s3
  have HG3 := Lib.hid hg
  have HG2 := Lib.hid B2.out.size
  have HGL := Lib.hid s3.lt
  clear b3 hg s3 z0 z1 z2 z3 CWD
  have hlt2 : w.heap.size < w2.heap.size := (Array.getElem?_eq_some_iff.1 KC2.out).1
  have HLT2 := Lib.hid hlt2
  clear hlt2
  have B4 := Lib.hid (below_alloc (below_alloc B3.out (.cells #[.slice (some ⟨g, 0, none⟩) R R] 25)) (.cells #[.int .i64 0] 3))
  have KC4 := Lib.hid (block_alloc (block_alloc KC3.out (.cells #[.slice (some ⟨g, 0, none⟩) R R] 25)) (.cells #[.int .i64 0] 3))
  have KS4 := Lib.hid (block_alloc (heap_alloc_new w3 (.cells #[.slice (some ⟨g, 0, none⟩) R R] 25)) (.cells #[.int .i64 0] 3))
  have KA4 := Lib.hid (block_at1 w3 (.cells #[.slice (some ⟨g, 0, none⟩) R R] 25) (.cells #[.int .i64 0] 3))
  have S4 := Lib.hid (S3.out.below (below_alloc (below_alloc (Below.refl w3.heap.size w3) (.cells #[.slice (some ⟨g, 0, none⟩) R R] 25)) (.cells #[.int .i64 0] 3)))
  go_wp2_with fail
  generalize (w3.alloc (.cells #[.slice (some ⟨g, 0, none⟩) R R] 25)).alloc (.cells #[.int .i64 0] 3) = W4 at *
  generalize w3.heap.size = P at *
  have hw4 : P + 1 < W4.heap.size := (Array.getElem?_eq_some_iff.1 KA4.out).1
  have HW4 := Lib.hid hw4
  clear hw4
  have CRUN : Hid (Calls Tryd.prog 53 #[.pointer (some ⟨P + 1, 0, none⟩), .pointer (some ⟨w.heap.size, 0, none⟩), .pointer (some ⟨P, 0, none⟩)] (W4.alloc (.cells #[.bool false] 4)) fun e w' => ((((finR c l).2 = true ∧ St8 w' g R (finR c l).1 ∧ (∃ k : Nat, w'.heap[P + 1]? = some (.cells #[.int .i64 (k : Int)] 3 (0, 0))) ∧ But2 g (P + 1) (W4.alloc (.cells #[.bool false] 4)) w') ∧ e = .returned (.tuple #[])) ∨ (((finR c l).2 = false ∧ (∃ k : Nat, w'.heap[P + 1]? = some (.cells #[.int .i64 (k : Int)] 3 (0, 0))) ∧ But2 g (P + 1) (W4.alloc (.cells #[.bool false] 4)) w') ∧ e = .panicked [{ v := .iface 106 (.agg #[]), recovered := false }])) ∧ w'.heap[W4.heap.size]? = some (.cells #[.bool false] 4 (0, 0))) := by
    have hg1 := HG3.out
    have hg2 := HLT2.out
    have hg3 := HGL.out
    have hg4 := HW4.out
    refine (exec_Run1 (fun b => b < w.heap.size) c ia ic oa oc n R g (P + 1) w.heap.size P (cutL n l) _ HOK.out HN.out HRR.out HIM.out (HC.out.ins.frame (Same.below (below_alloc B4.out _))) (fun b hb => ⟨by omega, by omega⟩) (S4.out.below (below_alloc (Below.refl _ _) _)) (fun i _ => cutL_lt n l i) (block_alloc KA4.out _) (block_alloc KC4.out _) (block_alloc KS4.out _) ⟨by omega, by omega, by omega, by omega, by omega⟩).mono ?_
    rintro e w' ⟨hp, ⟨k, hk, hka⟩, hbut⟩
    rw [HFIN.out]
    refine ⟨?_, hbut.block (heap_alloc_new W4 _) (by omega) (by omega)⟩
    rcases hp with ⟨q1, q2, q3⟩ | ⟨q1, q2⟩
    · exact .inl ⟨⟨q1, q3, ⟨k, hka⟩, hbut⟩, q2⟩
    · exact .inr ⟨⟨q1, ⟨k, hka⟩, hbut⟩, q2⟩
  refine (exec_guarded 53 #[.pointer (some ⟨P + 1, 0, none⟩), .pointer (some ⟨w.heap.size, 0, none⟩), .pointer (some ⟨P, 0, none⟩)] W4 _ _ CRUN.out rfl).mono ?_
  rintro e w5 ⟨b, w1, rfl, hb, hbut⟩
  have hg1 := HG3.out
  have hg2 := HLT2.out
  have hg3 := HGL.out
  have hg4 := HW4.out
  have hg5 := B4.out.size
  cases b with
  | true =>
    obtain ⟨q1, q2, ⟨k, q3⟩, q4⟩ := hb
    have B5 : Hid (Below w.heap.size w w5) := ((below_alloc B4.out _).trans (q4.below (by omega) (by omega))).trans (hbut.below (by omega))
    have KS5 := Lib.hid (hbut.block (q4.block (block_alloc KS4.out _) (by omega) (by omega)) (by omega))
    have S5 : Hid (St8 w5 g R (finR c l).1) := hbut.block q2 (by omega)
    have HE : Hid (errR c l = 0) := by show _ = _; rw [HERR.out, if_pos q1]
    have HGW : Hid (w.heap.size ≤ g) := by show _ ≤ _; omega
    have sl := cell_of_block KS5.out
    clear q1 q2 q3 q4 hbut hg1 hg2 hg3 hg4 hg5
    go_wp2_with fail
    go_ret3
    exact ⟨⟨0, .inr ⟨HE.out, g, R, HRR.out, rfl, HGW.out, S5.out⟩⟩, B5.out⟩
  | false =>
    obtain ⟨q1, ⟨k, q3⟩, q4⟩ := hb
    have B5 : Hid (Below w.heap.size w w5) := ((below_alloc B4.out _).trans (q4.below (by omega) (by omega))).trans (hbut.below (by omega))
    have KA5 := Lib.hid (hbut.block q3 (by omega))
    have HE : Hid (errR c l = 17) := by show _ = _; rw [HERR.out, if_neg (by rw [q1]; simp)]
    have a5 := cell_of_block KA5.out
    clear q1 q3 q4 hbut hg1 hg2 hg3 hg4 hg5
    go_wp2_with fail
    go_quiet (fail)
    have DD : Drawn w5 (w5.drewN nq) := ⟨nq, rfl⟩
    go_wp2_with fail
    go_ret3
    exact ⟨⟨k, .inl ⟨by rw [HE.out]; decide, by rw [HE.out]; rfl⟩⟩, below_both B5.out (DD.below _)⟩
set_option maxRecDepth 20000 in
set_option maxHeartbeats 2000000 in
theorem exec_Outs (S Sl : Nat → Prop) (c : Cd) (p : CdAt) (l : List Int) (a : Option Addr) (ca : Nat) (w : World) (hK : IsaT w) (h : CdRd S w c p) (ho : c.out.length ≤ 20) (himm : ∀ x ∈ c.ins, 0 ≤ x.imm ∧ x.imm < 18446744073709551616) (hr : Rd (Kd.int .u64) Sl w a ca l) (hl : ∀ x ∈ l, 0 ≤ x ∧ x < 18446744073709551616) :
    Calls Tryd.prog 29 #[cdVal c p, .slice a l.length ca] w fun e w' => ∃ v, e = .returned (.tuple #[v, .int .i64 (errR c l)]) ∧ Own (Kd.int .u64) 28 NoS w' w.heap.size v (outsL c l) ∧ Below w.heap.size w w' := by
  have CX := fun W (b : Below w.heap.size w W) => exec_Run S Sl c p l a ca W (hK.below b) (h.frame (Same.below b)) himm (hr.frame (Same.below b)) hl
  obtain ⟨ia, ic, oa, oc⟩ := p
  have BW := Lib.hid (below_alloc (Below.refl w.heap.size w) (.cells (cellsC c ia ic oa oc) 38))
  have KC := Lib.hid (heap_alloc_new w (.cells (cellsC c ia ic oa oc) 38))
  have HC := Lib.hid h
  have HX := Lib.hid CX
  have hol := h.out.le
  have hil := h.ins.le
  have hll := hr.le
  clear h hr hl himm CX
  unfold cdVal
  go_enter Tryd.func29, Tryd.ntmps29
  obtain ⟨z0, z1, z2, z3⟩ := cd_block4 KC.out
  go_wp2_with fail
  refine (HX.out _ BW.out).mono ?_
  rintro e w2 ⟨⟨k, hor⟩, b2⟩
  have B2 := Lib.hid (below_both BW.out b2)
  have KC2 := Lib.hid (block_below b2 KC.out)
  clear z0 z1 z2 z3
  rcases hor with ⟨hne, rfl⟩ | ⟨he, g, R, hR, rfl, hg, s3⟩
  · have HO : Hid (outsL c l = []) := by show _ = _; unfold outsL; rw [if_neg hne]
    have t0 : (errR c l != 0) = true := by simpa using hne
    clear hne b2 HX
    go_wp2_with fail
    go_ret2
    exact ⟨_, rfl, by rw [HO.out]; exact Own.nil _ _ _ _ _, B2.out⟩
  · have HE := Lib.hid he
    have S3 := Lib.hid s3
    have HG := Lib.hid s3.lt
    have HRR := Lib.hid hR
    have HCE : Hid (CdOK c) := by
      show CdOK c
      refine cd_ok ?_
      by_cases h0 : cdErr c = 0
      · exact h0
      · unfold errR at he
        rw [if_pos h0] at he
        exact he
    have HO : Hid (outsL c l = c.out.map (fun r => ((finR c l).1 r.toNat : Int))) := by show _ = _; unfold outsL; rw [if_pos he]
    obtain ⟨st, hst⟩ : ∃ st, st = (finR c l).1 := ⟨_, rfl⟩
    rw [← hst] at HO S3
    clear hst
    have hsz := b2.size
    have HSZ := Lib.hid B2.out.size
    clear he s3 hR b2 HX hsz
    obtain ⟨z0, z1, z2, z3⟩ := cd_block4 KC2.out
    go_wp2_with fail
    go_loopw [9, 25] (fun v i wr => ∃ k : Nat, k ≤ c.out.length ∧ i = .int .i64 k ∧ Hid (Own (Kd.int .u64) 28 NoS wr w2.heap.size v ((c.out.take k).map (fun r => (st r.toNat : Int)))) ∧ Hid (Below w2.heap.size w2 wr)) (fun _ i _ => c.out.length - (intOf i).toNat)
    case atStart => exact ⟨0, by omega, rfl, by rw [List.take_zero]; exact Own.nil _ _ _ _ _, Below.refl _ _⟩
    case round =>
      clear z0 z1 z2 z3
      obtain ⟨k, hk, rfl, O4, B4⟩ := hrel
      by_cases hlt : k < c.out.length
      · have hkl : (k : Int) < (c.out.length : Int) := by omega
        obtain ⟨ob, oo, rfl, -, -, hc⟩ := ((HC.out.out.frame (Same.below B2.out)).frame (Same.below B4.out)).vals (by omega) 0
        have d5 := hc k hlt
        rw [getD_at _ hlt] at d5
        have hr := HCE.out.out _ (List.getElem_mem hlt)
        have HT : Hid ((c.out.take (k + 1)).map (fun r => (st r.toNat : Int)) = (c.out.take k).map (fun r => (st r.toNat : Int)) ++ [(st (c.out[k]).toNat : Int)]) := by show _ = _; rw [List.take_succ_eq_append_getElem hlt, List.map_append]; rfl
        have hXl : ((c.out.take k).map (fun r => (st r.toNat : Int))).length ≤ 20 := by rw [List.length_map, List.length_take]; omega
        clear hc
        generalize c.out[k] = r at *
        generalize (c.out.take k).map (fun r => (st r.toNat : Int)) = X at *
        obtain ⟨hr0, hr1⟩ := hr
        obtain ⟨m, rfl⟩ := Int.eq_ofNat_of_zero_le hr0
        rw [Int.toNat_natCast] at HT
        have hrr := HRR.out
        have hmR : m < R := by omega
        have hmR' : (m : Int) < (R : Int) := by omega
        have S4 := S3.out.below B4.out
        obtain ⟨s1, -, -⟩ := S4.at hmR
        generalize st m = y at *
        clear hr1 hrr S4
        obtain ⟨a4, c4, rfl⟩ := O4.out.form
        go_wp2_with (first
          | (at_builtin; refine wpList_append_ev _ rfl _ _ 25 rfl _ _ rfl rfl _ (run_app1 wr infoU64 rfl _ O4.out 28 [.int .u64 _] _ rfl (by omega) (by omega) B4.out.size) ?_; rintro n2 w5 ⟨ow2, g2, v2, _⟩; have B5 := Lib.hid (B4.out.grown g2 B4.out.size (fun k hk => (O4.out.lt k hk).1)); have O5 := Lib.hid ow2; clear ow2 g2 v2)
          | fail)
        go_roundw
        case rel => exact ⟨k + 1, by omega, by go_num, by rw [HT.out]; exact O5.out, B5.out⟩
        case measure => simp [intOf]; omega
      · have hnl : ¬ ((k : Int) < (c.out.length : Int)) := by omega
        have h5 := O4.out
        rw [show k = c.out.length by omega, List.take_length, ← HO.out] at h5
        have O5 := Lib.hid h5
        clear h5
        clear hlt hk O4
        go_wp2_with fail
        go_ret2
        exact ⟨_, by rw [HE.out]; rfl, O5.out.mono (fun _ _ h => h) HSZ.out, below_both B2.out B4.out⟩
end Go.Proofs.Sat
