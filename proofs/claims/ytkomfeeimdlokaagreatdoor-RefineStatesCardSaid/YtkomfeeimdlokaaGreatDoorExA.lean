/- States as rows of numbers; the walk of exec.words. -/
import Derived.Test.YtkomfeeimdlokaaGreatDoorRaN
import Derived.Test.YtkomfeeimdlokaaGreatDoorBiW
import Derived.Test.YtkomfeeimdlokaaGreatDoorLvT
set_option linter.unusedVariables false
set_option linter.unusedSimpArgs false
namespace Go.Proofs.Sat
open Go Go.RowKit
/-- A state's cells. -/
def cellsR (n : Nat) (s : Nat → Nat) : Array Value := ((List.range n).map fun i => Value.int .u64 (s i : Int)).toArray
theorem cellsR_size (n : Nat) (s : Nat → Nat) : (cellsR n s).size = n := by simp [cellsR]
theorem cellsR_get (n : Nat) (s : Nat → Nat) {i : Nat} (h : i < n) : (cellsR n s)[i]? = some (.int .u64 (s i : Int)) := by simp [cellsR, h]
theorem cellsR_set (n : Nat) (s : Nat → Nat) {i : Nat} (h : i < n) (v : Nat) : (cellsR n s).setIfInBounds i (.int .u64 (v : Int)) = cellsR n (updN s i v) := by
  apply Array.ext_getElem?
  intro j
  by_cases hj : j < n
  · rw [cellsR_get n _ hj, Array.getElem?_setIfInBounds]
    unfold updN
    by_cases e : i = j
    · subst e
      rw [if_pos rfl, if_pos (by rw [cellsR_size]; exact h)]
      simp
    · rw [if_neg e, cellsR_get n s hj, if_neg (Ne.symm e)]
  · rw [Array.getElem?_eq_none (by rw [Array.size_setIfInBounds, cellsR_size]; omega), Array.getElem?_eq_none (by rw [cellsR_size]; omega)]
theorem cellsR_congr {n : Nat} {s t : Nat → Nat} (h : ∀ i, i < n → s i = t i) : cellsR n s = cellsR n t := by
  apply Array.ext_getElem?
  intro j
  by_cases hj : j < n
  · rw [cellsR_get n s hj, cellsR_get n t hj, h j hj]
  · rw [Array.getElem?_eq_none (by rw [cellsR_size]; omega), Array.getElem?_eq_none (by rw [cellsR_size]; omega)]
/-- A block that is a state. -/
def St8 (w : World) (g n : Nat) (s : Nat → Nat) : Prop := w.heap[g]? = some (.cells (cellsR n s) 48 (0, 0))
theorem St8.lt {w : World} {g n : Nat} {s : Nat → Nat} (h : St8 w g n s) : g < w.heap.size := (Array.getElem?_eq_some_iff.1 h).1
theorem St8.at {w : World} {g n : Nat} {s : Nat → Nat} (h : St8 w g n s) {i : Nat} (hi : i < n) : w.cell? ⟨g, i, none⟩ = some (.int .u64 (s i : Int)) ∧ w.frozen? ⟨g, i, none⟩ = false ∧ ∀ v : Nat, St8 (w.setCell ⟨g, i, none⟩ (.int .u64 (v : Int))) g n (updN s i v) := by
  have hg : w.heap[g]? = some (.cells (cellsR n s) 48 (0, 0)) := h
  refine ⟨?_, frozen_of_block hg, fun v => ?_⟩
  · rw [cell_of_row _ _ i _ _ _ hg, cellsR_get n s hi]
  · unfold St8
    rw [← cellsR_set n s hi v]
    simp [World.setCell, Array.getElem?_modify, hg]
theorem St8.frame {w w' : World} {g n : Nat} {s : Nat → Nat} (h : St8 w g n s) (hb : w'.heap[g]? = w.heap[g]?) : St8 w' g n s := by unfold St8; rw [hb]; exact h
theorem St8.drawn {w w' : World} {g n : Nat} {s : Nat → Nat} (h : St8 w g n s) (hd : Drawn w w') : St8 w' g n s := hd.heap h
theorem St8.below {w w' : World} {g n : Nat} {s : Nat → Nat} (h : St8 w g n s) (hb : Below w.heap.size w w') : St8 w' g n s := h.frame (hb.block g h.lt)
theorem St8.congr {w : World} {g n : Nat} {s t : Nat → Nat} (h : St8 w g n s) (e : ∀ i, i < n → s i = t i) : St8 w g n t := by unfold St8; rw [← cellsR_congr e]; exact h
theorem infoU64 : ElemInfo Tryz.prog 32 48 (.int .u64 0) 1 8 := ⟨Tryz.underlying32, by kernel_rfl, rfl, by decide⟩
theorem run_mkR (w : World) (kl kc : IntKind) (L C : Int) (n : Nat) (hL : L = n) (hC : C = n) (hn : n ≤ 1000000) :
    ∃ v' w', (Instr.makeSlice 32 (.int kl L) (.int kc C)).run Tryz.prog w = .ok v' w' ∧ St8 w' w.heap.size n (fun _ => 0) ∧ w.grownBy w' none ∧ v' = .slice (some ⟨w.heap.size, 0, none⟩) n n := by
  subst hL hC
  obtain ⟨i, hi, h2, h3, h4⟩ := info_parts infoU64.hi
  obtain ⟨w', hr, ho, hg⟩ := run_make_full (P := Tryz.prog) w w.heap.size 32 48 i _ 1 infoU64.ht hi h2 h3 kl kc n (by rw [h4]; omega) (by simp [maxLen]; omega) (Nat.le_refl _)
  refine ⟨_, w', hr, ?_, hg, rfl⟩
  rcases ho.2 with ⟨h, _⟩ | ⟨g, cap, cur, hv, hb', hg', q1, q2, q3, q4⟩
  · cases h
  · cases hv
    have hcur : cur = cellsR n (fun _ => 0) := by
     apply Array.ext_getElem?
     intro j
     have e : (madeCells (Value.int .u64 0).cells (n * 1)).toList = List.replicate n (Value.int .u64 0) := by rw [Nat.mul_one]; exact madeCells_one _ n
     by_cases hj : j < n
     · have e1 : (cur.toList.take (n * 1))[j]? = cur[j]? := by rw [List.getElem?_take_of_lt (by omega), Array.getElem?_toList]
       rw [← e1, q4, e, cellsR_get n _ hj, List.getElem?_replicate, if_pos hj]
       rfl
     · rw [Array.getElem?_eq_none (by rw [q3]; omega), Array.getElem?_eq_none (by rw [cellsR_size]; omega)]
    unfold St8
    rw [hg', hcur]
/-- Values cut to a width; zeros behind. -/
def cutL (n : Nat) (l : List Int) : Nat → Nat := fun i => (l.getD i 0).toNat % 2 ^ n
def cutP (n : Nat) (l : List Int) (k : Nat) : Nat → Nat := fun i => if i < k then cutL n l i else 0
theorem cutP_succ (n : Nat) (l : List Int) (k : Nat) : cutP n l (k + 1) = updN (cutP n l k) k (cutL n l k) := by
  funext j
  unfold cutP updN
  show (if j < k + 1 then _ else _) = (if j = k then _ else if j < k then _ else _)
  by_cases h : j = k
  · subst h; simp
  · by_cases h2 : j < k
    · rw [if_pos (by omega), if_neg h, if_pos h2]
    · rw [if_neg (by omega), if_neg h, if_neg h2]
theorem cutL_lt (n : Nat) (l : List Int) (i : Nat) : cutL n l i < 2 ^ n := Nat.mod_lt _ (Nat.two_pow_pos n)
set_option maxRecDepth 20000 in
set_option maxHeartbeats 1000000 in
theorem exec_words (S : Nat → Prop) (W n : Nat) (l : List Int) (a : Option Addr) (c : Nat) (w : World) (h : Rd (Kd.int .u64) S w a c l) (hl : ∀ x ∈ l, 0 ≤ x ∧ x < 18446744073709551616) (h1 : 1 ≤ W) (h2 : W ≤ 64) (hn : n ≤ 8) :
    Calls Tryz.prog 50 #[.int .i64 (W : Int), .int .i64 (n : Int), .slice a l.length c] w fun e w' => ∃ g, e = .returned (.slice (some ⟨g, 0, none⟩) n n) ∧ w.heap.size ≤ g ∧ St8 w' g n (cutL W l) ∧ Below w.heap.size w w' := by
  have HR := Lib.hid h
  have HL := Lib.hid hl
  have hll := h.le
  clear h hl
  obtain ⟨m, hm⟩ : ∃ m, m = min n l.length := ⟨_, rfl⟩
  have hmin : min (n : Int) (l.length : Int) = (m : Int) := by omega
  have HM := Lib.hid hm
  have hmn : m ≤ n := by omega
  have hml : m ≤ l.length := by omega
  clear hm
  go_enter Tryz.func50, Tryz.ntmps50
  go_wp2_with (first
    | ((with_reducible refine gate_m 32 (.tmp 9) (.tmp 9) rfl ?_); refine wpList_make_ev _ rfl (.tmp 9) (.tmp 9) 32 rfl _ _ rfl rfl _ (run_mkR _ _ _ _ _ n rfl rfl (by omega)) ?_; rintro v' w1 ⟨hG, hg, rfl⟩; have G1 := Lib.hid hG; have B1 := Lib.hid ((Below.refl w.heap.size w).grown hg (Nat.le_refl _) (fun k hk => by cases hk)); clear hG hg)
    | fail)
  go_loopw [15] (fun i wr => ∃ k : Nat, k ≤ m ∧ i = .int .i64 k ∧ Hid (St8 wr w.heap.size n (cutP W l k)) ∧ Hid (Below w.heap.size w wr)) (fun i _ => m - (intOf i).toNat)
  case atStart => exact ⟨0, by omega, rfl, G1.out.congr (fun i _ => by unfold cutP; rw [if_neg (by omega)]), B1.out⟩
  case round =>
    obtain ⟨k, hk, rfl, G2, B2⟩ := hrel
    by_cases hlt : k < m
    · have hkl : (k : Int) < (m : Int) := by omega
      have hk2 : k < l.length := by omega
      obtain ⟨b, o, rfl, -, -, hc⟩ := (HR.out.frame (Same.below B2.out)).vals (by omega) 0
      have d5 := hc k hk2
      rw [getD_at _ hk2] at d5
      have hx := HL.out _ (List.getElem_mem hk2)
      have HE : Hid (cutP W l (k + 1) = updN (cutP W l k) k (l[k].toNat % 2 ^ W)) := by show _ = _; rw [cutP_succ]; unfold cutL; rw [getD_at _ hk2]
      clear hc
      generalize l[k] = x at *
      obtain ⟨hx0, hx1⟩ := hx
      obtain ⟨X, rfl⟩ := Int.eq_ofNat_of_zero_le hx0
      rw [Int.toNat_natCast] at HE
      have CC := Lib.hid (fun W' => bits_Cut W X W' h1 h2 (by omega))
      generalize X % 2 ^ W = Y at *
      have hkn : (k : Int) < (n : Int) := by omega
      have hkn' : k < n := by omega
      have hkl2 : (k : Int) < (l.length : Int) := by omega
      clear hx1
      go_wp2_with fail
      refine (CC.out _).mono ?_
      rintro e w3 ⟨rfl, d3⟩
      have G3 := Lib.hid (G2.out.drawn d3)
      have B3 := Lib.hid (below_both B2.out (d3.below _))
      obtain ⟨s1, s2, s3⟩ := G3.out.at hkn'
      have US := Lib.hid s3
      clear d3 s3
      go_wp2_with fail
      go_roundw
      case rel => exact ⟨k + 1, by omega, by go_num, by rw [HE.out]; exact US.out Y, B3.out.setCell (Nat.le_refl _) _⟩
      case measure => simp [intOf]; omega
    · have hnl : ¬ ((k : Int) < (m : Int)) := by omega
      have hkm : k = m := by omega
      have G3 := Lib.hid (G2.out.congr (t := cutL W l) (fun i hi => by
        have hmm := HM.out
        unfold cutP
        by_cases e : i < k
        · rw [if_pos e]
        · rw [if_neg e]
          unfold cutL
          rw [List.getD_eq_getElem?_getD, List.getElem?_eq_none (by omega)]
          simp))
      clear hkm hlt hk
      go_wp2_with fail
      go_ret
      exact ⟨w.heap.size, rfl, Nat.le_refl _, G3.out, B2.out⟩
end Go.Proofs.Sat
