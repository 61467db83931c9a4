/- The walk of the law ProofLong. -/
import Derived.Test.YtgjdpjefoaohkaaDoorPrJ
set_option linter.unusedVariables false
set_option linter.unusedSimpArgs false
namespace Go.Proofs.Sat
open Go Go.RowKit
def xK (k : Int) : St := ⟨k, [], 0, [], tm0, tm0⟩
def p0 : StAt := ⟨none, 0, none, 0, none, 0, none, 0⟩
/-- A row of L steps of which the first i are filled. -/
def LongAt (w : World) (g L i : Nat) : Prop := ∃ cur : Array Value, w.heap[g]? = some (.cells cur 36 (0, 0)) ∧ ∀ j c, j < L → c < 14 → cur[j * 14 + c]? = (stCells (xK (if j < i then 1 else 0)) p0)[c]?
theorem LongAt.cell {w : World} {g L i : Nat} (h : LongAt w g L i) {j : Nat} (hj : j < L) (hi : i ≤ j) : w.cell? ⟨g, j * 14, none⟩ = some (.int .i64 0) := by
  obtain ⟨cur, hg, hc⟩ := h
  rw [cell_of_row _ _ _ _ _ _ hg]
  have := hc j 0 hj (by omega)
  rw [if_neg (by omega)] at this
  exact this
theorem LongAt.frozen {w : World} {g L i : Nat} (h : LongAt w g L i) (o : Nat) : w.frozen? ⟨g, o, none⟩ = false := by
  obtain ⟨cur, hg, _⟩ := h
  exact frozen_of_block hg
theorem LongAt.set {w : World} {g L i : Nat} (h : LongAt w g L i) (hi : i < L) : LongAt (w.setCell ⟨g, i * 14, none⟩ (.int .i64 1)) g L (i + 1) := by
  obtain ⟨cur, hg, hc⟩ := h
  refine ⟨cur.setIfInBounds (i * 14) (.int .i64 1), by simp [World.setCell, Array.getElem?_modify, hg], fun j c hj hcc => ?_⟩
  have hz := hc i 0 hi (by omega)
  have hlt : i * 14 < cur.size := by
    have h2 : cur[i * 14 + 0]? ≠ none := by rw [hz]; exact fun e => by cases e
    rw [ne_eq, Array.getElem?_eq_none_iff] at h2
    omega
  rw [Array.getElem?_setIfInBounds]
  by_cases he : i * 14 = j * 14 + c
  · have hc0 : c = 0 := by omega
    have hji : j = i := by omega
    subst hc0 hji
    rw [if_pos he, if_pos hlt, if_pos (by omega)]
    rfl
  · rw [if_neg he, hc j c hj hcc]
    by_cases hji : j = i
    · subst hji
      have hc0 : c ≠ 0 := fun e => he (by omega)
      obtain ⟨c', rfl⟩ := Nat.exists_eq_succ_of_ne_zero hc0
      rfl
    · by_cases h1 : j < i
      · rw [if_pos h1, if_pos (by omega)]
      · rw [if_neg h1, if_neg (by omega)]
theorem LongAt.rd {w : World} {g L : Nat} (h : LongAt w g L L) (hL : L ≤ 9223372036854775807) : Rd kSt (fun _ => True) w (some ⟨g, 0, none⟩) L (List.replicate L exA) := by
  obtain ⟨cur, hg, hc⟩ := h
  refine ⟨by simp, hL, fun _ => ⟨g, 0, rfl, trivial, (Array.getElem?_eq_some_iff.1 hg).1, fun j hj => ?_⟩⟩
  rw [List.length_replicate] at hj
  refine ⟨stCells exA p0, ?_, fun i u hu => ?_⟩
  · rw [List.getElem_replicate]
    exact k_st (x := exA) (Rd.nil _ _ _ _ _ (by simp)) rfl rfl rfl
  · rw [cell_of_row _ _ _ _ _ _ hg]
    have hi : i < 14 := (List.getElem?_eq_some_iff.1 hu).1
    have := hc j i hj hi
    rw [if_pos hj] at this
    show cur[0 + j * 14 + i]? = some u
    rw [Nat.zero_add, this]
    exact hu
theorem run_mk14 (w : World) (kl kc : IntKind) (L C : Int) (n : Nat) (hL : L = n) (hC : C = n) (hn : n ≤ 1000000) :
    ∃ v' w', (Instr.makeSlice 27 (.int kl L) (.int kc C)).run Tryd.prog w = .ok v' w' ∧ LongAt w' w.heap.size n 0 ∧ w.grownBy w' none ∧ v' = .slice (some ⟨w.heap.size, 0, none⟩) n n := by
  subst hL hC
  obtain ⟨i, hi, h2, h3, h4⟩ := info_parts infoSt.hi
  obtain ⟨w', hr, ho, hg⟩ := run_make_full (P := Tryd.prog) w w.heap.size 27 36 i _ 14 infoSt.ht hi h2 h3 kl kc n (by rw [h4]; omega) (by simp [maxLen]; omega) (Nat.le_refl _)
  refine ⟨_, w', hr, ?_, hg, rfl⟩
  rcases ho.2 with ⟨h, _⟩ | ⟨g, cap, cur, hv, hb', hg', q1, q2, q3, q4⟩
  · cases h
  · cases hv
    refine ⟨cur, hg', fun j c hj hc => ?_⟩
    have hz : j * 14 + c < n * 14 := by omega
    have e1 : (cur.toList.take (n * 14))[j * 14 + c]? = cur[j * 14 + c]? := by rw [List.getElem?_take_of_lt hz, Array.getElem?_toList]
    rw [← e1, q4, if_neg (by omega)]
    rw [Array.getElem?_toList]
    unfold madeCells
    have hz2 : j * 14 + c < (Array.range (n * 14)).size := by simpa using hz
    rw [Array.getElem?_map, Array.getElem?_eq_getElem hz2]
    have hm : (j * 14 + c) % 14 = c := by omega
    simp only [Array.getElem_range, Option.map_some, Value.cells]
    show some (#[_, _, _, _, _, _, _, _, _, _, _, _, _, _][(j * 14 + c) % 14]!) = _
    rw [hm]
    match c, hc with
    | 0, _ | 1, _ | 2, _ | 3, _ | 4, _ | 5, _ | 6, _ | 7, _ | 8, _ | 9, _ | 10, _ | 11, _ | 12, _ | 13, _ => rfl
theorem long_chk (L : Nat) (hp : 0 < L) : chk (List.replicate L exA) = if 65536 < L then (0, 7) else (0, 0) := by
  unfold chk
  rw [List.length_replicate, if_neg (show ¬ L = 0 by omega), firstBad_none]
  intro j hj
  rw [List.getElem_replicate]
  rfl
set_option maxRecDepth 20000 in
set_option maxHeartbeats 4000000 in
theorem law_Long (n : Int) (w : World) (hK : Kinds w) (h0 : 0 ≤ n) (h1 : n < 256) :
    Calls Tryd.prog 4 #[.int .u8 n] w fun e w' => e = .returned (.bool true) ∧ Below w.heap.size w w' := by
  go_enter Tryd.func4, Tryd.ntmps4
  obtain ⟨L, hL, hL1, hL2⟩ : ∃ L : Nat, 65535 + n % 4 = (L : Int) ∧ 65535 ≤ L ∧ L ≤ 65538 := ⟨(65535 + n % 4).toNat, by omega, by omega, by omega⟩
  go_wp2_with (first
    | ((with_reducible refine gate_m 27 (.tmp 12) (.tmp 12) rfl ?_); refine wpList_make_ev _ rfl (.tmp 12) (.tmp 12) 27 rfl _ _ rfl rfl _ (run_mk14 w _ _ _ _ L rfl rfl (by omega)) ?_; rintro v' w1 ⟨ho, hg, rfl⟩
       have HL0 := Lib.hid ho
       have B1 := Lib.hid ((Below.refl w.heap.size w).grown hg (Nat.le_refl _) (fun k hk => by cases hk))
       clear ho hg)
    | fail)
  clear hL
  go_loopw [5] (fun i wr => ∃ j : Nat, j ≤ L ∧ i = .int .i64 j ∧ Hid (LongAt wr w.heap.size L j) ∧ Hid (Below w.heap.size w wr)) (fun i _ => L - (intOf i).toNat)
  case atStart => exact ⟨0, by omega, rfl, HL0.out, B1.out⟩
  case round =>
    obtain ⟨j, hj, rfl, HA, HB⟩ := hrel
    by_cases hlt : j < L
    · have u1 := HA.out.cell hlt (Nat.le_refl _)
      have u2 := HA.out.frozen (j * 14)
      go_wp2
      go_roundw
      case rel => exact ⟨j + 1, by omega, by go_num, HA.out.set hlt, HB.out.setCell (Nat.le_refl _) _⟩
      case measure => simp [intOf]; omega
    · obtain rfl : j = L := by omega
      have R := Lib.hid (HA.out.rd (by omega))
      have CC := Lib.hid (long_chk j (by omega))
      by_cases hb : 65536 < j
      · rw [if_pos hb] at CC
        have t1 : decide ((j : Int) ≤ 65536) = false := by simp; omega
        go_wp2_with fail
        have C1 := proof_Check _ (some ⟨w.heap.size, 0, none⟩) j (List.replicate j exA) wr R.out (hK.below HB.out)
        rw [CC.out, List.length_replicate] at C1
        refine C1.mono ?_
        rintro e w2 ⟨rfl, b2⟩
        have B2 := Lib.hid (below_both HB.out b2)
        clear C1 b2
        go_wp2_with fail
        refine (lives_true w2 (hK.below B2.out)).mono ?_
        rintro e w3 ⟨rfl, b3⟩
        go_wp2
        go_ret
        exact ⟨rfl, below_both B2.out b3⟩
      · rw [if_neg hb] at CC
        have t1 : decide ((j : Int) ≤ 65536) = true := by simp; omega
        go_wp2_with fail
        have C1 := proof_Check _ (some ⟨w.heap.size, 0, none⟩) j (List.replicate j exA) wr R.out (hK.below HB.out)
        rw [CC.out, List.length_replicate] at C1
        refine C1.mono ?_
        rintro e w2 ⟨rfl, b2⟩
        have B2 := Lib.hid (below_both HB.out b2)
        clear C1 b2
        go_wp2_with fail
        refine (lives_true w2 (hK.below B2.out)).mono ?_
        rintro e w3 ⟨rfl, b3⟩
        go_wp2
        go_ret
        exact ⟨rfl, below_both B2.out b3⟩
end Go.Proofs.Sat
