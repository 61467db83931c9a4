/- RgA, RgB, one after the other. -/
import Derived.Test.YtkomfeeimdlokaaDoorExF
import Derived.Test.YtkomfeeimdlokaaDoorLvR
import Derived.IntWalk
set_option linter.unusedVariables false
set_option linter.unusedSimpArgs false
/- The walks of slices.Equal at numbers, and of refine.shows. -/
namespace Go.Proofs.Sat
open Go Go.RowKit
set_option maxHeartbeats 400000 in
theorem eq_u64 (S1 S2 : Nat → Prop) (a1 a2 : Option Addr) (c1 c2 : Nat) (l1 l2 : List Int) (w : World) (h1 : Rd (Kd.int .u64) S1 w a1 c1 l1) (h2 : Rd (Kd.int .u64) S2 w a2 c2 l2) :
    Calls Tryd.prog 30 #[.slice a1 l1.length c1, .slice a2 l2.length c2] w fun e w' => e = .returned (.bool (decide (l1 = l2))) ∧ Drawn w w' := by
  have hl1 := h1.le
  have hl2 := h2.le
  go_enter Tryd.func30, Tryd.ntmps30
  by_cases he : l1.length = l2.length
  · have hb : (l1.length != l2.length) = false := by simp [he]
    have hb' : ((l1.length : Int) != (l2.length : Int)) = false := by simp [he]
    have HE := Lib.hid he
    clear he
    go_wp2
    go_loopw [13] (fun i wr => ∃ k : Nat, k ≤ l1.length ∧ i = .int .i64 k ∧ Hid (∀ i, i < k → l1.getD i 0 = l2.getD i 0) ∧ Drawn w wr) (fun i _ => l1.length - (intOf i).toNat)
    case atStart => exact ⟨0, by omega, rfl, fun i h => by omega, Drawn.refl _⟩
    case round =>
      obtain ⟨k, hk, rfl, hv, n, rfl⟩ := hrel
      by_cases hlt : k < l1.length
      · have hlt2 : k < l2.length := by have := HE.out; omega
        obtain ⟨b1, o1, rfl, _, _, hc1⟩ := h1.vals (by omega) 0
        obtain ⟨b2, o2, rfl, _, _, hc2⟩ := h2.vals (by omega) 0
        have d1 := hc1 k hlt
        have d2 := hc2 k hlt2
        have E1 := Lib.hid (getD_at l1 hlt)
        have E2 := Lib.hid (getD_at l2 hlt2)
        clear hc1 hc2 hb hb'
        go_wp2
        go_quiet (fail)
        by_cases hq : l1[k] = l2[k]
        · have hq' : (l1[k] != l2[k]) = false := by simp [hq]
          have HQ := Lib.hid hq
          clear hq
          go_wp2
          go_roundw
          case rel =>
            refine ⟨k + 1, by omega, by go_num, fun i h => ?_, by first | exact Drawn.of _ _ | exact Drawn.step (Drawn.of _ _) _⟩
            rcases Nat.lt_or_ge i k with h' | h'
            · exact hv.out i h'
            · obtain rfl : i = k := by omega
              rw [E1.out, E2.out, HQ.out]
          case measure => simp [intOf]; omega
        · have hq' : (l1[k] != l2[k]) = true := by simp [hq]
          have HQ := Lib.hid hq
          clear hq
          go_wp2
          go_ret
          refine ⟨ret_bool ?_, by first | exact Drawn.of _ _ | exact Drawn.step (Drawn.of _ _) _⟩
          symm
          rw [decide_eq_false_iff_not]
          rintro rfl
          exact HQ.out rfl
      · clear hb hb'
        go_wp2
        go_ret
        refine ⟨ret_bool ?_, Drawn.of _ _⟩
        symm
        rw [decide_eq_true_eq, eq_iff_places]
        exact ⟨HE.out, fun i hi => hv.out i (by omega)⟩
  · have hb : (l1.length != l2.length) = true := by simp [he]
    have hb' : ((l1.length : Int) != (l2.length : Int)) = true := by simp; omega
    go_wp2
    go_ret
    refine ⟨ret_bool ?_, Drawn.refl _⟩
    symm
    rw [decide_eq_false_iff_not]
    rintro rfl
    exact he rfl
set_option maxHeartbeats 400000 in
theorem eq_ints (S1 S2 : Nat → Prop) (a1 a2 : Option Addr) (c1 c2 : Nat) (l1 l2 : List Int) (w : World) (h1 : Rd (Kd.int .i64) S1 w a1 c1 l1) (h2 : Rd (Kd.int .i64) S2 w a2 c2 l2) :
    Calls Tryd.prog 26 #[.slice a1 l1.length c1, .slice a2 l2.length c2] w fun e w' => e = .returned (.bool (decide (l1 = l2))) ∧ Drawn w w' := by
  have hl1 := h1.le
  have hl2 := h2.le
  go_enter Tryd.func26, Tryd.ntmps26
  by_cases he : l1.length = l2.length
  · have hb : (l1.length != l2.length) = false := by simp [he]
    have hb' : ((l1.length : Int) != (l2.length : Int)) = false := by simp [he]
    have HE := Lib.hid he
    clear he
    go_wp2
    go_loopw [13] (fun i wr => ∃ k : Nat, k ≤ l1.length ∧ i = .int .i64 k ∧ Hid (∀ i, i < k → l1.getD i 0 = l2.getD i 0) ∧ Drawn w wr) (fun i _ => l1.length - (intOf i).toNat)
    case atStart => exact ⟨0, by omega, rfl, fun i h => by omega, Drawn.refl _⟩
    case round =>
      obtain ⟨k, hk, rfl, hv, n, rfl⟩ := hrel
      by_cases hlt : k < l1.length
      · have hlt2 : k < l2.length := by have := HE.out; omega
        obtain ⟨b1, o1, rfl, _, _, hc1⟩ := h1.vals (by omega) 0
        obtain ⟨b2, o2, rfl, _, _, hc2⟩ := h2.vals (by omega) 0
        have d1 := hc1 k hlt
        have d2 := hc2 k hlt2
        have E1 := Lib.hid (getD_at l1 hlt)
        have E2 := Lib.hid (getD_at l2 hlt2)
        clear hc1 hc2 hb hb'
        go_wp2
        go_quiet (fail)
        by_cases hq : l1[k] = l2[k]
        · have hq' : (l1[k] != l2[k]) = false := by simp [hq]
          have HQ := Lib.hid hq
          clear hq
          go_wp2
          go_roundw
          case rel =>
            refine ⟨k + 1, by omega, by go_num, fun i h => ?_, by first | exact Drawn.of _ _ | exact Drawn.step (Drawn.of _ _) _⟩
            rcases Nat.lt_or_ge i k with h' | h'
            · exact hv.out i h'
            · obtain rfl : i = k := by omega
              rw [E1.out, E2.out, HQ.out]
          case measure => simp [intOf]; omega
        · have hq' : (l1[k] != l2[k]) = true := by simp [hq]
          have HQ := Lib.hid hq
          clear hq
          go_wp2
          go_ret
          refine ⟨ret_bool ?_, by first | exact Drawn.of _ _ | exact Drawn.step (Drawn.of _ _) _⟩
          symm
          rw [decide_eq_false_iff_not]
          rintro rfl
          exact HQ.out rfl
      · clear hb hb'
        go_wp2
        go_ret
        refine ⟨ret_bool ?_, Drawn.of _ _⟩
        symm
        rw [decide_eq_true_eq, eq_iff_places]
        exact ⟨HE.out, fun i hi => hv.out i (by omega)⟩
  · have hb : (l1.length != l2.length) = true := by simp [he]
    have hb' : ((l1.length : Int) != (l2.length : Int)) = true := by simp; omega
    go_wp2
    go_ret
    refine ⟨ret_bool ?_, Drawn.refl _⟩
    symm
    rw [decide_eq_false_iff_not]
    rintro rfl
    exact he rfl
/-- Does a state show that d does not refine c? -/
def showsB (c d : Cd) (l : List Int) : Bool := decide (errR c l = 0) && (decide (errR d l ≠ 0) || !(decide (outsL c l = outsL d l)))
set_option maxRecDepth 20000 in
set_option maxHeartbeats 2000000 in
theorem refine_shows (S Sl : Nat → Prop) (c d : Cd) (p q : CdAt) (l : List Int) (a : Option Addr) (ca : Nat) (w : World) (hK : IsaT w) (h : CdRd S w c p) (h' : CdRd S w d q) (ho : c.out.length ≤ 20) (ho' : d.out.length ≤ 20) (himm : ∀ x ∈ c.ins, 0 ≤ x.imm ∧ x.imm < 18446744073709551616) (himm' : ∀ x ∈ d.ins, 0 ≤ x.imm ∧ x.imm < 18446744073709551616) (hr : Rd (Kd.int .u64) Sl w a ca l) (hl : ∀ x ∈ l, 0 ≤ x ∧ x < 18446744073709551616) :
    Calls Tryd.prog 18 #[cdVal c p, cdVal d q, .slice a l.length ca] w fun e w' => e = .returned (.bool (showsB c d l)) ∧ Below w.heap.size w w' := by
  have CX := fun W (b : Below w.heap.size w W) => exec_Outs S Sl c p l a ca W (hK.below b) (h.frame (Same.below b)) ho himm (hr.frame (Same.below b)) hl
  have CY := fun W (b : Below w.heap.size w W) => exec_Outs S Sl d q l a ca W (hK.below b) (h'.frame (Same.below b)) ho' himm' (hr.frame (Same.below b)) hl
  obtain ⟨ia, ic, oa, oc⟩ := p
  obtain ⟨ja, jc, qa, qc⟩ := q
  have BW := Lib.hid (below_alloc (below_alloc (Below.refl w.heap.size w) (.cells (cellsC c ia ic oa oc) 38)) (.cells (cellsC d ja jc qa qc) 38))
  have KC := Lib.hid (block_alloc (heap_alloc_new w (.cells (cellsC c ia ic oa oc) 38)) (.cells (cellsC d ja jc qa qc) 38))
  have KD := Lib.hid (block_at1 w (.cells (cellsC c ia ic oa oc) 38) (.cells (cellsC d ja jc qa qc) 38))
  have HX := Lib.hid CX
  have HY := Lib.hid CY
  have hol := h.out.le
  have hil := h.ins.le
  have hql := h'.out.le
  have hjl := h'.ins.le
  have hll := hr.le
  clear h h' hr hl himm himm' CX CY
  unfold cdVal
  go_enter Tryd.func18, Tryd.ntmps18
  obtain ⟨z0, z1, z2, z3⟩ := cd_block4 KC.out
  go_wp2_with fail
  refine (HX.out _ BW.out).mono ?_
  rintro e w2 ⟨v2, rfl, o2, b2⟩
  obtain ⟨a2, c2, rfl⟩ := o2.form
  have B2 := Lib.hid (below_both BW.out b2)
  have KD2 := Lib.hid (block_below b2 KD.out)
  have O2 := Lib.hid o2
  clear b2 o2 z0 z1 z2 z3
  by_cases he : errR c l = 0
  case neg =>
    have t0 : (errR c l != 0) = true := by simpa using he
    have HE : Hid (showsB c d l = false) := by show _ = _; unfold showsB; rw [decide_eq_false he]; rfl
    clear he
    go_wp2_with fail
    go_ret
    exact ⟨ret_bool (by rw [HE.out]), B2.out⟩
  have t0 : (errR c l != 0) = false := by simpa using he
  have HE0 := Lib.hid he
  clear he
  obtain ⟨y0, y1, y2, y3⟩ := cd_block4 KD2.out
  go_wp2_with fail
  refine (HY.out _ B2.out).mono ?_
  rintro e w3 ⟨v3, rfl, o3, b3⟩
  obtain ⟨a3, c3, rfl⟩ := o3.form
  have B3 := Lib.hid (below_both B2.out b3)
  have O3 := Lib.hid o3
  have O2' := Lib.hid (O2.out.below b3)
  clear b3 o3 y0 y1 y2 y3
  by_cases he : errR d l = 0
  case neg =>
    have t1 : (errR d l != 0) = true := by simpa using he
    have HE : Hid (showsB c d l = true) := by show _ = _; unfold showsB; rw [decide_eq_true HE0.out, decide_eq_true he]; rfl
    clear he
    go_wp2_with fail
    go_ret
    exact ⟨ret_bool (by rw [HE.out]), B3.out⟩
  have t1 : (errR d l != 0) = false := by simpa using he
  have HE : Hid (showsB c d l = !(decide (outsL c l = outsL d l))) := by show _ = _; unfold showsB; rw [decide_eq_true HE0.out, decide_eq_false (not_not_intro he)]; simp
  have CE := Lib.hid (eq_u64 _ _ a2 a3 c2 c3 (outsL c l) (outsL d l) w3 (Own.rd' O2'.out) (Own.rd' O3.out))
  generalize decide (outsL c l = outsL d l) = bb at *
  clear he
  go_wp2_with fail
  refine CE.out.mono ?_
  rintro e w4 ⟨rfl, d4⟩
  have B4 := Lib.hid (below_both B3.out (d4.below _))
  clear d4
  go_wp2_with fail
  go_ret
  exact ⟨ret_bool (by rw [HE.out]), B4.out⟩
end Go.Proofs.Sat
/- The walk of refine.State. -/
namespace Go.Proofs.Sat
open Go Go.RowKit
def widE (W : Int) : Nat := (min (max W 1) 64).toNat
def numE (N : Int) : Nat := (min (max N 0) 8).toNat
def ownE (R : Nat) (L : List Int) : List Int := L.filter (fun r => decide (0 ≤ r) && decide (r < (R : Int)))
def bitsE (n m : Nat) : Nat := if m < 16 then min 16 (n * m) else 16
def idxE (b : Nat) (idx : Int) : Nat := (idx % 18446744073709551616).toNat % 2 ^ b
/-- The state with an index: each register's part of the number. -/
def stFold (n x : Nat) : Nat → List Int → (Nat → Nat) → (Nat → Nat)
  | _, [], s => s
  | j, r :: l, s => stFold n x (j + 1) l (updN s r.toNat (x / 2 ^ (j * n) % 2 ^ n))
def stateE (L : List Int) (W N idx : Int) : Nat → Nat := stFold (widE W) (idxE (bitsE (widE W) (ownE (numE N) L).length) idx) 0 (ownE (numE N) L) (fun _ => 0)
theorem updN_upd (s : Nat → Nat) (k u v : Nat) : updN (updN s k u) k v = updN s k v := by
  funext j
  unfold updN
  by_cases e : j = k
  · simp only [if_pos e]
  · simp only [if_neg e]
theorem ownE_mem {R : Nat} {L : List Int} {r : Int} (h : r ∈ ownE R L) : 0 ≤ r ∧ r < (R : Int) := by
  unfold ownE at h
  have := (List.mem_filter.1 h).2
  simpa using this
theorem ownE_snoc (R : Nat) (L : List Int) (r : Int) : ownE R (L ++ [r]) = if 0 ≤ r ∧ r < (R : Int) then ownE R L ++ [r] else ownE R L := by
  unfold ownE
  rw [List.filter_append]
  by_cases h : 0 ≤ r ∧ r < (R : Int)
  · rw [if_pos h]; simp [h]
  · rw [if_neg h]
    have : (decide (0 ≤ r) && decide (r < (R : Int))) = false := by
      rw [Bool.and_eq_false_iff]
      by_cases h0 : 0 ≤ r
      · exact .inr (decide_eq_false (fun h1 => h ⟨h0, h1⟩))
      · exact .inl (decide_eq_false h0)
    simp [this]
theorem ownE_len (R : Nat) (L : List Int) : (ownE R L).length ≤ L.length := List.length_filter_le _ _
theorem bitsE_le (n m : Nat) : bitsE n m ≤ 16 := by unfold bitsE; split <;> omega
theorem idxE_lt (b : Nat) (idx : Int) : idxE b idx < 2 ^ b := Nat.mod_lt _ (Nat.two_pow_pos b)
theorem mask_word {b : Nat} (hb : b ≤ 63) : IntKind.u64.wrap (IntKind.u64.wrap (2 ^ b) - 1) = ((2 ^ b - 1 : Nat) : Int) := by
  have hc : ((2 : Int) ^ b) = ((2 ^ b : Nat) : Int) := by simp
  have hp := pow_le63 hb
  have hp0 := Nat.two_pow_pos b
  rw [hc, wrap_nat, Nat.mod_eq_of_lt (by omega), wrap_int]
  omega
theorem idx_word {b : Nat} (idx : Int) (hb : b ≤ 16) : bits BinOp.and IntKind.u64 (IntKind.u64.wrap idx) (IntKind.u64.wrap (IntKind.u64.wrap (2 ^ b) - 1)) = ((idxE b idx : Nat) : Int) := by
  have h0 : 0 ≤ idx % 18446744073709551616 := Int.emod_nonneg _ (by omega)
  have h1 : idx % 18446744073709551616 < 18446744073709551616 := Int.emod_lt_of_pos _ (by omega)
  have e : IntKind.u64.wrap idx = (((idx % 18446744073709551616).toNat : Nat) : Int) := by rw [wrap_int]; omega
  rw [e, mask_word (by omega), and_mask b _ (by omega) (by omega) rfl]
  rfl
set_option maxRecDepth 20000 in
set_option maxHeartbeats 4000000 in
theorem refine_State (Sl : Nat → Prop) (L : List Int) (a : Option Addr) (ca : Nat) (W N idx : Int) (w : World) (hr : Rd (Kd.int .i64) Sl w a ca L) (hL : L.length ≤ 1000) :
    Calls Tryd.prog 7 #[.slice a L.length ca, .int .i64 W, .int .i64 N, .int .i64 idx] w fun e w' => ∃ g, e = .returned (.slice (some ⟨g, 0, none⟩) (numE N) (numE N)) ∧ w.heap.size ≤ g ∧ St8 w' g (numE N) (stateE L W N idx) ∧ Below w.heap.size w w' := by
  obtain ⟨n, hn⟩ : ∃ n, n = widE W := ⟨_, rfl⟩
  obtain ⟨R, hR⟩ : ∃ R, R = numE N := ⟨_, rfl⟩
  have hw1 : min (max W 1) 64 = (n : Int) := by rw [hn]; unfold widE; omega
  have hn1 : min (max N 0) 8 = (R : Int) := by rw [hR]; unfold numE; omega
  have n1 : 1 ≤ n := by omega
  have n2 : n ≤ 64 := by omega
  have R8 : R ≤ 8 := by omega
  have HST : Hid (stateE L W N idx = stFold n (idxE (bitsE n (ownE R L).length) idx) 0 (ownE R L) (fun _ => 0)) := by show _ = _; unfold stateE; rw [← hn, ← hR]
  have HR := Lib.hid hr
  have HRR := Lib.hid hR
  clear hr hn hR
  go_enter Tryd.func7, Tryd.ntmps7
  go_wp2_with (first
    | ((with_reducible refine gate_m 25 (.tmp 23) (.tmp 23) rfl ?_); refine wpList_make_ev _ rfl (.tmp 23) (.tmp 23) 25 rfl _ _ rfl rfl _ (run_mkR _ _ _ _ _ R rfl rfl (by omega)) ?_; rintro v' w1 ⟨hG, hg, rfl⟩; have G1 := Lib.hid hG; have B1 := Lib.hid ((Below.refl w.heap.size w).grown hg (Nat.le_refl _) (fun k hk => by cases hk)); clear hG hg)
    | fail)
  go_loopw [10, 27] (fun v i wr => ∃ k : Nat, k ≤ L.length ∧ i = .int .i64 k ∧ Hid (Own (Kd.int .i64) 3 NoS wr w1.heap.size v (ownE R (L.take k))) ∧ Hid (Below w1.heap.size w1 wr)) (fun _ i _ => L.length - (intOf i).toNat)
  case atStart => exact ⟨0, by omega, rfl, Own.nil _ _ _ _ _, Below.refl _ _⟩
  case round =>
    obtain ⟨k, hk, rfl, O2, B2⟩ := hrel
    by_cases hlt : k < L.length
    · have hkl : (k : Int) < (L.length : Int) := by omega
      obtain ⟨ob, oo, rfl, -, -, hc⟩ := ((HR.out.frame (Same.below B1.out)).frame (Same.below B2.out)).vals (by omega) 0
      have d5 := hc k hlt
      rw [getD_at _ hlt] at d5
      have HT : Hid (ownE R (L.take (k + 1)) = if 0 ≤ L[k] ∧ L[k] < (R : Int) then ownE R (L.take k) ++ [L[k]] else ownE R (L.take k)) := by show _ = _; rw [List.take_succ_eq_append_getElem hlt, ownE_snoc]
      have hXl : (ownE R (L.take k)).length ≤ 1000 := by have h1 := ownE_len R (L.take k); rw [List.length_take] at h1; omega
      clear hc
      generalize L[k] = r at *
      generalize ownE R (L.take k) = X at *
      obtain ⟨a4, c4, rfl⟩ := O2.out.form
      by_cases h0 : 0 ≤ r
      · by_cases h1 : r < (R : Int)
        · rw [if_pos ⟨h0, h1⟩] at HT
          have t0 : decide (0 ≤ r) = true := decide_eq_true h0
          have t1 : decide (r < (R : Int)) = true := decide_eq_true h1
          clear h0 h1
          go_wp2_with (first
            | (at_builtin; refine wpList_append_ev _ rfl _ _ 22 rfl _ _ rfl rfl _ (run_app1 wr infoInt rfl _ O2.out 3 [.int .i64 _] _ rfl (by omega) (by omega) B2.out.size) ?_; rintro n2 w5 ⟨ow2, g2, v2, _⟩; have B5 := Lib.hid (B2.out.grown g2 B2.out.size (fun k hk => (O2.out.lt k hk).1)); have O5 := Lib.hid ow2; clear ow2 g2 v2)
            | fail)
          go_roundw
          case rel => exact ⟨k + 1, by omega, by go_num, by rw [HT.out]; exact O5.out, B5.out⟩
          case measure => simp [intOf]; omega
        · rw [if_neg (fun h => h1 h.2)] at HT
          have t0 : decide (0 ≤ r) = true := decide_eq_true h0
          have t1 : decide (r < (R : Int)) = false := decide_eq_false h1
          clear h0 h1
          go_wp2_with fail
          go_roundw
          case rel => exact ⟨k + 1, by omega, by go_num, by rw [HT.out]; exact O2.out, B2.out⟩
          case measure => simp [intOf]; omega
      · rw [if_neg (fun h => h0 h.1)] at HT
        have t0 : decide (0 ≤ r) = false := decide_eq_false h0
        clear h0
        go_wp2_with fail
        go_roundw
        case rel => exact ⟨k + 1, by omega, by go_num, by rw [HT.out]; exact O2.out, B2.out⟩
        case measure => simp [intOf]; omega
    · have hnl : ¬ ((k : Int) < (L.length : Int)) := by omega
      have h5 := O2.out
      rw [show k = L.length by omega, List.take_length] at h5
      have O5 := Lib.hid h5
      have HOM : Hid (∀ r ∈ ownE R L, 0 ≤ r ∧ r < (R : Int)) := fun r hr => ownE_mem hr
      have hml := ownE_len R L
      clear h5 hlt hk O2
      generalize ownE R L = X at *
      obtain ⟨a4, c4, rfl⟩ := O5.out.form
      obtain ⟨b, hb⟩ : ∃ b, b = bitsE n X.length := ⟨_, rfl⟩
      have hb16 := bitsE_le n X.length
      rw [← hb] at hb16 HST
      have HB := Lib.hid hb
      clear hb
      obtain ⟨w2, hw2⟩ : ∃ w2, w2 = wr := ⟨_, rfl⟩
      subst hw2
      go_upto_if 45 with fail
      go_cut [13] (fun s wx => s = .int .i64 (b : Int) ∧ wx = w2)
      case first =>
        have hw64 : wrap64 ((n : Int) * (X.length : Int)) = ((n * X.length : Nat) : Int) := by
          have h1 : n * X.length ≤ 64 * 1000 := Nat.mul_le_mul n2 (by omega)
          rw [← Int.natCast_mul, IntWalk.wrap64_in _ (by omega)]
        by_cases h16 : X.length < 16
        · have hbe : min 16 ((n * X.length : Nat) : Int) = (b : Int) := by rw [HB.out]; unfold bitsE; rw [if_pos h16]; omega
          have h16' : (X.length : Int) < 16 := by omega
          go_wp2_with fail
          go_meet
          case rel => exact ⟨by first | rw [hw64, hbe] | (show Value.int .i64 (min 16 ((n : Int) * (X.length : Int))) = _; rw [← Int.natCast_mul, hbe]), rfl⟩
        · have hbe : b = 16 := by rw [HB.out]; unfold bitsE; rw [if_neg h16]
          have h16' : ¬ (X.length : Int) < 16 := by omega
          clear HST
          go_wp2_with fail
          go_meet
          case rel => exact ⟨by rw [hbe]; rfl, rfl⟩
      case rest =>
        obtain ⟨rfl, hwc⟩ := hcut
        subst hwc
        have hb0 : (0 : Int) ≤ (b : Int) := by omega
        have HX := Lib.hid (idx_word idx hb16)
        have hx := idxE_lt b idx
        have hx16 : idxE b idx < 65536 := Nat.lt_of_lt_of_le hx (by have := Nat.pow_le_pow_right (show 0 < 2 by omega) hb16; simpa using this)
        have HX16 := Lib.hid hx16
        clear hx hx16
        go_wp2_with fail
        rw [HX.out]
        clear HX
        generalize idxE b idx = x at *
        have HSZ1 := Lib.hid G1.out.lt
        have G2 := Lib.hid (G1.out.below B2.out)
        have B3 := Lib.hid (below_both B1.out B2.out)
        go_loopw [60] (fun i wr => ∃ (j : Nat) (s : Nat → Nat), j ≤ X.length ∧ i = .int .i64 j ∧ Hid (stFold n x 0 X (fun _ => 0) = stFold n x j (X.drop j) s) ∧ Hid (St8 wr w.heap.size R s) ∧ Hid (Own (Kd.int .i64) 3 NoS wr w1.heap.size (.slice a4 X.length c4) X) ∧ Hid (Below w.heap.size w wr)) (fun i _ => X.length - (intOf i).toNat)
        case atStart => exact ⟨0, _, by omega, rfl, by show _ = _; rw [List.drop_zero], G2.out, O5.out, B3.out⟩
        case round =>
          obtain ⟨j, s, hj, rfl, HF, G3, O6, B4⟩ := hrel
          by_cases hlt : j < X.length
          · have hjl : (j : Int) < (X.length : Int) := by omega
            obtain ⟨ob, oo, rfl, -, -, hc⟩ := (Own.rd' O6.out).vals (by omega) 0
            have d5 := hc j hlt
            rw [getD_at _ hlt] at d5
            have hr := HOM.out _ (List.getElem_mem hlt)
            have HFS : Hid (stFold n x j (X.drop j) s = stFold n x (j + 1) (X.drop (j + 1)) (updN s (X[j]).toNat (x / 2 ^ (j * n) % 2 ^ n))) := by show _ = _; rw [List.drop_eq_getElem_cons hlt]; rfl
            clear hc
            generalize X[j] = r at *
            obtain ⟨hr0, hr1⟩ := hr
            obtain ⟨m, rfl⟩ := Int.eq_ofNat_of_zero_le hr0
            rw [Int.toNat_natCast] at HFS
            have hmR : m < R := by omega
            have hmR' : (m : Int) < (R : Int) := hr1
            clear hr1
            obtain ⟨J, hJ⟩ : ∃ J, J = j * n := ⟨_, rfl⟩
            rw [← hJ] at HFS
            have hJb : J ≤ 64 * 1000 := by rw [hJ, Nat.mul_comm]; exact Nat.mul_le_mul n2 (by omega)
            have hJj : j ≤ J := by rw [hJ]; exact Nat.le_mul_of_pos_right j (by omega)
            have HWJ : Hid (wrap64 ((j : Int) * (n : Int)) = (J : Int)) := by show _ = _; rw [← Int.natCast_mul, ← hJ, IntWalk.wrap64_in _ (by omega)]
            obtain ⟨s1, s2, s3⟩ := G3.out.at hmR
            have US := Lib.hid s3
            have UO : Hid (∀ W', Same (fun b => b ≠ w.heap.size) wr W' → Own (Kd.int .i64) 3 NoS W' w1.heap.size (.slice (some ⟨ob, oo, none⟩) X.length c4) X) := fun W' hs => O6.out.same ⟨hs.1, fun b hb hbl => hs.2 b (by rcases hb with hb | hb; (· exact hb.elim); (· have := (O6.out.lt b hb.symm).1; have := HSZ1.out; show b ≠ w.heap.size; omega)) hbl⟩
            clear s3 hJ
            by_cases hjj : j < 16 ∧ J < 16
            · obtain ⟨hj16, hJ16⟩ := hjj
              have t0 : decide (j < 16) = true := decide_eq_true hj16
              have t1 : decide (J < 16) = true := decide_eq_true hJ16
              have t1i : decide ((J : Int) < 16) = true := decide_eq_true (by omega)
              have t0i : decide ((j : Int) < 16) = true := decide_eq_true (by omega)
              have hJ64 : min J 64 = J := by omega
              have HY : Hid ((x : Int) / 2 ^ min J 64 = ((x / 2 ^ J : Nat) : Int)) := by show _ = _; rw [hJ64]; exact shr_nat x J (by omega)
              have HYL : Hid (x / 2 ^ J < 18446744073709551616) := Nat.lt_of_le_of_lt (Nat.div_le_self _ _) (by have := HX16.out; omega)
              generalize x / 2 ^ J = y at *
              have hJ0 : (0 : Int) ≤ (J : Int) := by omega
              have hwj := HWJ.out
              have HJ64 := Lib.hid hJ64
              clear hJ64 hJ0 hJ16 hJj hJb
              go_upto_region 19 with fail
              have hY := HY.out
              go_upto_region 20 with fail
              clear hwj
              clear hY
              have US2 := Lib.hid ((US.out 0).at hmR).2.2
              have VS : Hid (St8 ((wr.setCell ⟨w.heap.size, m, none⟩ (.int .u64 0)).setCell ⟨w.heap.size, m, none⟩ (.int .u64 (y : Int))) w.heap.size R (updN s m y)) := by
                have h2 := US2.out y
                rw [updN_upd] at h2
                exact h2
              have VB : Hid (Below w.heap.size w ((wr.setCell ⟨w.heap.size, m, none⟩ (.int .u64 0)).setCell ⟨w.heap.size, m, none⟩ (.int .u64 (y : Int)))) := (B4.out.setCell (Nat.le_refl _) _).setCell (Nat.le_refl _) _
              have VSA : Hid (Same (fun b => b ≠ w.heap.size) wr ((wr.setCell ⟨w.heap.size, m, none⟩ (.int .u64 0)).setCell ⟨w.heap.size, m, none⟩ (.int .u64 (y : Int)))) := (Same.setCell _ _ (fun b hb => hb)).trans (Same.setCell _ _ (fun b hb => hb))
              generalize (wr.setCell ⟨w.heap.size, m, none⟩ (.int .u64 0)).setCell ⟨w.heap.size, m, none⟩ (.int .u64 (y : Int)) = V at *
              clear s1 s2 d5 US US2
              by_cases h64 : n < 64
              · have hn64 : (n : Int) < 64 := by omega
                obtain ⟨v1, v2, v3⟩ := VS.out.at hmR
                have U3 := Lib.hid v3
                have HAN : Hid (bits BinOp.and IntKind.u64 (y : Int) (IntKind.u64.wrap (IntKind.u64.wrap (2 ^ n) - 1)) = ((y % 2 ^ n : Nat) : Int)) := by show _ = _; rw [mask_word (by omega), and_mask n y n2 HYL.out rfl]
                have vy : updN s m y m = y := by unfold updN; rw [if_pos rfl]
                rw [vy] at v1
                clear v3 vy
                go_wp2_with fail
                go_still_tail 9, (by kernel_rfl)
                change wpList _ _ _ _ _ V.drew
                go_wp2_with fail
                go_roundw
                case rel =>
                  rw [HAN.out]
                  have U4 := U3.out (y % 2 ^ n)
                  rw [updN_upd] at U4
                  have B5 := (show Below w.heap.size w (V.setCell ⟨w.heap.size, m, none⟩ (.int .u64 ((y % 2 ^ n : Nat) : Int))) from VB.out.setCell (Nat.le_refl _) _)
                  have S5 : Same (fun b => b ≠ w.heap.size) wr (V.setCell ⟨w.heap.size, m, none⟩ (.int .u64 ((y % 2 ^ n : Nat) : Int))) := VSA.out.trans (Same.setCell _ _ (fun b hb => hb))
                  have D5 := Drawn.of (V.setCell ⟨w.heap.size, m, none⟩ (.int .u64 ((y % 2 ^ n : Nat) : Int))) 1
                  have O7 := (UO.out _ S5).same (Same.below (D5.below _))
                  exact ⟨j + 1, _, by omega, by go_num, HF.out.trans HFS.out, U4.drawn D5, O7, below_both B5 (D5.below _)⟩
                case measure => simp [intOf]; omega
              · have hn64 : ¬ (n : Int) < 64 := by omega
                have HYN : Hid (y % 2 ^ n = y) := by show _ = _; rw [show n = 64 by omega]; exact Nat.mod_eq_of_lt HYL.out
                go_wp2_with fail
                go_roundw
                case rel => exact ⟨j + 1, updN s m y, by omega, by go_num, by show _ = _; rw [HF.out, HFS.out, HYN.out], VS.out, UO.out _ VSA.out, VB.out⟩
                case measure => simp [intOf]; omega
            · have HZ : Hid (x / 2 ^ J % 2 ^ n = 0) := by
                show _ = _
                have h16 : 16 ≤ J := by omega
                have h1 : 65536 ≤ 2 ^ J := Nat.pow_le_pow_right (show 0 < 2 by omega) h16
                rw [Nat.div_eq_of_lt (Nat.lt_of_lt_of_le HX16.out h1), Nat.zero_mod]
              rw [HZ.out] at HFS
              by_cases hj16 : j < 16
              · have t0 : decide ((j : Int) < 16) = true := decide_eq_true (by omega)
                have t1 : decide ((J : Int) < 16) = false := decide_eq_false (by omega)
                have hwj := HWJ.out
                clear hjj hJb hJj
                go_wp2_with fail
                go_roundw
                case rel => exact ⟨j + 1, _, by omega, by go_num, HF.out.trans HFS.out, US.out 0, UO.out _ (Same.setCell _ _ (fun b hb => hb)), B4.out.setCell (Nat.le_refl _) _⟩
                case measure => simp [intOf]; omega
              · have t0 : decide ((j : Int) < 16) = false := decide_eq_false (by omega)
                clear hjj hJb hJj HWJ
                go_wp2_with fail
                go_roundw
                case rel => exact ⟨j + 1, _, by omega, by go_num, HF.out.trans HFS.out, US.out 0, UO.out _ (Same.setCell _ _ (fun b hb => hb)), B4.out.setCell (Nat.le_refl _) _⟩
                case measure => simp [intOf]; omega
          · have hnl2 : ¬ ((j : Int) < (X.length : Int)) := by omega
            rw [show j = X.length by omega, List.drop_length] at HF
            clear hlt hj
            go_wp2_with fail
            go_ret
            refine ⟨w.heap.size, ?_, Nat.le_refl _, ?_, B4.out⟩
            · rw [← HRR.out]; rfl
            · rw [← HRR.out, HST.out, HF.out]; exact G3.out
end Go.Proofs.Sat
