/- LvQ, LvQ2, LvQ3, LvQ4, one after the other. -/
import Derived.Test.YthffbnfbjjnabaaDoorLvK
import Derived.Test.YthffbnfbjjnabaaDoorLvT
import Derived.Test.YthffbnfbjjnabaaDoorLvP
set_option linter.unusedVariables false
set_option linter.unusedSimpArgs false
/- The walks of the reference's used, Before, Inputs. -/
namespace Go.Proofs.Sat
open Go Go.RowKit
set_option maxRecDepth 20000 in
set_option maxHeartbeats 2000000 in
theorem ref50_used (S : Nat → Prop) (c : Cd) (p : CdAt) (i m : Nat) (w : World) (h : CdRd S w c p) (hi : i ≤ c.ins.length) : Calls Tryd.prog 54 #[cdVal c p, .int .i64 (i : Int), .int .i64 (m : Int)] w fun e w' => e = .returned (.bool (stateR c.out (c.ins.drop i) m)) ∧ Below w.heap.size w w' := by
  obtain ⟨ia, ic, oa, oc⟩ := p
  have HI : Hid (Rd kIn S w ia ic c.ins) := h.ins
  have HO : Hid (Rd (Kd.int .i64) S w oa oc c.out) := h.out
  have hil := h.ins.le
  have hol := h.out.le
  have BW := Lib.hid (below_alloc (Below.refl w.heap.size w) (.cells (cellsC c ia ic oa oc) 25))
  have KC := Lib.hid (heap_alloc_new w (.cells (cellsC c ia ic oa oc) 25))
  unfold cdVal
  go_enter Tryd.func54, Tryd.ntmps54
  go_wp2
  go_loopw [7] (fun v wr => ∃ k : Nat, i ≤ k ∧ k ≤ c.ins.length ∧ v = .int .i64 k ∧ Hid (stateR c.out (c.ins.drop i) m = stateR c.out (c.ins.drop k) m) ∧ Hid (Below w.heap.size w wr) ∧ Hid (wr.heap[w.heap.size]? = some (.cells (cellsC c ia ic oa oc) 25 (0, 0)))) (fun v _ => c.ins.length - (intOf v).toNat)
  case atStart => exact ⟨i, by omega, hi, rfl, rfl, BW.out, KC.out⟩
  case round =>
    obtain ⟨k, hk1, hk2, rfl, HV, HB, KC1⟩ := hrel
    obtain ⟨z0, z1, z2, z3⟩ := cd_block4 KC1.out
    by_cases hlt : k < c.ins.length
    · obtain ⟨b, o, rfl, -, hbw0, hat0⟩ := in_elem HI.out hlt
      have HAT0 := Lib.hid hat0
      obtain ⟨c0, c1, c2, c3, c4, c5⟩ := hat0.frame (w' := wr) (HB.out.block b hbw0)
      have HS2 := Lib.hid (stateR_drop c.out c.ins hlt)
      clear hat0
      generalize c.ins[k] = x at *
      go_wp2_with fail
      refine (ref50_Uses x wr).mono ?_
      rintro e w2 ⟨ua, uc, rfl, ru, b2⟩
      have B2 := Lib.hid (below_both HB.out b2)
      have KC2 := Lib.hid (block_below b2 KC1.out)
      have CH := Lib.hid (ref50_Has _ ua uc (usesI x) (m : Int) w2 ru)
      clear ru b2 c0 c1 c2 c3 c4 c5 z0 z1 z2 z3
      go_wp2_with fail
      refine CH.out.mono ?_
      rintro e w3 ⟨rfl, d3⟩
      have B3 := Lib.hid (B2.out.trans (d3.below _))
      have KC3 := Lib.hid (d3.heap KC2.out)
      clear d3 CH
      by_cases hu : (m : Int) ∈ usesI x
      · have HE : Hid (stateR c.out (c.ins.drop i) m = true) := by show _ = _; rw [HV.out, HS2.out]; simp [backS, hu]
        have t0 : decide ((m : Int) ∈ usesI x) = true := decide_eq_true hu
        rw [t0]
        clear hu t0
        go_wp2_with fail
        go_ret
        exact ⟨ret_bool HE.out.symm, B3.out⟩
      · have t0 : decide ((m : Int) ∈ usesI x) = false := decide_eq_false hu
        have HU := Lib.hid hu
        rw [t0]
        clear hu t0
        obtain ⟨z0, z1, z2, z3⟩ := cd_block4 KC3.out
        obtain ⟨c0, c1, c2, c3, c4, c5⟩ := HAT0.out.frame (w' := w3) (B3.out.block b hbw0)
        go_wp2_with fail
        refine (ref50_Defines x (m : Int) w3).mono ?_
        rintro e w4 ⟨rfl, b4⟩
        have B4 := Lib.hid (below_both B3.out b4)
        have KC4 := Lib.hid (block_below b4 KC3.out)
        clear b4 c0 c1 c2 c3 c4 c5 z0 z1 z2 z3
        cases hd : (defsI x && (x.dst == (m : Int)))
        · have HV2 : Hid (stateR c.out (c.ins.drop i) m = stateR c.out (c.ins.drop (k + 1)) m) := by
            show _ = _
            rw [HV.out, HS2.out]
            have : (defsI x && decide (x.dst = (m : Int))) = false := by rw [← hd]; congr 1
            simp [backS, HU.out, this]
          clear hd
          go_wp2_with fail
          go_roundw
          case rel => exact ⟨k + 1, by omega, by omega, by go_num, HV2.out, B4.out, KC4.out⟩
          case measure => simp [intOf]; omega
        · have HE : Hid (stateR c.out (c.ins.drop i) m = false) := by
            show _ = _
            rw [HV.out, HS2.out]
            have : (defsI x && decide (x.dst = (m : Int))) = true := by rw [← hd]; congr 1
            simp [backS, HU.out, this]
          clear hd
          go_wp2_with fail
          go_ret
          exact ⟨ret_bool HE.out.symm, B4.out⟩
    · obtain rfl : k = c.ins.length := by omega
      have HE : Hid (stateR c.out (c.ins.drop i) m = decide ((m : Int) ∈ c.out)) := by show _ = _; rw [HV.out, List.drop_length]; rfl
      have CH := Lib.hid (ref50_Has _ oa oc c.out (m : Int) wr (HO.out.frame (Same.below HB.out)))
      go_wp2_with fail
      refine CH.out.mono ?_
      rintro e w3 ⟨rfl, d3⟩
      go_wp2_with fail
      go_ret
      exact ⟨ret_bool HE.out.symm, HB.out.trans (d3.below _)⟩
set_option maxRecDepth 20000 in
set_option maxHeartbeats 2000000 in
theorem ref50_Before (S : Nat → Prop) (c : Cd) (p : CdAt) (i' R : Nat) (w : World) (h : CdRd S w c p) (hi : i' ≤ c.ins.length) (hR : c.regs = (R : Int)) (hR8 : R ≤ 8) : Calls Tryd.prog 38 #[cdVal c p, .int .i64 (i' : Int)] w fun e w' => ∃ v, e = .returned v ∧ Own (Kd.int .i64) 3 NoS w' w.heap.size v (regsK (stateR c.out (c.ins.drop i')) R) ∧ Below w.heap.size w w' := by
  obtain ⟨ia, ic, oa, oc⟩ := p
  have HC := Lib.hid h
  have hil := h.ins.le
  have hol := h.out.le
  have HR := Lib.hid hR
  clear h hR
  have BW := Lib.hid (below_alloc (Below.refl w.heap.size w) (.cells (cellsC c ia ic oa oc) 25))
  have KC := Lib.hid (heap_alloc_new w (.cells (cellsC c ia ic oa oc) 25))
  unfold cdVal
  go_enter Tryd.func38, Tryd.ntmps38
  go_wp2
  go_loopw [5, 6] (fun v i wr => ∃ k : Nat, k ≤ R ∧ i = .int .i64 k ∧ Hid (Own (Kd.int .i64) 3 NoS wr (w.heap.size + 1) v (regsK (stateR c.out (c.ins.drop i')) k)) ∧ Hid (Below w.heap.size w wr) ∧ Hid (wr.heap[w.heap.size]? = some (.cells (cellsC c ia ic oa oc) 25 (0, 0)))) (fun _ i _ => R - (intOf i).toNat)
  case atStart =>
    refine ⟨0, by omega, rfl, ?_, below_alloc BW.out _, block_alloc KC.out _⟩
    exact Own.of_block (enc := fun x => .int .i64 x) (xs := []) (cur := #[]) NoS (by simp) (block_at1 w _ _) (by simp) (by simp [maxLen]) rfl rfl
  case round =>
    obtain ⟨k, hk, rfl, HO, HB, KC1⟩ := hrel
    obtain ⟨z0, z1, z2, z3⟩ := cd_block4 KC1.out
    by_cases hlt : k < R
    · have hrl := regsK_length (stateR c.out (c.ins.drop i')) k
      have HT := Lib.hid (regsK_succ (stateR c.out (c.ins.drop i')) k)
      have hkR : (k : Int) < c.regs := by rw [HR.out]; omega
      go_wp2_with fail
      refine (ref50_used S c ⟨ia, ic, oa, oc⟩ i' k wr (HC.out.frame (Same.below HB.out)) hi).mono ?_
      rintro e w2 ⟨rfl, b2⟩
      have B2 := Lib.hid (below_both HB.out b2)
      have KC2 := Lib.hid (block_below b2 KC1.out)
      have O2 := Lib.hid (HO.out.below b2)
      have H2 : Hid (w.heap.size + 1 ≤ w2.heap.size) := (Array.getElem?_eq_some_iff.1 KC2.out).1
      clear b2 z0 z1 z2 z3
      cases hq : stateR c.out (c.ins.drop i') k
      · rw [hq] at HT
        go_wp2_with fail
        go_roundw
        case rel => exact ⟨k + 1, by omega, by go_num, by show Own _ _ _ _ _ _ _; rw [HT.out]; exact O2.out, B2.out, KC2.out⟩
        case measure => simp [intOf]; omega
      · rw [hq] at HT
        go_wp2_with (first
          | (at_builtin; refine wpList_append_ev _ rfl _ _ 23 rfl _ _ rfl rfl _ (run_app1 w2 infoInt rfl _ O2.out 3 [.int .i64 _] _ rfl (by omega) (by omega) H2.out) ?_; rintro n2 w3 ⟨ow3, g3, v3, _⟩; have B3 := Lib.hid (B2.out.grown g3 B2.out.size (fun k hk => Nat.le_of_succ_le (O2.out.lt k hk).1)); have KC3 := Lib.hid (block_grown g3 KC2.out (fun e => Nat.not_succ_le_self _ (O2.out.lt _ e.symm).1)); have O3 := Lib.hid ow3; clear ow3 g3 v3)
          | fail)
        go_roundw
        case rel => exact ⟨k + 1, by omega, by go_num, by show Own _ _ _ _ _ _ _; rw [HT.out]; exact O3.out, B3.out, KC3.out⟩
        case measure => simp [intOf]; omega
    · obtain rfl : k = R := by omega
      have hkR : ¬ (k : Int) < c.regs := by rw [HR.out]; omega
      go_wp2_with fail
      go_ret
      exact ⟨_, rfl, HO.out.mono (fun _ _ h => h) (by omega), HB.out⟩
end Go.Proofs.Sat
/- The walks of the reference's Inputs, Both, Dead, After. -/
namespace Go.Proofs.Sat
open Go Go.RowKit
theorem mem_regsK (s : Nat → Bool) (n : Nat) (z : Int) : z ∈ regsK s n ↔ 0 ≤ z ∧ z < n ∧ s z.toNat = true := by
  unfold regsK
  rw [List.mem_map]
  constructor
  · rintro ⟨k, hk, rfl⟩
    rw [List.mem_filter, List.mem_range] at hk
    refine ⟨Int.natCast_nonneg _, Int.ofNat_lt.2 hk.1, by simpa using hk.2⟩
  · rintro ⟨h0, h1, h2⟩
    obtain ⟨k, rfl⟩ := Int.eq_ofNat_of_zero_le h0
    exact ⟨k, by rw [List.mem_filter, List.mem_range]; exact ⟨by omega, by simpa using h2⟩, rfl⟩
theorem stateR_lt {c : Cd} (h : CdOK c) : ∀ (l : List In), (∀ x ∈ l, insErr c.width c.regs x = 0) → ∀ k, stateR c.out l k = true → (k : Int) < c.regs
  | [], _, k, hk => by
    have := h.out k (by simpa [stateR] using hk)
    exact this.2
  | x :: l, hl, k, hk => by
    unfold stateR backS at hk
    rw [Bool.or_eq_true, Bool.and_eq_true] at hk
    rcases hk with hk | hk
    · exact ((ins_ok (hl x (by simp))).2.2 _ (by simpa using hk)).2
    · exact stateR_lt h l (fun y hy => hl y (List.mem_cons_of_mem _ hy)) k hk.1
theorem state_lt {c : Cd} (h : CdOK c) (i k : Nat) (hk : stateR c.out (c.ins.drop i) k = true) : (k : Int) < c.regs :=
  stateR_lt h _ (fun x hx => h.ins x (List.mem_of_mem_drop hx)) k hk
theorem regsK_top {s : Nat → Bool} {R : Nat} (hR : R ≤ 8) (h : ∀ k, s k = true → k < R) : regsK s 8 = regsK s R := by
  refine ss_ext (regsK_ss _ _) (regsK_ss _ _) fun z => ?_
  rw [mem_regsK, mem_regsK]
  constructor
  · rintro ⟨h0, h1, h2⟩
    have := h _ h2
    exact ⟨h0, by omega, h2⟩
  · rintro ⟨h0, h1, h2⟩
    exact ⟨h0, by omega, h2⟩
theorem cd_regs {c : Cd} (h : CdOK c) : c.regs = (c.regs.toNat : Int) ∧ c.regs.toNat ≤ 8 := by have := h.r1; have := h.r2; omega
theorem before_eq {c : Cd} (h : CdOK c) (i : Nat) : regsK (stateR c.out (c.ins.drop i)) c.regs.toNat = regsK (stateR c.out (c.ins.drop i)) 8 := by
  symm
  exact regsK_top (cd_regs h).2 fun k hk => by have := state_lt h i k hk; have := (cd_regs h).1; omega
set_option maxRecDepth 20000 in
set_option maxHeartbeats 1000000 in
theorem ref50_Inputs (S : Nat → Prop) (c : Cd) (p : CdAt) (w : World) (h : CdRd S w c p) : Calls Tryd.prog 27 #[cdVal c p] w fun e w' => ∃ v, e = .returned v ∧ Own (Kd.int .i64) 3 NoS w' w.heap.size v (inpL c) ∧ Below w.heap.size w w' := by
  have BW := Lib.hid (below_alloc (Below.refl w.heap.size w) (.cells #[.int .i64 c.width, .int .i64 c.regs, .slice p.ia c.ins.length p.ic, .slice p.oa c.out.length p.oc] 25))
  have KC := Lib.hid (heap_alloc_new w (.cells #[.int .i64 c.width, .int .i64 c.regs, .slice p.ia c.ins.length p.ic, .slice p.oa c.out.length p.oc] 25))
  have HC := Lib.hid h
  unfold cdVal
  go_enter Tryd.func27, Tryd.ntmps27
  go_wp2_with fail
  refine (ref50_Check S c p _ (h.frame (Same.below BW.out))).mono ?_
  rintro e w2 ⟨rfl, b2⟩
  have B2 := Lib.hid (below_both BW.out b2)
  have KC2 := Lib.hid (block_below b2 KC.out)
  clear b2
  by_cases he : cdErr c = 0
  · have t0 : (cdErr c != 0) = false := by simpa using he
    have HE : Hid (inpL c = regsK (stateR c.out (c.ins.drop 0)) c.regs.toNat) := by show _ = _; unfold inpL; rw [if_pos he, before_eq (cd_ok he), List.drop_zero]
    have CS := Lib.hid (ref50_Before S c p 0 c.regs.toNat w2 (HC.out.frame (Same.below B2.out)) (by omega) (cd_regs (cd_ok he)).1 (cd_regs (cd_ok he)).2)
    obtain ⟨z0, z1, z2, z3⟩ := cd_block4 KC2.out
    clear he
    go_wp2_with fail
    refine CS.out.mono ?_
    rintro e w3 ⟨v, rfl, ho, b3⟩
    have B3 := Lib.hid (below_both B2.out b3)
    have O3 := Lib.hid (ho.mono (S' := NoS) (base' := w.heap.size) (fun _ _ h => h) B2.out.size)
    clear ho b3
    go_wp2_with fail
    go_ret
    exact ⟨_, rfl, by rw [HE.out]; exact O3.out, B3.out⟩
  · have t0 : (cdErr c != 0) = true := by simpa using he
    have HE : Hid (inpL c = []) := by show _ = _; unfold inpL; rw [if_neg he]
    clear he
    go_wp2_with fail
    go_ret
    exact ⟨_, rfl, by rw [HE.out]; exact Own.nil _ _ _ _ _, B2.out⟩
def bothS (a b : List Int) : Nat → Bool := fun k => decide ((k : Int) ∈ a) || decide ((k : Int) ∈ b)
theorem both_eq (c d : Cd) : ofL (inpL c ++ inpL d) = regsK (bothS (inpL c) (inpL d)) 8 := by
  have hz : ∀ (c : Cd) z, z ∈ inpL c → 0 ≤ z ∧ z < 8 := fun c z hz => by
    unfold inpL at hz
    split at hz
    · have := (mem_regsK _ _ _).1 hz; omega
    · cases hz
  refine ss_ext (ss_ofL _) (regsK_ss _ _) fun z => ?_
  rw [mem_ofL, mem_regsK, List.mem_append]
  constructor
  · intro h
    have hb : 0 ≤ z ∧ z < 8 := by rcases h with h | h <;> exact hz _ _ h
    refine ⟨hb.1, by omega, ?_⟩
    unfold bothS
    rw [Int.toNat_of_nonneg hb.1]
    simpa using h
  · rintro ⟨h0, h1, h2⟩
    unfold bothS at h2
    rw [Int.toNat_of_nonneg h0] at h2
    simpa using h2
set_option maxRecDepth 20000 in
set_option maxHeartbeats 2000000 in
theorem ref50_Both (S1 S2 : Nat → Prop) (a1 a2 : Option Addr) (c1 c2 : Nat) (l1 l2 : List Int) (w : World) (h1 : Rd (Kd.int .i64) S1 w a1 c1 l1) (h2 : Rd (Kd.int .i64) S2 w a2 c2 l2) :
    Calls Tryd.prog 29 #[.slice a1 l1.length c1, .slice a2 l2.length c2] w fun e w' => ∃ v, e = .returned v ∧ Own (Kd.int .i64) 3 NoS w' w.heap.size v (regsK (bothS l1 l2) 8) ∧ Below w.heap.size w w' := by
  have H1 := Lib.hid h1
  have H2 := Lib.hid h2
  clear h1 h2
  go_enter Tryd.func29, Tryd.ntmps29
  go_wp2
  go_loopw [5, 6] (fun v i wr => ∃ k : Nat, k ≤ 8 ∧ i = .int .i64 k ∧ Hid (Own (Kd.int .i64) 3 NoS wr w.heap.size v (regsK (bothS l1 l2) k)) ∧ Hid (Below w.heap.size w wr)) (fun _ i _ => 8 - (intOf i).toNat)
  case atStart =>
    refine ⟨0, by omega, rfl, ?_, below_alloc (Below.refl _ _) _⟩
    exact Own.of_block (enc := fun x => .int .i64 x) (xs := []) (cur := #[]) NoS (Nat.le_refl _) (heap_alloc_new w _) (by simp) (by simp [maxLen]) rfl rfl
  case round =>
    obtain ⟨k, hk, rfl, HO, HB⟩ := hrel
    by_cases hlt : k < 8
    · have hrl := regsK_length (bothS l1 l2) k
      have HT := Lib.hid (regsK_succ (bothS l1 l2) k)
      have hlt' : (k : Int) < 8 := by omega
      have C1 := Lib.hid (ref50_Has _ a1 c1 l1 (k : Int) wr (H1.out.frame (Same.below HB.out)))
      go_upto_region 5 with fail
      go_cut [19] (fun s wx => s = .bool (bothS l1 l2 k) ∧ Drawn wr wx)
      case first =>
        go_wp2_with fail
        refine C1.out.mono ?_
        rintro e w2 ⟨rfl, d2⟩
        have D2 := Lib.hid d2
        have C2 := Lib.hid (ref50_Has _ a2 c2 l2 (k : Int) w2 ((H2.out.frame (Same.below HB.out)).frame (Same.drawn _ d2)))
        clear d2
        by_cases hu : (k : Int) ∈ l1
        · have t0 : decide ((k : Int) ∈ l1) = true := decide_eq_true hu
          have HE : Hid (bothS l1 l2 k = true) := by show _ = _; unfold bothS; rw [t0]; rfl
          rw [t0]
          clear hu t0
          go_wp2_with fail
          go_meet
          case rel => exact ⟨by rw [HE.out], D2.out⟩
        · have t0 : decide ((k : Int) ∈ l1) = false := decide_eq_false hu
          have HE : Hid (bothS l1 l2 k = decide ((k : Int) ∈ l2)) := by show _ = _; unfold bothS; rw [t0]; rfl
          rw [t0]
          clear hu t0
          go_wp2_with fail
          refine C2.out.mono ?_
          rintro e w3 ⟨rfl, d3⟩
          go_wp2_with fail
          go_meet
          case rel => exact ⟨by rw [HE.out], D2.out.trans d3⟩
      case rest =>
        obtain ⟨rfl, d3⟩ := hcut
        have O2 := Lib.hid (HO.out.drawn d3)
        have B2 := Lib.hid (HB.out.trans (d3.below _))
        cases hq : bothS l1 l2 k
        · rw [hq] at HT
          go_wp2_with fail
          go_roundw
          case rel => exact ⟨k + 1, by omega, by go_num, by show Own _ _ _ _ _ _ _; rw [HT.out]; exact O2.out, B2.out⟩
          case measure => simp [intOf]; omega
        · rw [hq] at HT
          go_wp2_with (first
            | (at_builtin; refine wpList_append_ev _ rfl _ _ 23 rfl _ _ rfl rfl _ (run_app1 wc infoInt rfl _ O2.out 3 [.int .i64 _] _ rfl (by omega) (by omega) B2.out.size) ?_; rintro n2 w3 ⟨ow3, g3, v3, _⟩; have B3 := Lib.hid (B2.out.grown g3 B2.out.size (fun k hk => (O2.out.lt k hk).1)); have O3 := Lib.hid ow3; clear ow3 g3 v3)
            | fail)
          go_roundw
          case rel => exact ⟨k + 1, by omega, by go_num, by show Own _ _ _ _ _ _ _; rw [HT.out]; exact O3.out, B3.out⟩
          case measure => simp [intOf]; omega
    · obtain rfl : k = 8 := by omega
      go_wp2_with fail
      go_ret
      exact ⟨_, rfl, HO.out, HB.out⟩
end Go.Proofs.Sat
/- The walks of the reference's Dead and After; of live.After. -/
namespace Go.Proofs.Sat
open Go Go.RowKit
theorem dead_eq {c : Cd} (h : CdOK c) {j : Nat} (hj : j < c.ins.length) :
    deadB (stateR c.out (c.ins.drop (j + 1))) c.ins[j] = (decide (c.ins[j].op = 0) || !(decide (c.ins[j].dst ∈ regsK (stateR c.out (c.ins.drop (j + 1))) c.regs.toNat))) := by
  have hx := ins_ok (h.ins _ (List.getElem_mem hj))
  have hk := (knownI_iff _).1 hx.1
  unfold deadB
  by_cases h0 : c.ins[j].op = 0
  · have hd : defsI c.ins[j] = false := decide_eq_false (by omega)
    rw [hd, decide_eq_true h0]; rfl
  · have hd : defsI c.ins[j] = true := decide_eq_true (by omega)
    have hb := hx.2.1 hd
    rw [hd, decide_eq_false h0]
    have e : decide (c.ins[j].dst ∈ regsK (stateR c.out (c.ins.drop (j + 1))) c.regs.toNat) = stateR c.out (c.ins.drop (j + 1)) c.ins[j].dst.toNat := by
      rw [Bool.eq_iff_iff, decide_eq_true_iff, mem_regsK]
      constructor
      · exact fun h => h.2.2
      · exact fun h2 => ⟨hb.1, by have := (cd_regs h).1; omega, h2⟩
    rw [e]; rfl
set_option maxRecDepth 20000 in
set_option maxHeartbeats 2000000 in
theorem ref50_Dead (S : Nat → Prop) (c : Cd) (p : CdAt) (i : Int) (w : World) (h : CdRd S w c p) : Calls Tryd.prog 15 #[cdVal c p, .int .i64 i] w fun e w' => e = .returned (.bool (deadL c i)) ∧ Below w.heap.size w w' := by
  obtain ⟨ia, ic, oa, oc⟩ := p
  have BW := Lib.hid (below_alloc (Below.refl w.heap.size w) (.cells #[.int .i64 c.width, .int .i64 c.regs, .slice ia c.ins.length ic, .slice oa c.out.length oc] 25))
  have KC := Lib.hid (heap_alloc_new w (.cells #[.int .i64 c.width, .int .i64 c.regs, .slice ia c.ins.length ic, .slice oa c.out.length oc] 25))
  have HC := Lib.hid h
  have hil := h.ins.le
  unfold cdVal
  go_enter Tryd.func15, Tryd.ntmps15
  go_wp2_with fail
  refine (ref50_Check S c ⟨ia, ic, oa, oc⟩ _ (h.frame (Same.below BW.out))).mono ?_
  rintro e w2 ⟨rfl, b2⟩
  have B2 := Lib.hid (below_both BW.out b2)
  have KC2 := Lib.hid (block_below b2 KC.out)
  clear b2 h
  obtain ⟨z0, z1, z2, z3⟩ := cd_block4 KC2.out
  by_cases he : cdErr c = 0
  · have t0 : (cdErr c != 0) = false := by simpa using he
    by_cases h0 : 0 ≤ i
    · obtain ⟨j, rfl⟩ := Int.eq_ofNat_of_zero_le h0
      by_cases hj : j < c.ins.length
      · have HE : Hid (deadL c j = deadB (stateR c.out (c.ins.drop (j + 1))) c.ins[j]) := by show _ = _; unfold deadL; rw [decide_eq_true ⟨he, h0⟩, Int.toNat_natCast, List.getElem?_eq_getElem hj]; rfl
        have HOK := Lib.hid (cd_ok he)
        have HDE := Lib.hid (dead_eq HOK.out hj)
        rw [HDE.out] at HE
        clear HDE
        have CS := Lib.hid (fun W (hb : Below w.heap.size w W) => ref50_Before S c ⟨ia, ic, oa, oc⟩ (j + 1) c.regs.toNat W (HC.out.frame (Same.below hb)) (by omega) (cd_regs HOK.out).1 (cd_regs HOK.out).2)
        obtain ⟨b, o, rfl, -, hbw0, hat0⟩ := in_elem HC.out.ins hj
        have hat := hat0.frame (w' := w2) (B2.out.block b hbw0)
        have HAT := Lib.hid hat
        obtain ⟨c0, c1, c2, c3, c4, c5⟩ := hat
        have h256 := HOK.out.len
        generalize c.ins[j] = x at *
        generalize regsK (stateR c.out (c.ins.drop (j + 1))) c.regs.toNat = l at *
        clear he hat0
        have hj0 : (0 : Int) ≤ (j : Int) := by omega
        have hj1 : (j : Int) < (c.ins.length : Int) := by omega
        by_cases hop : x.op = 0
        · have t1 : (x.op == 0) = true := by simpa using hop
          have HE2 : Hid (deadL c j = true) := by show _ = _; rw [HE.out, decide_eq_true hop]; rfl
          clear hop
          go_wp2_with fail
          go_quiet (fail)
          go_wp2_with fail
          go_ret
          exact ⟨ret_bool HE2.out.symm, below_drewN B2.out _⟩
        · have t1 : (x.op == 0) = false := by simpa using hop
          have HE2 : Hid (deadL c j = !(decide (x.dst ∈ l))) := by show _ = _; rw [HE.out, decide_eq_false hop]; rfl
          clear hop
          have hz0 : (0 : Int) ≤ (j : Int) + 1 := by omega
          have hw : IntKind.i64.wrap ((j : Int) + 1) = (j : Int) + 1 := IntWalk.i64_in _ (by omega)
          have hcast : ((j + 1 : Nat) : Int) = (j : Int) + 1 := by omega
          have B2d : Hid (Below w.heap.size w w2.drew) := below_drewN B2.out 1
          rw [hcast] at CS
          clear hcast
          go_wp2_with fail
          go_region_held3 (fun w' => (w'.cell? ⟨w.heap.size, 0, none⟩ = some (.int .i64 c.width) ∧ w'.cell? ⟨w.heap.size, 1, none⟩ = some (.int .i64 c.regs) ∧ w'.cell? ⟨w.heap.size, 2, none⟩ = some (.slice (some ⟨b, o, none⟩) c.ins.length ic) ∧ w'.cell? ⟨w.heap.size, 3, none⟩ = some (.slice oa c.out.length oc)) ∧
              w'.cell? ⟨b, o + j * 6, none⟩ = some (.int .i64 x.op) ∧ w'.cell? ⟨b, o + j * 6 + 1, none⟩ = some (.int .i64 x.dst) ∧ w'.cell? ⟨b, o + j * 6 + 2, none⟩ = some (.int .i64 x.a) ∧ w'.cell? ⟨b, o + j * 6 + 3, none⟩ = some (.int .i64 x.b) ∧ w'.cell? ⟨b, o + j * 6 + 4, none⟩ = some (.int .i64 x.c) ∧ w'.cell? ⟨b, o + j * 6 + 5, none⟩ = some (.int .u64 x.imm))
              (first | exact ⟨cd_block4 KC4.out, d0, d1, d2, d3, d4, d5⟩ | exact ⟨cd_block4 KC3.out, d0, d1, d2, d3, d4, d5⟩ | exact ⟨⟨z0, z1, z2, z3⟩, c0, c1, c2, c3, c4, c5⟩)
              (first
              | (go_at_call 38
                 refine (CS.out _ B2d.out).mono ?_
                 rintro e w3 ⟨v, rfl, o3, b3⟩
                 obtain ⟨a3, c3', rfl, r3⟩ := o3.rd
                 have R3 := Lib.hid r3
                 have B3 := Lib.hid (below_both B2d.out b3)
                 have KC3 := Lib.hid (block_below b3 KC2.out)
                 have hat3 := HAT.out.frame (w' := w3) (b3.block b (Nat.lt_of_lt_of_le hbw0 B2.out.size))
                 have HAT3 := Lib.hid hat3
                 obtain ⟨d0, d1, d2, d3, d4, d5⟩ := hat3
                 clear b3 o3 r3)
              | (go_at_call 37
                 refine (ref50_Has _ a3 c3' l x.dst _ R3.out).mono ?_
                 rintro e w4 ⟨rfl, b4⟩
                 have B4 := Lib.hid (B3.out.trans (b4.below _))
                 have KC4 := Lib.hid (b4.heap KC3.out)
                 obtain ⟨d0, d1, d2, d3, d4, d5⟩ := HAT3.out.frame (w' := w4) ((b4.below w3.heap.size).block b (Nat.lt_of_lt_of_le hbw0 B3.out.size))
                 clear b4)
              | fail)
          go_wp2_with fail
          go_ret
          exact ⟨ret_bool HE2.out.symm, B4.out⟩
      · have HE : Hid (deadL c j = false) := by show _ = _; unfold deadL; rw [Int.toNat_natCast, List.getElem?_eq_none (by omega)]; simp
        clear he
        have hj' : (c.ins.length : Int) ≤ (j : Int) := by omega
        go_wp2_with fail
        go_ret
        exact ⟨ret_bool HE.out.symm, B2.out⟩
    · have HE : Hid (deadL c i = false) := by show _ = _; unfold deadL; rw [decide_eq_false (fun h => h0 h.2)]; rfl
      have h0' : i < 0 := by omega
      clear he
      go_wp2_with fail
      go_ret
      exact ⟨ret_bool HE.out.symm, B2.out⟩
  · have t0 : (cdErr c != 0) = true := by simpa using he
    have HE : Hid (deadL c i = false) := by show _ = _; unfold deadL; rw [decide_eq_false (fun h => he h.1)]; rfl
    clear he
    go_wp2_with fail
    go_ret
    exact ⟨ret_bool HE.out.symm, B2.out⟩
end Go.Proofs.Sat
/- The walks of After, the program's and the reference's. -/
namespace Go.Proofs.Sat
open Go Go.RowKit
theorem infoInts : ElemInfo Tryd.prog 48 23 (.slice none 0 0) 1 24 := ⟨Tryd.underlying48, by kernel_rfl, rfl, by decide⟩
/-- What After tells of the first k instructions. -/
def aftL (c : Cd) (k : Nat) : List (List Int) := (List.range k).map fun i => regsK (stateR c.out (c.ins.drop (i + 1))) 8
theorem aftL_length (c : Cd) (k : Nat) : (aftL c k).length = k := by simp [aftL]
theorem aftL_succ (c : Cd) (k : Nat) : aftL c (k + 1) = aftL c k ++ [regsK (stateR c.out (c.ins.drop (k + 1))) 8] := by simp [aftL, List.range_succ]
/-- What After tells. -/
def aftR (c : Cd) : List (List Int) := if cdErr c = 0 then aftL c c.ins.length else []
/-- Blocks from H on. -/
abbrev FromB (H : Nat) : Nat → Prop := fun b => H ≤ b
/-- A row of one's own as an element of another. -/
theorem own_elem {S : Nat → Prop} {W W' : World} {H : Nat} {v u : Value} {xs : List (List Int)} {l : List Int} {d : Kd (List Int)} (hu : Own d 23 S W H u xs) (b : Below W.heap.size W W') (ho : Own (Kd.int .i64) 3 NoS W' W.heap.size v l) (hH : H ≤ W.heap.size) :
    (Kd.slice (Kd.int .i64)).K (fun b => FromB H b ∧ some b ≠ u.ownBlock) W' [v] l := by
  refine (Kd.slice (Kd.int .i64)).mono (fun b _ hb => ?_) ho.kind
  rcases hb with hb | hb
  · exact hb.elim
  · refine ⟨Nat.le_trans hH hb, fun e => ?_⟩
    have := (hu.lt b e.symm).2
    omega
set_option maxRecDepth 20000 in
set_option maxHeartbeats 2000000 in
theorem ref50_After (S : Nat → Prop) (c : Cd) (p : CdAt) (w : World) (h : CdRd S w c p) : Calls Tryd.prog 26 #[cdVal c p] w fun e w' => ∃ v, e = .returned v ∧ Own (Kd.slice (Kd.int .i64)) 23 (FromB w.heap.size) w' w.heap.size v (aftR c) ∧ Below w.heap.size w w' := by
  obtain ⟨ia, ic, oa, oc⟩ := p
  have BW := Lib.hid (below_alloc (Below.refl w.heap.size w) (.cells #[.int .i64 c.width, .int .i64 c.regs, .slice ia c.ins.length ic, .slice oa c.out.length oc] 25))
  have KC := Lib.hid (heap_alloc_new w (.cells #[.int .i64 c.width, .int .i64 c.regs, .slice ia c.ins.length ic, .slice oa c.out.length oc] 25))
  have HC := Lib.hid h
  have hil := h.ins.le
  clear h
  unfold cdVal
  go_enter Tryd.func26, Tryd.ntmps26
  go_wp2
  go_loopw [3, 4] (fun v i wr => ∃ k : Nat, k ≤ c.ins.length ∧ (k = 0 ∨ cdErr c = 0) ∧ i = .int .i64 k ∧ Hid (Own (Kd.slice (Kd.int .i64)) 23 (FromB (w.heap.size + 1)) wr (w.heap.size + 1) v (aftL c k)) ∧ Hid (Below w.heap.size w wr) ∧ Hid (wr.heap[w.heap.size]? = some (.cells (cellsC c ia ic oa oc) 25 (0, 0)))) (fun _ i _ => c.ins.length - (intOf i).toNat)
  case atStart =>
    refine ⟨0, by omega, .inl rfl, rfl, ?_, below_alloc BW.out _, block_alloc KC.out _⟩
    exact ⟨[], ⟨rfl, .inr ⟨w.heap.size + 1, 0, #[], rfl, Nat.le_refl _, block_at1 w _ _, by simp [aftL], by simp [maxLen], rfl, rfl⟩⟩, .nil⟩
  case round =>
    obtain ⟨k, hk, hk0, rfl, HO, HB, KC1⟩ := hrel
    have HK0 := Lib.hid hk0
    clear hk0
    obtain ⟨z0, z1, z2, z3⟩ := cd_block4 KC1.out
    by_cases hlt : k < c.ins.length
    · have CK := Lib.hid (ref50_Check S c ⟨ia, ic, oa, oc⟩ wr (HC.out.frame (Same.below HB.out)))
      go_wp2_with fail
      refine CK.out.mono ?_
      rintro e w2 ⟨rfl, b2⟩
      have B2 := Lib.hid (below_both HB.out b2)
      have KC2 := Lib.hid (block_below b2 KC1.out)
      have O2 := Lib.hid (HO.out.below b2)
      clear b2 z0 z1 z2 z3 CK
      by_cases he : cdErr c = 0
      · have t0 : (cdErr c == 0) = true := by simpa using he
        have CB := Lib.hid (ref50_Before S c ⟨ia, ic, oa, oc⟩ (k + 1) c.regs.toNat w2 (HC.out.frame (Same.below B2.out)) (by omega) (cd_regs (cd_ok he)).1 (cd_regs (cd_ok he)).2)
        have HE := Lib.hid (before_eq (cd_ok he) (k + 1))
        have HT := Lib.hid (aftL_succ c k)
        have HL := Lib.hid (aftL_length c k)
        have HOK := Lib.hid (cd_ok he)
        have hlen := HOK.out.len
        obtain ⟨z0, z1, z2, z3⟩ := cd_block4 KC2.out
        have hcast : ((k + 1 : Nat) : Int) = (k : Int) + 1 := by omega
        rw [hcast] at CB
        clear hcast he
        go_wp2_with fail
        refine CB.out.mono ?_
        rintro e w3 ⟨v3, rfl, o3, b3⟩
        rw [HE.out] at o3
        obtain ⟨a3, c3, rfl⟩ := o3.form
        have B3 := Lib.hid (below_both B2.out b3)
        have KC3 := Lib.hid (block_below b3 KC2.out)
        have O3 := Lib.hid (O2.out.below b3)
        have HX : Hid ((Kd.slice (Kd.int .i64)).K (fun b => FromB (w.heap.size + 1) b ∧ some b ≠ _) w3 [.slice a3 (regsK (stateR c.out (c.ins.drop (k + 1))) 8).length c3] (regsK (stateR c.out (c.ins.drop (k + 1))) 8)) := own_elem O2.out b3 o3 (Array.getElem?_eq_some_iff.1 KC2.out).1
        have H3 : Hid (w.heap.size + 1 ≤ w3.heap.size) := (Array.getElem?_eq_some_iff.1 KC3.out).1
        clear o3 b3 z0 z1 z2 z3
        go_wp2_with (first
          | (at_builtin; refine wpList_append_ev _ rfl _ _ 48 rfl _ _ rfl rfl _ (run_app1 w3 infoInts rfl _ O3.out 23 [.slice a3 _ c3] _ HX.out (by rw [HL.out]; omega) (by rw [HL.out]; omega) H3.out) ?_; rintro n4 w4 ⟨ow4, g4, -, _⟩; have B4 := Lib.hid (B3.out.grown g4 B3.out.size (fun k hk => Nat.le_of_succ_le (O3.out.lt k hk).1)); have KC4 := Lib.hid (block_grown g4 KC3.out (fun e => Nat.not_succ_le_self _ (O3.out.lt _ e.symm).1)); have O4 := Lib.hid ow4; clear ow4 g4)
          | fail)
        go_roundw
        case rel => exact ⟨k + 1, by omega, .inr (by exact (show cdErr c = 0 from by simpa using t0)), by go_num, by show Own _ _ _ _ _ _ _; rw [HT.out]; exact O4.out, B4.out, KC4.out⟩
        case measure => simp [intOf]; omega
      · have t0 : (cdErr c == 0) = false := by simpa using he
        have HE : Hid (aftR c = []) := if_neg he
        have hk00 : k = 0 := by rcases HK0.out with h | h; (· exact h); (· exact absurd h he)
        have h5 := O2.out.mono (S' := FromB w.heap.size) (base' := w.heap.size) (fun b _ hb => by have : w.heap.size + 1 ≤ b := hb; show w.heap.size ≤ b; omega) (by omega)
        rw [hk00, show aftL c 0 = [] from rfl] at h5
        have O5 := Lib.hid h5
        clear h5
        clear he hk00
        go_wp2_with fail
        go_ret
        exact ⟨_, rfl, by rw [HE.out]; exact O5.out, B2.out⟩
    · obtain rfl : k = c.ins.length := by omega
      have HE : Hid (aftR c = aftL c c.ins.length) := by
        show _ = _
        unfold aftR
        by_cases he : cdErr c = 0
        · rw [if_pos he]
        · rw [if_neg he]
          rcases HK0.out with h | h
          · rw [h]; rfl
          · exact absurd h he
      go_wp2_with fail
      go_ret
      exact ⟨_, rfl, by rw [HE.out]; exact HO.out.mono (fun b _ hb => by have : w.heap.size + 1 ≤ b := hb; show w.heap.size ≤ b; omega) (by omega), HB.out⟩
theorem cut_one (g n : Nat) : ∃ A' : Option Addr, (∀ W : World, (Instr.slice 63 (.slice (some ⟨g, 0, none⟩) (n + 1) (n + 1)) (some (.int .i64 1)) none none).run Tryd.prog W = .ok (.slice A' n n) W) ∧ (0 < n → A' = some ⟨g, 8, none⟩) := by
  obtain ⟨i, hi, h2, h3, h4⟩ := info_parts infoSet.hi
  refine ⟨if n + 1 = 1 then some ⟨g, 0, none⟩ else some ⟨g, 8, none⟩, fun W => ?_, fun h => if_neg (by omega)⟩
  have hel : Tryd.prog.elem 63 = 58 := by simp [Program.elem, infoSet.ht]
  have hu : Tryd.prog.underlying 63 = some (.slice (Tryd.prog.elem 63)) := by rw [hel]; exact infoSet.ht
  have h := run_slice_l W 63 (some ⟨g, 0, none⟩) (n + 1) (n + 1) hu .i64 (1 : Int) (by decide) (by omega)
  rw [h, hel]
  simp [sizeOf, typeInfo, hi, h3, sliced, Result.andThen, add_plain]
set_option maxRecDepth 20000 in
set_option maxHeartbeats 2000000 in
theorem live_After (S : Nat → Prop) (c : Cd) (p : CdAt) (w : World) (hK : IsaT w) (h : CdRd S w c p) : Calls Tryd.prog 25 #[cdVal c p] w fun e w' => ∃ v, e = .returned v ∧ Own (Kd.slice (Kd.int .i64)) 23 (FromB w.heap.size) w' w.heap.size v (aftR c) ∧ Below w.heap.size w w' := by
  obtain ⟨ia, ic, oa, oc⟩ := p
  have BW := Lib.hid (below_alloc (Below.refl w.heap.size w) (.cells #[.int .i64 c.width, .int .i64 c.regs, .slice ia c.ins.length ic, .slice oa c.out.length oc] 25))
  have KC := Lib.hid (heap_alloc_new w (.cells #[.int .i64 c.width, .int .i64 c.regs, .slice ia c.ins.length ic, .slice oa c.out.length oc] 25))
  have HC := Lib.hid h
  unfold cdVal
  go_enter Tryd.func25, Tryd.ntmps25
  go_wp2_with fail
  refine (live_valid S c ⟨ia, ic, oa, oc⟩ _ (hK.below BW.out) (h.frame (Same.below BW.out))).mono ?_
  rintro e w2 ⟨rfl, b2⟩
  have B2 := Lib.hid (below_both BW.out b2)
  have KC2 := Lib.hid (block_below b2 KC.out)
  clear b2 h
  by_cases he : cdErr c = 0
  · have t0 : (cdErr c == 0) = true := by simpa using he
    have HE : Hid (aftR c = aftL c c.ins.length) := if_pos he
    have CS := Lib.hid (live_states S c ⟨ia, ic, oa, oc⟩ w2 (hK.below B2.out) (HC.out.frame (Same.below B2.out)) (cd_ok he))
    have hlen := (cd_ok he).len
    obtain ⟨z0, z1, z2, z3⟩ := cd_block4 KC2.out
    clear he
    go_wp2_with fail
    refine CS.out.mono ?_
    rintro e w3 ⟨g, rfl, hg, G3, b3⟩
    have B3 := Lib.hid (below_both B2.out b3)
    have HG3 := Lib.hid G3
    have hgl := G3.lt
    clear b3 z0 z1 z2 z3 G3
    obtain ⟨A', hcut, hA⟩ := cut_one g c.ins.length
    have HA := Lib.hid hA
    clear hA
    go_wp2_with fail
    go_loopw [3, 13] (fun v i wr => ∃ k : Nat, k ≤ c.ins.length ∧ i = .int .i64 k ∧ Hid (Own (Kd.slice (Kd.int .i64)) 23 (FromB (g + 1)) wr (g + 1) v (aftL c k)) ∧ Hid (Below w.heap.size w wr) ∧ Hid (Grid wr g (c.ins.length + 1) fun i => stateR c.out (c.ins.drop i)) ∧ Hid (g + 1 ≤ wr.heap.size)) (fun _ i _ => c.ins.length - (intOf i).toNat)
    case atStart => exact ⟨0, by omega, rfl, Own.nil _ _ _ _ _, B3.out, HG3.out, hgl⟩
    case round =>
      obtain ⟨k, hk, rfl, HO, HB, HG, HZ⟩ := hrel
      by_cases hlt : k < c.ins.length
      · have hAe := HA.out (by omega)
        subst hAe
        have f := HG.out.cells (i := k + 1) (by omega)
        have e8 : 8 + k * 8 = (k + 1) * 8 := by omega
        rw [← e8] at f
        obtain ⟨f0, f1, f2, f3, f4, f5, f6, f7⟩ := f
        have HT := Lib.hid (aftL_succ c k)
        have HL := Lib.hid (aftL_length c k)
        clear e8
        generalize hs : stateR c.out (c.ins.drop (k + 1)) = s at *
        have HS := Lib.hid hs
        clear hs
        have HOX := Lib.hid (HO.out.alloc (.cells (cellsB s) 58))
        have BX := Lib.hid (below_alloc HB.out (.cells (cellsB s) 58))
        have HGX := Lib.hid (HG.out.below (below_alloc (Below.refl _ wr) (.cells (cellsB s) 58)))
        have HZX : Hid (g + 1 ≤ (wr.alloc (.cells (cellsB s) 58)).heap.size) := HGX.out.lt
        clear HA
        go_wp2_with fail
        refine (live_list s _).mono ?_
        rintro e w5 ⟨v5, rfl, o5, b5⟩
        obtain ⟨a5, c5, rfl⟩ := o5.form
        have B5 := Lib.hid (below_both BX.out b5)
        have G5 := Lib.hid (HGX.out.below b5)
        have O5 := Lib.hid (HOX.out.below b5)
        have HX : Hid ((Kd.slice (Kd.int .i64)).K (fun b => FromB (g + 1) b ∧ some b ≠ _) w5 [.slice a5 (regsK s 8).length c5] (regsK s 8)) := own_elem HOX.out b5 o5 HZX.out
        have H5 : Hid (g + 1 ≤ w5.heap.size) := G5.out.lt
        have HR5 : Hid (∀ k, u3.ownBlock = some k → w.heap.size ≤ k) := fun k hk => by have := (HO.out.lt k hk).1; have := B2.out.size; omega
        have HG5 : Hid (∀ k, u3.ownBlock = some k → g ≠ k) := fun k hk => by have := (HO.out.lt k hk).1; omega
        clear o5 b5 f0 f1 f2 f3 f4 f5 f6 f7
        go_wp2_with (first
          | (at_builtin; refine wpList_append_ev _ rfl _ _ 48 rfl _ _ rfl rfl _ (run_app1 w5 infoInts rfl _ O5.out 23 [.slice a5 _ c5] _ HX.out (by rw [HL.out]; omega) (by rw [HL.out]; omega) H5.out) ?_; rintro n6 w6 ⟨ow6, g6, -, _⟩; have B6 := Lib.hid (B5.out.grown g6 B5.out.size HR5.out); have G6 := Lib.hid (G5.out.frame (g6.block g G5.out.lt (fun e => HG5.out _ e.symm rfl))); have O6 := Lib.hid ow6; have H6 : Hid (g + 1 ≤ w6.heap.size) := Nat.le_trans H5.out g6.size; clear ow6 g6)
          | fail)
        go_roundw
        case rel => exact ⟨k + 1, by omega, by go_num, by show Own _ _ _ _ _ _ _; rw [HT.out]; exact O6.out, B6.out, G6.out, H6.out⟩
        case measure => simp [intOf]; omega
      · obtain rfl : k = c.ins.length := by omega
        go_wp2_with fail
        go_ret
        exact ⟨_, rfl, by rw [HE.out]; exact HO.out.mono (fun b _ hb => by have : g + 1 ≤ b := hb; have := B2.out.size; show w.heap.size ≤ b; omega) (by have := B2.out.size; omega), HB.out⟩
  · have t0 : (cdErr c == 0) = false := by simpa using he
    have HE : Hid (aftR c = []) := if_neg he
    clear he
    go_wp2_with fail
    go_ret
    exact ⟨_, rfl, by rw [HE.out]; exact Own.nil _ _ _ _ _, B2.out⟩
end Go.Proofs.Sat
