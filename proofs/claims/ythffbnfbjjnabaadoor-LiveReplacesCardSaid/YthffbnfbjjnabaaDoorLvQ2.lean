/- The walks of the reference's Inputs, Both, Dead, After. -/
import Derived.Test.YthffbnfbjjnabaaDoorLvQ
import Derived.Test.YthffbnfbjjnabaaDoorLvP
set_option linter.unusedVariables false
set_option linter.unusedSimpArgs false
namespace Go.Proofs.Sat
open Go Go.RowKit
theorem mem_regsK (s : Nat → Bool) (n : Nat) (z : Int) : z ∈ regsK s n ↔ 0 ≤ z ∧ z < n ∧ s z.toNat = true := by
  unfold regsK
  rw [List.mem_map]
  constructor
  · rintro ⟨k, hk, rfl⟩
    rw [List.mem_filter, List.mem_range] at hk
    refine ⟨Int.natCast_nonneg _, Int.ofNat_lt.2 hk.1, by simpa using hk.2⟩
  · rintro ⟨h0, h1, h2⟩
    obtain ⟨k, rfl⟩ := Int.eq_ofNat_of_zero_le h0
    exact ⟨k, by rw [List.mem_filter, List.mem_range]; exact ⟨by omega, by simpa using h2⟩, rfl⟩
theorem stateR_lt {c : Cd} (h : CdOK c) : ∀ (l : List In), (∀ x ∈ l, insErr c.width c.regs x = 0) → ∀ k, stateR c.out l k = true → (k : Int) < c.regs
  | [], _, k, hk => by
    have := h.out k (by simpa [stateR] using hk)
    exact this.2
  | x :: l, hl, k, hk => by
    unfold stateR backS at hk
    rw [Bool.or_eq_true, Bool.and_eq_true] at hk
    rcases hk with hk | hk
    · exact ((ins_ok (hl x (by simp))).2.2 _ (by simpa using hk)).2
    · exact stateR_lt h l (fun y hy => hl y (List.mem_cons_of_mem _ hy)) k hk.1
theorem state_lt {c : Cd} (h : CdOK c) (i k : Nat) (hk : stateR c.out (c.ins.drop i) k = true) : (k : Int) < c.regs :=
  stateR_lt h _ (fun x hx => h.ins x (List.mem_of_mem_drop hx)) k hk
theorem regsK_top {s : Nat → Bool} {R : Nat} (hR : R ≤ 8) (h : ∀ k, s k = true → k < R) : regsK s 8 = regsK s R := by
  refine ss_ext (regsK_ss _ _) (regsK_ss _ _) fun z => ?_
  rw [mem_regsK, mem_regsK]
  constructor
  · rintro ⟨h0, h1, h2⟩
    have := h _ h2
    exact ⟨h0, by omega, h2⟩
  · rintro ⟨h0, h1, h2⟩
    exact ⟨h0, by omega, h2⟩
theorem cd_regs {c : Cd} (h : CdOK c) : c.regs = (c.regs.toNat : Int) ∧ c.regs.toNat ≤ 8 := by have := h.r1; have := h.r2; omega
theorem before_eq {c : Cd} (h : CdOK c) (i : Nat) : regsK (stateR c.out (c.ins.drop i)) c.regs.toNat = regsK (stateR c.out (c.ins.drop i)) 8 := by
  symm
  exact regsK_top (cd_regs h).2 fun k hk => by have := state_lt h i k hk; have := (cd_regs h).1; omega
set_option maxRecDepth 20000 in
set_option maxHeartbeats 1000000 in
theorem ref50_Inputs (S : Nat → Prop) (c : Cd) (p : CdAt) (w : World) (h : CdRd S w c p) : Calls Tryd.prog 27 #[cdVal c p] w fun e w' => ∃ v, e = .returned v ∧ Own (Kd.int .i64) 3 NoS w' w.heap.size v (inpL c) ∧ Below w.heap.size w w' := by
  have BW := Lib.hid (below_alloc (Below.refl w.heap.size w) (.cells #[.int .i64 c.width, .int .i64 c.regs, .slice p.ia c.ins.length p.ic, .slice p.oa c.out.length p.oc] 25))
  have KC := Lib.hid (heap_alloc_new w (.cells #[.int .i64 c.width, .int .i64 c.regs, .slice p.ia c.ins.length p.ic, .slice p.oa c.out.length p.oc] 25))
  have HC := Lib.hid h
  unfold cdVal
  go_enter Tryd.func27, Tryd.ntmps27
  go_wp2_with fail
  refine (ref50_Check S c p _ (h.frame (Same.below BW.out))).mono ?_
  rintro e w2 ⟨rfl, b2⟩
  have B2 := Lib.hid (below_both BW.out b2)
  have KC2 := Lib.hid (block_below b2 KC.out)
  clear b2
  by_cases he : cdErr c = 0
  · have t0 : (cdErr c != 0) = false := by simpa using he
    have HE : Hid (inpL c = regsK (stateR c.out (c.ins.drop 0)) c.regs.toNat) := by show _ = _; unfold inpL; rw [if_pos he, before_eq (cd_ok he), List.drop_zero]
    have CS := Lib.hid (ref50_Before S c p 0 c.regs.toNat w2 (HC.out.frame (Same.below B2.out)) (by omega) (cd_regs (cd_ok he)).1 (cd_regs (cd_ok he)).2)
    obtain ⟨z0, z1, z2, z3⟩ := cd_block4 KC2.out
    clear he
    go_wp2_with fail
    refine CS.out.mono ?_
    rintro e w3 ⟨v, rfl, ho, b3⟩
    have B3 := Lib.hid (below_both B2.out b3)
    have O3 := Lib.hid (ho.mono (S' := NoS) (base' := w.heap.size) (fun _ _ h => h) B2.out.size)
    clear ho b3
    go_wp2_with fail
    go_ret
    exact ⟨_, rfl, by rw [HE.out]; exact O3.out, B3.out⟩
  · have t0 : (cdErr c != 0) = true := by simpa using he
    have HE : Hid (inpL c = []) := by show _ = _; unfold inpL; rw [if_neg he]
    clear he
    go_wp2_with fail
    go_ret
    exact ⟨_, rfl, by rw [HE.out]; exact Own.nil _ _ _ _ _, B2.out⟩
def bothS (a b : List Int) : Nat → Bool := fun k => decide ((k : Int) ∈ a) || decide ((k : Int) ∈ b)
theorem both_eq (c d : Cd) : ofL (inpL c ++ inpL d) = regsK (bothS (inpL c) (inpL d)) 8 := by
  have hz : ∀ (c : Cd) z, z ∈ inpL c → 0 ≤ z ∧ z < 8 := fun c z hz => by
    unfold inpL at hz
    split at hz
    · have := (mem_regsK _ _ _).1 hz; omega
    · cases hz
  refine ss_ext (ss_ofL _) (regsK_ss _ _) fun z => ?_
  rw [mem_ofL, mem_regsK, List.mem_append]
  constructor
  · intro h
    have hb : 0 ≤ z ∧ z < 8 := by rcases h with h | h <;> exact hz _ _ h
    refine ⟨hb.1, by omega, ?_⟩
    unfold bothS
    rw [Int.toNat_of_nonneg hb.1]
    simpa using h
  · rintro ⟨h0, h1, h2⟩
    unfold bothS at h2
    rw [Int.toNat_of_nonneg h0] at h2
    simpa using h2
set_option maxRecDepth 20000 in
set_option maxHeartbeats 2000000 in
theorem ref50_Both (S1 S2 : Nat → Prop) (a1 a2 : Option Addr) (c1 c2 : Nat) (l1 l2 : List Int) (w : World) (h1 : Rd (Kd.int .i64) S1 w a1 c1 l1) (h2 : Rd (Kd.int .i64) S2 w a2 c2 l2) :
    Calls Tryd.prog 29 #[.slice a1 l1.length c1, .slice a2 l2.length c2] w fun e w' => ∃ v, e = .returned v ∧ Own (Kd.int .i64) 3 NoS w' w.heap.size v (regsK (bothS l1 l2) 8) ∧ Below w.heap.size w w' := by
  have H1 := Lib.hid h1
  have H2 := Lib.hid h2
  clear h1 h2
  go_enter Tryd.func29, Tryd.ntmps29
  go_wp2
  go_loopw [5, 6] (fun v i wr => ∃ k : Nat, k ≤ 8 ∧ i = .int .i64 k ∧ Hid (Own (Kd.int .i64) 3 NoS wr w.heap.size v (regsK (bothS l1 l2) k)) ∧ Hid (Below w.heap.size w wr)) (fun _ i _ => 8 - (intOf i).toNat)
  case atStart =>
    refine ⟨0, by omega, rfl, ?_, below_alloc (Below.refl _ _) _⟩
    exact Own.of_block (enc := fun x => .int .i64 x) (xs := []) (cur := #[]) NoS (Nat.le_refl _) (heap_alloc_new w _) (by simp) (by simp [maxLen]) rfl rfl
  case round =>
    obtain ⟨k, hk, rfl, HO, HB⟩ := hrel
    by_cases hlt : k < 8
    · have hrl := regsK_length (bothS l1 l2) k
      have HT := Lib.hid (regsK_succ (bothS l1 l2) k)
      have hlt' : (k : Int) < 8 := by omega
      have C1 := Lib.hid (ref50_Has _ a1 c1 l1 (k : Int) wr (H1.out.frame (Same.below HB.out)))
      go_upto_region 5 with fail
      go_cut [19] (fun s wx => s = .bool (bothS l1 l2 k) ∧ Drawn wr wx)
      case first =>
        go_wp2_with fail
        refine C1.out.mono ?_
        rintro e w2 ⟨rfl, d2⟩
        have D2 := Lib.hid d2
        have C2 := Lib.hid (ref50_Has _ a2 c2 l2 (k : Int) w2 ((H2.out.frame (Same.below HB.out)).frame (Same.drawn _ d2)))
        clear d2
        by_cases hu : (k : Int) ∈ l1
        · have t0 : decide ((k : Int) ∈ l1) = true := decide_eq_true hu
          have HE : Hid (bothS l1 l2 k = true) := by show _ = _; unfold bothS; rw [t0]; rfl
          rw [t0]
          clear hu t0
          go_wp2_with fail
          go_meet
          case rel => exact ⟨by rw [HE.out], D2.out⟩
        · have t0 : decide ((k : Int) ∈ l1) = false := decide_eq_false hu
          have HE : Hid (bothS l1 l2 k = decide ((k : Int) ∈ l2)) := by show _ = _; unfold bothS; rw [t0]; rfl
          rw [t0]
          clear hu t0
          go_wp2_with fail
          refine C2.out.mono ?_
          rintro e w3 ⟨rfl, d3⟩
          go_wp2_with fail
          go_meet
          case rel => exact ⟨by rw [HE.out], D2.out.trans d3⟩
      case rest =>
        obtain ⟨rfl, d3⟩ := hcut
        have O2 := Lib.hid (HO.out.drawn d3)
        have B2 := Lib.hid (HB.out.trans (d3.below _))
        cases hq : bothS l1 l2 k
        · rw [hq] at HT
          go_wp2_with fail
          go_roundw
          case rel => exact ⟨k + 1, by omega, by go_num, by show Own _ _ _ _ _ _ _; rw [HT.out]; exact O2.out, B2.out⟩
          case measure => simp [intOf]; omega
        · rw [hq] at HT
          go_wp2_with (first
            | (at_builtin; refine wpList_append_ev _ rfl _ _ 23 rfl _ _ rfl rfl _ (run_app1 wc infoInt rfl _ O2.out 3 [.int .i64 _] _ rfl (by omega) (by omega) B2.out.size) ?_; rintro n2 w3 ⟨ow3, g3, v3, _⟩; have B3 := Lib.hid (B2.out.grown g3 B2.out.size (fun k hk => (O2.out.lt k hk).1)); have O3 := Lib.hid ow3; clear ow3 g3 v3)
            | fail)
          go_roundw
          case rel => exact ⟨k + 1, by omega, by go_num, by show Own _ _ _ _ _ _ _; rw [HT.out]; exact O3.out, B3.out⟩
          case measure => simp [intOf]; omega
    · obtain rfl : k = 8 := by omega
      go_wp2_with fail
      go_ret
      exact ⟨_, rfl, HO.out, HB.out⟩
end Go.Proofs.Sat
