/- The walks of After, the program's and the reference's. -/
import Derived.Test.YthffbnfbjjnabaaDoorLvQ3
set_option linter.unusedVariables false
set_option linter.unusedSimpArgs false
namespace Go.Proofs.Sat
open Go Go.RowKit
theorem infoInts : ElemInfo Tryd.prog 48 23 (.slice none 0 0) 1 24 := ⟨Tryd.underlying48, by kernel_rfl, rfl, by decide⟩
/-- What After tells of the first k instructions. -/
def aftL (c : Cd) (k : Nat) : List (List Int) := (List.range k).map fun i => regsK (stateR c.out (c.ins.drop (i + 1))) 8
theorem aftL_length (c : Cd) (k : Nat) : (aftL c k).length = k := by simp [aftL]
theorem aftL_succ (c : Cd) (k : Nat) : aftL c (k + 1) = aftL c k ++ [regsK (stateR c.out (c.ins.drop (k + 1))) 8] := by simp [aftL, List.range_succ]
/-- What After tells. -/
def aftR (c : Cd) : List (List Int) := if cdErr c = 0 then aftL c c.ins.length else []
/-- Blocks from H on. -/
abbrev FromB (H : Nat) : Nat → Prop := fun b => H ≤ b
/-- A row of one's own as an element of another. -/
theorem own_elem {S : Nat → Prop} {W W' : World} {H : Nat} {v u : Value} {xs : List (List Int)} {l : List Int} {d : Kd (List Int)} (hu : Own d 23 S W H u xs) (b : Below W.heap.size W W') (ho : Own (Kd.int .i64) 3 NoS W' W.heap.size v l) (hH : H ≤ W.heap.size) :
    (Kd.slice (Kd.int .i64)).K (fun b => FromB H b ∧ some b ≠ u.ownBlock) W' [v] l := by
  refine (Kd.slice (Kd.int .i64)).mono (fun b _ hb => ?_) ho.kind
  rcases hb with hb | hb
  · exact hb.elim
  · refine ⟨Nat.le_trans hH hb, fun e => ?_⟩
    have := (hu.lt b e.symm).2
    omega
set_option maxRecDepth 20000 in
set_option maxHeartbeats 2000000 in
theorem ref50_After (S : Nat → Prop) (c : Cd) (p : CdAt) (w : World) (h : CdRd S w c p) : Calls Tryd.prog 26 #[cdVal c p] w fun e w' => ∃ v, e = .returned v ∧ Own (Kd.slice (Kd.int .i64)) 23 (FromB w.heap.size) w' w.heap.size v (aftR c) ∧ Below w.heap.size w w' := by
  obtain ⟨ia, ic, oa, oc⟩ := p
  have BW := Lib.hid (below_alloc (Below.refl w.heap.size w) (.cells #[.int .i64 c.width, .int .i64 c.regs, .slice ia c.ins.length ic, .slice oa c.out.length oc] 25))
  have KC := Lib.hid (heap_alloc_new w (.cells #[.int .i64 c.width, .int .i64 c.regs, .slice ia c.ins.length ic, .slice oa c.out.length oc] 25))
  have HC := Lib.hid h
  have hil := h.ins.le
  clear h
  unfold cdVal
  go_enter Tryd.func26, Tryd.ntmps26
  go_wp2
  go_loopw [3, 4] (fun v i wr => ∃ k : Nat, k ≤ c.ins.length ∧ (k = 0 ∨ cdErr c = 0) ∧ i = .int .i64 k ∧ Hid (Own (Kd.slice (Kd.int .i64)) 23 (FromB (w.heap.size + 1)) wr (w.heap.size + 1) v (aftL c k)) ∧ Hid (Below w.heap.size w wr) ∧ Hid (wr.heap[w.heap.size]? = some (.cells (cellsC c ia ic oa oc) 25 (0, 0)))) (fun _ i _ => c.ins.length - (intOf i).toNat)
  case atStart =>
    refine ⟨0, by omega, .inl rfl, rfl, ?_, below_alloc BW.out _, block_alloc KC.out _⟩
    exact ⟨[], ⟨rfl, .inr ⟨w.heap.size + 1, 0, #[], rfl, Nat.le_refl _, block_at1 w _ _, by simp [aftL], by simp [maxLen], rfl, rfl⟩⟩, .nil⟩
  case round =>
    obtain ⟨k, hk, hk0, rfl, HO, HB, KC1⟩ := hrel
    have HK0 := Lib.hid hk0
    clear hk0
    obtain ⟨z0, z1, z2, z3⟩ := cd_block4 KC1.out
    by_cases hlt : k < c.ins.length
    · have CK := Lib.hid (ref50_Check S c ⟨ia, ic, oa, oc⟩ wr (HC.out.frame (Same.below HB.out)))
      go_wp2_with fail
      refine CK.out.mono ?_
      rintro e w2 ⟨rfl, b2⟩
      have B2 := Lib.hid (below_both HB.out b2)
      have KC2 := Lib.hid (block_below b2 KC1.out)
      have O2 := Lib.hid (HO.out.below b2)
      clear b2 z0 z1 z2 z3 CK
      by_cases he : cdErr c = 0
      · have t0 : (cdErr c == 0) = true := by simpa using he
        have CB := Lib.hid (ref50_Before S c ⟨ia, ic, oa, oc⟩ (k + 1) c.regs.toNat w2 (HC.out.frame (Same.below B2.out)) (by omega) (cd_regs (cd_ok he)).1 (cd_regs (cd_ok he)).2)
        have HE := Lib.hid (before_eq (cd_ok he) (k + 1))
        have HT := Lib.hid (aftL_succ c k)
        have HL := Lib.hid (aftL_length c k)
        have HOK := Lib.hid (cd_ok he)
        have hlen := HOK.out.len
        obtain ⟨z0, z1, z2, z3⟩ := cd_block4 KC2.out
        have hcast : ((k + 1 : Nat) : Int) = (k : Int) + 1 := by omega
        rw [hcast] at CB
        clear hcast he
        go_wp2_with fail
        refine CB.out.mono ?_
        rintro e w3 ⟨v3, rfl, o3, b3⟩
        rw [HE.out] at o3
        obtain ⟨a3, c3, rfl⟩ := o3.form
        have B3 := Lib.hid (below_both B2.out b3)
        have KC3 := Lib.hid (block_below b3 KC2.out)
        have O3 := Lib.hid (O2.out.below b3)
        have HX : Hid ((Kd.slice (Kd.int .i64)).K (fun b => FromB (w.heap.size + 1) b ∧ some b ≠ _) w3 [.slice a3 (regsK (stateR c.out (c.ins.drop (k + 1))) 8).length c3] (regsK (stateR c.out (c.ins.drop (k + 1))) 8)) := own_elem O2.out b3 o3 (Array.getElem?_eq_some_iff.1 KC2.out).1
        have H3 : Hid (w.heap.size + 1 ≤ w3.heap.size) := (Array.getElem?_eq_some_iff.1 KC3.out).1
        clear o3 b3 z0 z1 z2 z3
        go_wp2_with (first
          | (at_builtin; refine wpList_append_ev _ rfl _ _ 48 rfl _ _ rfl rfl _ (run_app1 w3 infoInts rfl _ O3.out 23 [.slice a3 _ c3] _ HX.out (by rw [HL.out]; omega) (by rw [HL.out]; omega) H3.out) ?_; rintro n4 w4 ⟨ow4, g4, -, _⟩; have B4 := Lib.hid (B3.out.grown g4 B3.out.size (fun k hk => Nat.le_of_succ_le (O3.out.lt k hk).1)); have KC4 := Lib.hid (block_grown g4 KC3.out (fun e => Nat.not_succ_le_self _ (O3.out.lt _ e.symm).1)); have O4 := Lib.hid ow4; clear ow4 g4)
          | fail)
        go_roundw
        case rel => exact ⟨k + 1, by omega, .inr (by exact (show cdErr c = 0 from by simpa using t0)), by go_num, by show Own _ _ _ _ _ _ _; rw [HT.out]; exact O4.out, B4.out, KC4.out⟩
        case measure => simp [intOf]; omega
      · have t0 : (cdErr c == 0) = false := by simpa using he
        have HE : Hid (aftR c = []) := if_neg he
        have hk00 : k = 0 := by rcases HK0.out with h | h; (· exact h); (· exact absurd h he)
        have h5 := O2.out.mono (S' := FromB w.heap.size) (base' := w.heap.size) (fun b _ hb => by have : w.heap.size + 1 ≤ b := hb; show w.heap.size ≤ b; omega) (by omega)
        rw [hk00, show aftL c 0 = [] from rfl] at h5
        have O5 := Lib.hid h5
        clear h5
        clear he hk00
        go_wp2_with fail
        go_ret
        exact ⟨_, rfl, by rw [HE.out]; exact O5.out, B2.out⟩
    · obtain rfl : k = c.ins.length := by omega
      have HE : Hid (aftR c = aftL c c.ins.length) := by
        show _ = _
        unfold aftR
        by_cases he : cdErr c = 0
        · rw [if_pos he]
        · rw [if_neg he]
          rcases HK0.out with h | h
          · rw [h]; rfl
          · exact absurd h he
      go_wp2_with fail
      go_ret
      exact ⟨_, rfl, by rw [HE.out]; exact HO.out.mono (fun b _ hb => by have : w.heap.size + 1 ≤ b := hb; show w.heap.size ≤ b; omega) (by omega), HB.out⟩
theorem cut_one (g n : Nat) : ∃ A' : Option Addr, (∀ W : World, (Instr.slice 63 (.slice (some ⟨g, 0, none⟩) (n + 1) (n + 1)) (some (.int .i64 1)) none none).run Tryd.prog W = .ok (.slice A' n n) W) ∧ (0 < n → A' = some ⟨g, 8, none⟩) := by
  obtain ⟨i, hi, h2, h3, h4⟩ := info_parts infoSet.hi
  refine ⟨if n + 1 = 1 then some ⟨g, 0, none⟩ else some ⟨g, 8, none⟩, fun W => ?_, fun h => if_neg (by omega)⟩
  have hel : Tryd.prog.elem 63 = 58 := by simp [Program.elem, infoSet.ht]
  have hu : Tryd.prog.underlying 63 = some (.slice (Tryd.prog.elem 63)) := by rw [hel]; exact infoSet.ht
  have h := run_slice_l W 63 (some ⟨g, 0, none⟩) (n + 1) (n + 1) hu .i64 (1 : Int) (by decide) (by omega)
  rw [h, hel]
  simp [sizeOf, typeInfo, hi, h3, sliced, Result.andThen, add_plain]
set_option maxRecDepth 20000 in
set_option maxHeartbeats 2000000 in
theorem live_After (S : Nat → Prop) (c : Cd) (p : CdAt) (w : World) (hK : IsaT w) (h : CdRd S w c p) : Calls Tryd.prog 25 #[cdVal c p] w fun e w' => ∃ v, e = .returned v ∧ Own (Kd.slice (Kd.int .i64)) 23 (FromB w.heap.size) w' w.heap.size v (aftR c) ∧ Below w.heap.size w w' := by
  obtain ⟨ia, ic, oa, oc⟩ := p
  have BW := Lib.hid (below_alloc (Below.refl w.heap.size w) (.cells #[.int .i64 c.width, .int .i64 c.regs, .slice ia c.ins.length ic, .slice oa c.out.length oc] 25))
  have KC := Lib.hid (heap_alloc_new w (.cells #[.int .i64 c.width, .int .i64 c.regs, .slice ia c.ins.length ic, .slice oa c.out.length oc] 25))
  have HC := Lib.hid h
  unfold cdVal
  go_enter Tryd.func25, Tryd.ntmps25
  go_wp2_with fail
  refine (live_valid S c ⟨ia, ic, oa, oc⟩ _ (hK.below BW.out) (h.frame (Same.below BW.out))).mono ?_
  rintro e w2 ⟨rfl, b2⟩
  have B2 := Lib.hid (below_both BW.out b2)
  have KC2 := Lib.hid (block_below b2 KC.out)
  clear b2 h
  by_cases he : cdErr c = 0
  · have t0 : (cdErr c == 0) = true := by simpa using he
    have HE : Hid (aftR c = aftL c c.ins.length) := if_pos he
    have CS := Lib.hid (live_states S c ⟨ia, ic, oa, oc⟩ w2 (hK.below B2.out) (HC.out.frame (Same.below B2.out)) (cd_ok he))
    have hlen := (cd_ok he).len
    obtain ⟨z0, z1, z2, z3⟩ := cd_block4 KC2.out
    clear he
    go_wp2_with fail
    refine CS.out.mono ?_
    rintro e w3 ⟨g, rfl, hg, G3, b3⟩
    have B3 := Lib.hid (below_both B2.out b3)
    have HG3 := Lib.hid G3
    have hgl := G3.lt
    clear b3 z0 z1 z2 z3 G3
    obtain ⟨A', hcut, hA⟩ := cut_one g c.ins.length
    have HA := Lib.hid hA
    clear hA
    go_wp2_with fail
    go_loopw [3, 13] (fun v i wr => ∃ k : Nat, k ≤ c.ins.length ∧ i = .int .i64 k ∧ Hid (Own (Kd.slice (Kd.int .i64)) 23 (FromB (g + 1)) wr (g + 1) v (aftL c k)) ∧ Hid (Below w.heap.size w wr) ∧ Hid (Grid wr g (c.ins.length + 1) fun i => stateR c.out (c.ins.drop i)) ∧ Hid (g + 1 ≤ wr.heap.size)) (fun _ i _ => c.ins.length - (intOf i).toNat)
    case atStart => exact ⟨0, by omega, rfl, Own.nil _ _ _ _ _, B3.out, HG3.out, hgl⟩
    case round =>
      obtain ⟨k, hk, rfl, HO, HB, HG, HZ⟩ := hrel
      by_cases hlt : k < c.ins.length
      · have hAe := HA.out (by omega)
        subst hAe
        have f := HG.out.cells (i := k + 1) (by omega)
        have e8 : 8 + k * 8 = (k + 1) * 8 := by omega
        rw [← e8] at f
        obtain ⟨f0, f1, f2, f3, f4, f5, f6, f7⟩ := f
        have HT := Lib.hid (aftL_succ c k)
        have HL := Lib.hid (aftL_length c k)
        clear e8
        generalize hs : stateR c.out (c.ins.drop (k + 1)) = s at *
        have HS := Lib.hid hs
        clear hs
        have HOX := Lib.hid (HO.out.alloc (.cells (cellsB s) 58))
        have BX := Lib.hid (below_alloc HB.out (.cells (cellsB s) 58))
        have HGX := Lib.hid (HG.out.below (below_alloc (Below.refl _ wr) (.cells (cellsB s) 58)))
        have HZX : Hid (g + 1 ≤ (wr.alloc (.cells (cellsB s) 58)).heap.size) := HGX.out.lt
        clear HA
        go_wp2_with fail
        refine (live_list s _).mono ?_
        rintro e w5 ⟨v5, rfl, o5, b5⟩
        obtain ⟨a5, c5, rfl⟩ := o5.form
        have B5 := Lib.hid (below_both BX.out b5)
        have G5 := Lib.hid (HGX.out.below b5)
        have O5 := Lib.hid (HOX.out.below b5)
        have HX : Hid ((Kd.slice (Kd.int .i64)).K (fun b => FromB (g + 1) b ∧ some b ≠ _) w5 [.slice a5 (regsK s 8).length c5] (regsK s 8)) := own_elem HOX.out b5 o5 HZX.out
        have H5 : Hid (g + 1 ≤ w5.heap.size) := G5.out.lt
        have HR5 : Hid (∀ k, u3.ownBlock = some k → w.heap.size ≤ k) := fun k hk => by have := (HO.out.lt k hk).1; have := B2.out.size; omega
        have HG5 : Hid (∀ k, u3.ownBlock = some k → g ≠ k) := fun k hk => by have := (HO.out.lt k hk).1; omega
        clear o5 b5 f0 f1 f2 f3 f4 f5 f6 f7
        go_wp2_with (first
          | (at_builtin; refine wpList_append_ev _ rfl _ _ 48 rfl _ _ rfl rfl _ (run_app1 w5 infoInts rfl _ O5.out 23 [.slice a5 _ c5] _ HX.out (by rw [HL.out]; omega) (by rw [HL.out]; omega) H5.out) ?_; rintro n6 w6 ⟨ow6, g6, -, _⟩; have B6 := Lib.hid (B5.out.grown g6 B5.out.size HR5.out); have G6 := Lib.hid (G5.out.frame (g6.block g G5.out.lt (fun e => HG5.out _ e.symm rfl))); have O6 := Lib.hid ow6; have H6 : Hid (g + 1 ≤ w6.heap.size) := Nat.le_trans H5.out g6.size; clear ow6 g6)
          | fail)
        go_roundw
        case rel => exact ⟨k + 1, by omega, by go_num, by show Own _ _ _ _ _ _ _; rw [HT.out]; exact O6.out, B6.out, G6.out, H6.out⟩
        case measure => simp [intOf]; omega
      · obtain rfl : k = c.ins.length := by omega
        go_wp2_with fail
        go_ret
        exact ⟨_, rfl, by rw [HE.out]; exact HO.out.mono (fun b _ hb => by have : g + 1 ≤ b := hb; have := B2.out.size; show w.heap.size ≤ b; omega) (by have := B2.out.size; omega), HB.out⟩
  · have t0 : (cdErr c == 0) = false := by simpa using he
    have HE : Hid (aftR c = []) := if_neg he
    clear he
    go_wp2_with fail
    go_ret
    exact ⟨_, rfl, by rw [HE.out]; exact Own.nil _ _ _ _ _, B2.out⟩
end Go.Proofs.Sat
