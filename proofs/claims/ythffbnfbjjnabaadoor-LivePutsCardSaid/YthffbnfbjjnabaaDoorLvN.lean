/- The walks of refused, the program's and the reference's; of Remove. -/
import Derived.Test.YthffbnfbjjnabaaDoorLvL
set_option linter.unusedVariables false
set_option linter.unusedSimpArgs false
namespace Go.Proofs.Sat
open Go Go.RowKit
set_option maxRecDepth 20000 in
set_option maxHeartbeats 2000000 in
theorem live_refused (S : Nat → Prop) (c : Cd) (p : CdAt) (f n : Int) (w : World) (hK : IsaT w) (h : CdRd S w c p) (hf : -9223372036854775808 ≤ f ∧ f ≤ 9223372036854775807) (hn : -9223372036854775808 ≤ n ∧ n ≤ 9223372036854775807) : Calls Tryd.prog 44 #[cdVal c p, .int .i64 f, .int .i64 n] w fun e w' => e = .returned (.int .i64 (winErr c f n)) ∧ Below w.heap.size w w' := by
  obtain ⟨ia, ic, oa, oc⟩ := p
  have BW := Lib.hid (below_alloc (Below.refl w.heap.size w) (.cells (cellsC c ia ic oa oc) 25))
  have KC := Lib.hid (heap_alloc_new w (.cells (cellsC c ia ic oa oc) 25))
  have hil := h.ins.le
  obtain ⟨hf1, hf2⟩ := hf
  obtain ⟨hn1, hn2⟩ := hn
  unfold cdVal
  go_enter Tryd.func44, Tryd.ntmps44
  go_wp2_with fail
  refine (isa_Check S c ⟨ia, ic, oa, oc⟩ _ (hK.below BW.out) (h.frame (Same.below BW.out))).mono ?_
  rintro e w2 ⟨rfl, b2⟩
  have B2 := Lib.hid (below_both BW.out b2)
  have KC2 := Lib.hid (block_below b2 KC.out)
  clear b2 h
  obtain ⟨z0, z1, z2, z3⟩ := cd_block4 KC2.out
  by_cases he : cdErr c = 0
  · have t0 : (cdErr c != 0) = false := by simpa using he
    have HE : Hid (winErr c f n = if f < 0 ∨ n < 0 ∨ (c.ins.length : Int) < n ∨ (c.ins.length : Int) - n < f then 2 else 0) := by show _ = _; unfold winErr; rw [if_neg (not_not_intro he)]
    clear he
    by_cases h1 : f < 0
    · have HE2 : Hid (winErr c f n = 2) := by show _ = _; rw [HE.out, if_pos (.inl h1)]
      go_wp2_with fail
      go_ret
      exact ⟨ret_int HE2.out.symm, B2.out⟩
    by_cases h2 : n < 0
    · have HE2 : Hid (winErr c f n = 2) := by show _ = _; rw [HE.out, if_pos (.inr (.inl h2))]
      go_wp2_with fail
      go_ret
      exact ⟨ret_int HE2.out.symm, B2.out⟩
    by_cases h3 : (c.ins.length : Int) < n
    · have HE2 : Hid (winErr c f n = 2) := by show _ = _; rw [HE.out, if_pos (.inr (.inr (.inl h3)))]
      go_wp2_with fail
      go_ret
      exact ⟨ret_int HE2.out.symm, B2.out⟩
    by_cases h4 : (c.ins.length : Int) - n < f
    · have HE2 : Hid (winErr c f n = 2) := by show _ = _; rw [HE.out, if_pos (.inr (.inr (.inr h4)))]
      go_wp2_with fail
      go_ret
      exact ⟨ret_int HE2.out.symm, B2.out⟩
    · have HE2 : Hid (winErr c f n = 0) := by show _ = _; rw [HE.out, if_neg (by omega)]
      go_wp2_with fail
      go_ret
      exact ⟨ret_int HE2.out.symm, B2.out⟩
  · have t0 : (cdErr c != 0) = true := by simpa using he
    have HE : Hid (winErr c f n = cdErr c) := by show _ = _; unfold winErr; rw [if_pos he]
    clear he
    go_wp2_with fail
    go_ret
    exact ⟨ret_int HE.out.symm, B2.out⟩
set_option maxRecDepth 20000 in
set_option maxHeartbeats 2000000 in
theorem ref50_refused (S : Nat → Prop) (c : Cd) (p : CdAt) (f n : Int) (w : World) (h : CdRd S w c p) (hf : -9223372036854775808 ≤ f ∧ f ≤ 9223372036854775807) (hn : -9223372036854775808 ≤ n ∧ n ≤ 9223372036854775807) : Calls Tryd.prog 46 #[cdVal c p, .int .i64 f, .int .i64 n] w fun e w' => e = .returned (.int .i64 (winErr c f n)) ∧ Below w.heap.size w w' := by
  obtain ⟨ia, ic, oa, oc⟩ := p
  have BW := Lib.hid (below_alloc (Below.refl w.heap.size w) (.cells (cellsC c ia ic oa oc) 25))
  have KC := Lib.hid (heap_alloc_new w (.cells (cellsC c ia ic oa oc) 25))
  have hil := h.ins.le
  obtain ⟨hf1, hf2⟩ := hf
  obtain ⟨hn1, hn2⟩ := hn
  unfold cdVal
  go_enter Tryd.func46, Tryd.ntmps46
  go_wp2_with fail
  refine (ref50_Check S c ⟨ia, ic, oa, oc⟩ _ (h.frame (Same.below BW.out))).mono ?_
  rintro e w2 ⟨rfl, b2⟩
  have B2 := Lib.hid (below_both BW.out b2)
  have KC2 := Lib.hid (block_below b2 KC.out)
  clear b2 h
  obtain ⟨z0, z1, z2, z3⟩ := cd_block4 KC2.out
  by_cases he : cdErr c = 0
  · have t0 : (cdErr c != 0) = false := by simpa using he
    have HE : Hid (winErr c f n = if f < 0 ∨ n < 0 ∨ (c.ins.length : Int) < n ∨ (c.ins.length : Int) - n < f then 2 else 0) := by show _ = _; unfold winErr; rw [if_neg (not_not_intro he)]
    clear he
    by_cases h1 : f < 0
    · have HE2 : Hid (winErr c f n = 2) := by show _ = _; rw [HE.out, if_pos (.inl h1)]
      go_wp2_with fail
      go_ret
      exact ⟨ret_int HE2.out.symm, B2.out⟩
    by_cases h2 : n < 0
    · have HE2 : Hid (winErr c f n = 2) := by show _ = _; rw [HE.out, if_pos (.inr (.inl h2))]
      go_wp2_with fail
      go_ret
      exact ⟨ret_int HE2.out.symm, B2.out⟩
    by_cases h3 : (c.ins.length : Int) < n
    · have HE2 : Hid (winErr c f n = 2) := by show _ = _; rw [HE.out, if_pos (.inr (.inr (.inl h3)))]
      go_wp2_with fail
      go_ret
      exact ⟨ret_int HE2.out.symm, B2.out⟩
    by_cases h4 : (c.ins.length : Int) - n < f
    · have HE2 : Hid (winErr c f n = 2) := by show _ = _; rw [HE.out, if_pos (.inr (.inr (.inr h4)))]
      go_wp2_with fail
      go_ret
      exact ⟨ret_int HE2.out.symm, B2.out⟩
    · have HE2 : Hid (winErr c f n = 0) := by show _ = _; rw [HE.out, if_neg (by omega)]
      go_wp2_with fail
      go_ret
      exact ⟨ret_int HE2.out.symm, B2.out⟩
  · have t0 : (cdErr c != 0) = true := by simpa using he
    have HE : Hid (winErr c f n = cdErr c) := by show _ = _; unfold winErr; rw [if_pos he]
    clear he
    go_wp2_with fail
    go_ret
    exact ⟨ret_int HE.out.symm, B2.out⟩
theorem ret_cd {c d : Cd} {a b : Option Addr} {n m : Nat} {k l : Int} (h1 : c = d) (h2 : k = l) : Ending.returned (.tuple #[.agg (cellsC c a n b m), .int .i64 k]) = .returned (.tuple #[cdVal d ⟨a, n, b, m⟩, .int .i64 l]) := by subst h1 h2; rfl
theorem four_set' {w : World} {g : Nat} {t : TypeId} {c : Cd} {a b : Option Addr} {n m : Nat} (h : w.heap[g]? = some (.cells (cellsC c a n b m) t (0, 0))) (u0 u1 u2 u3 : Value) :
    ((((w.setCell ⟨g, 0, none⟩ u0).setCell ⟨g, 1, none⟩ u1).setCell ⟨g, 2, none⟩ u2).setCell ⟨g, 3, none⟩ u3).heap[g]? = some (.cells #[u0, u1, u2, u3] t (0, 0)) := four_set h u0 u1 u2 u3
set_option maxRecDepth 20000 in
set_option maxHeartbeats 2000000 in
theorem ref50_Remove (S : Nat → Prop) (c : Cd) (p : CdAt) (w : World) (h : CdRd S w c p) : Calls Tryd.prog 13 #[cdVal c p] w fun e w' => ∃ p', e = .returned (.tuple #[cdVal (remC c) p', .int .i64 (cdErr c)]) ∧ CdRd (fun _ => True) w' (remC c) p' ∧ Below w.heap.size w w' := by
  obtain ⟨ia, ic, oa, oc⟩ := p
  have BW := Lib.hid (below_alloc (below_alloc (Below.refl w.heap.size w) (.cells (cellsC c ia ic oa oc) 25)) (.cells (cellsC cd0 none 0 none 0) 25))
  have KC := Lib.hid (block_alloc (heap_alloc_new w (.cells (cellsC c ia ic oa oc) 25)) (.cells (cellsC cd0 none 0 none 0) 25))
  have KZ := Lib.hid (block_at1 w (.cells (cellsC c ia ic oa oc) 25) (.cells (cellsC cd0 none 0 none 0) 25))
  have HC := Lib.hid h
  have hil := h.ins.le
  unfold cdVal
  go_enter Tryd.func13, Tryd.ntmps13
  go_wp2_with fail
  refine (ref50_Check S c ⟨ia, ic, oa, oc⟩ _ (h.frame (Same.below BW.out))).mono ?_
  rintro e w2 ⟨rfl, b2⟩
  have B2 := Lib.hid (below_both BW.out b2)
  have KC2 := Lib.hid (block_below b2 KC.out)
  have KZ2 := Lib.hid (block_below b2 KZ.out)
  have HZ2 : Hid (w.heap.size + 2 ≤ w2.heap.size) := (Array.getElem?_eq_some_iff.1 KZ2.out).1
  clear b2 h
  by_cases he : cdErr c = 0
  · have t0 : (cdErr c != 0) = false := by simpa using he
    have HOK := Lib.hid (cd_ok he)
    have HRM : Hid (remC c = remK c 0) := by show _ = _; unfold remC; rw [if_pos he, remK_zero]
    have hlen := HOK.out.len
    have HER := Lib.hid he
    obtain ⟨z0, z1, z2, z3⟩ := cd_block4 KC2.out
    clear he
    go_wp2_with fail
    go_loopw [5] (fun v wr => ∃ (k : Nat) (ja : Option Addr) (jc : Nat), k ≤ c.ins.length ∧ v = .int .i64 ((k : Int) - 1) ∧ Hid (wr.heap[w.heap.size]? = some (.cells (cellsC (remK c k) ja jc oa oc) 25 (0, 0))) ∧ Hid (wr.heap[w.heap.size + 1]? = some (.cells (cellsC cd0 none 0 none 0) 25 (0, 0))) ∧ Hid (CdRd (fun b => b ≠ w.heap.size ∧ b ≠ w.heap.size + 1) wr (remK c k) ⟨ja, jc, oa, oc⟩) ∧ Hid (Below w.heap.size w wr) ∧ Hid (w.heap.size + 2 ≤ wr.heap.size)) (fun v _ => (intOf v + 1).toNat)
    case atStart =>
      refine ⟨c.ins.length, ia, ic, Nat.le_refl _, rfl, ?_, KZ2.out, ?_, B2.out, HZ2.out⟩
      · rw [remK_top]; exact KC2.out
      · rw [remK_top]
        have hc : CdRd (fun b => b < w.heap.size) w c ⟨ia, ic, oa, oc⟩ := ⟨HC.out.ins.lt, HC.out.out.lt⟩
        exact (hc.mono (S' := fun b => b ≠ w.heap.size ∧ b ≠ w.heap.size + 1) (fun b _ hb => by omega)).frame (Same.below B2.out)
    case round =>
      clear z0 z1 z2 z3
      obtain ⟨k, ja, jc, hk, rfl, KC3, KZ3, HC3, HB, HZ3⟩ := hrel
      obtain ⟨z0, z1, z2, z3⟩ := cd_block4 KC3.out
      by_cases hlt : 0 < k
      · obtain ⟨j, rfl⟩ : ∃ j, k = j + 1 := ⟨k - 1, by omega⟩
        have hj : j < c.ins.length := by omega
        rw [show ((j + 1 : Nat) : Int) - 1 = (j : Int) from by omega]
        have HRL := Lib.hid (remK_len c (j + 1) hk)
        have HDE := Lib.hid (remK_dead HOK.out hj)
        have HST := Lib.hid (remK_step hj)
        have CD := Lib.hid (ref50_Dead _ (remK c (j + 1)) ⟨ja, jc, oa, oc⟩ (j : Int) wr HC3.out)
        go_wp2_with fail
        refine CD.out.mono ?_
        rintro e w4 ⟨rfl, b4⟩
        have B4 := Lib.hid (below_both HB.out b4)
        have KC4 := Lib.hid (block_below b4 KC3.out)
        have KZ4 := Lib.hid (block_below b4 KZ3.out)
        have HC4 := Lib.hid (HC3.out.frame (Same.below b4))
        have HZ4 := Lib.hid (Nat.le_trans HZ3.out b4.size)
        rw [← HDE.out] at HST
        clear b4 z0 z1 z2 z3 CD HDE
        cases hd : deadL (remK c (j + 1)) j
        · rw [hd] at HST
          have HST2 : Hid (remK c j = remK c (j + 1)) := HST.out
          clear hd HST
          go_wp2_with fail
          go_roundw
          case rel => exact ⟨j, ja, jc, by omega, by go_num, by rw [HST2.out]; exact KC4.out, KZ4.out, by rw [HST2.out]; exact HC4.out, B4.out, HZ4.out⟩
          case measure => simp [intOf] <;> omega
        · rw [hd] at HST
          have HST2 : Hid (remK c j = wout (remK c (j + 1)) j) := HST.out
          clear hd HST
          obtain ⟨z0, z1, z2, z3⟩ := cd_block4 KC4.out
          go_wp2_with fail
          refine (ref50_Without _ (remK c (j + 1)) ⟨ja, jc, oa, oc⟩ j w4 HC4.out (by have := HRL.out; omega) (by have := HRL.out; omega)).mono ?_
          rintro e w5 ⟨na, nc, rfl, r5, b5⟩
          have B5 := Lib.hid (below_both B4.out b5)
          have KC5 := Lib.hid (block_below b5 KC4.out)
          have KZ5 := Lib.hid (block_below b5 KZ4.out)
          have HO5 := Lib.hid (HC4.out.out.frame (Same.below b5))
          have R5 := Lib.hid (r5.mono (S' := fun b => b ≠ w.heap.size ∧ b ≠ w.heap.size + 1) (fun b _ hb => by have := HZ4.out; have : w4.heap.size + 2 ≤ b := hb; omega))
          have HZ5 := Lib.hid (Nat.le_trans HZ4.out b5.size)
          clear b5 r5 z0 z1 z2 z3
          obtain ⟨z0, z1, z2, z3⟩ := cd_block4 KC5.out
          have zf : ∀ i, w5.frozen? ⟨w.heap.size, i, none⟩ = false := fun i => frozen_of_block KC5.out
          go_wp2_with fail
          go_roundw
          case rel =>
            refine ⟨j, na, nc, by omega, by go_num, ?_, ?_, ?_, ?_, ?_⟩
            · show _ = _
              rw [HST2.out]
              exact four_set' KC5.out _ _ _ _
            · exact (four_far _ _ _ _ _ _ _ (by omega)).trans KZ5.out
            · rw [HST2.out]
              exact ⟨R5.out.frame (four_same (fun b hb => hb.1) _ _ _ _), HO5.out.frame (four_same (fun b hb => hb.1) _ _ _ _)⟩
            · exact four_below B5.out (Nat.le_refl _) _ _ _ _
            · exact Nat.le_trans HZ5.out (by simp [World.setCell])
          case measure => simp [intOf] <;> omega
      · obtain rfl : k = 0 := by omega
        obtain ⟨y0, y1, y2, y3⟩ := cd_block4 KZ3.out
        have zf : ∀ i, wr.frozen? ⟨w.heap.size + 1, i, none⟩ = false := fun i => frozen_of_block KZ3.out
        go_wp2_with fail
        refine bodyPost_ret_block2 (cs := cellsC (remK c 0) ja jc oa oc) (w.heap.size + 1) (0, 0) _ rfl rfl rfl (four_set' KZ3.out _ _ _ _) Tryd.underlying25 rfl (by kernel_rfl) rfl ⟨⟨ja, jc, oa, oc⟩, ret_cd HRM.out.symm HER.out.symm, ?_, four_below HB.out (by omega) _ _ _ _⟩
        rw [HRM.out]
        exact (HC3.out.frame (four_same (fun b hb => hb.2) _ _ _ _)).mono (fun _ _ _ => trivial)
  · have t0 : (cdErr c != 0) = true := by simpa using he
    have HRM : Hid (remC c = cd0) := by show _ = _; unfold remC; rw [if_neg he]
    clear he
    obtain ⟨y0, y1, y2, y3⟩ := cd_block4 KZ2.out
    have zf : ∀ i, w2.frozen? ⟨w.heap.size + 1, i, none⟩ = false := fun i => frozen_of_block KZ2.out
    go_wp2_with fail
    refine bodyPost_ret_block2 (cs := cellsC cd0 none 0 none 0) (w.heap.size + 1) (0, 0) _ rfl rfl rfl (four_set' KZ2.out _ _ _ _) Tryd.underlying25 rfl (by kernel_rfl) rfl ⟨⟨none, 0, none, 0⟩, by rw [HRM.out]; rfl, ?_, four_below B2.out (by omega) _ _ _ _⟩
    rw [HRM.out]
    exact ⟨Rd.nil _ _ _ _ _ (by decide), Rd.nil _ _ _ _ _ (by decide)⟩
end Go.Proofs.Sat
