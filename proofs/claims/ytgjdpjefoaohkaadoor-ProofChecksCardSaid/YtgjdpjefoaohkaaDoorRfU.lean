/- The walk of the reference's Trim. -/
import Derived.Test.YtgjdpjefoaohkaaDoorRfT
set_option linter.unusedVariables false
set_option linter.unusedSimpArgs false
namespace Go.Proofs.Sat
open Go Go.RowKit
set_option maxRecDepth 20000 in
set_option maxHeartbeats 2000000 in
theorem ref34_Trim (a : Option Addr) (c : Nat) (l : List St) (w : World) (h : Rd kSt (fun _ => True) w a c l) (hL : ∀ x ∈ l, Lite x) :
    Calls Tryd.prog 20 #[.slice a l.length c] w fun e w' => ∃ a' c', e = .returned (.slice a' (trimL l).length c') ∧ Rd kSt (fun _ => True) w' a' c' (trimL l) ∧ Below w.heap.size w w' := by
  have hl := h.le
  go_enter Tryd.func20, Tryd.ntmps20
  by_cases he : (chk l).2 = 0
  · have HE := Lib.hid he
    have HT : Hid (trimL l = trimN l (needed l).length) := if_pos HE.out
    have hne : 0 < (needed l).length := List.length_pos_iff.2 (needed_ne he)
    have hNl := needed_length l
    have h64 := (chk_ok he).2.1
    clear he
    rw [HT.out]
    have t0 : (((needed l).length : Int) == 0) = false := by rw [beq_eq_false_iff_ne]; omega
    go_wp2_with (first
      | (go_at_call 17; refine (ref34_Needed _ a c l w h).mono ?_; rintro e w1 ⟨v, rfl, ho, hb1⟩; obtain ⟨aN, cN, rfl, hN⟩ := ho.rd; have HN1 := Lib.hid hN; have HB1 := Lib.hid hb1; clear ho hN hb1)
      | fail)
    clear t0
    go_loopw [4, 5] (fun v i wr => ∃ n : Nat, n ≤ (needed l).length ∧ i = .int .i64 n ∧ Hid (Own kSt 36 (fun _ => True) wr w1.heap.size v (trimN l n)) ∧ Hid (Below w1.heap.size w1 wr)) (fun _ i _ => (needed l).length - (intOf i).toNat)
    case atStart => exact ⟨0, by omega, rfl, Own.nil _ _ _ _ _, Below.refl _ _⟩
    case round =>
      obtain ⟨n, hnN, rfl, HO, HB⟩ := hrel
      obtain ⟨av, cv, hv⟩ := HO.out.form
      rw [trimN_length HE.out n hnN] at hv
      subst hv
      have HBW := Lib.hid (below_both HB1.out HB.out)
      by_cases hlt : n < (needed l).length
      · have hna := needed_at HE.out hlt
        obtain ⟨bN, oN, rfl, _, _, hcN⟩ := (HN1.out.frame (Same.below HB.out)).vals (by omega) 0
        have u1 := hcN n hlt
        rw [getD_at (needed l) hlt] at u1
        have HTS := Lib.hid (trimN_succ HE.out hlt)
        have hlN := trimN_length HE.out n hnN
        have HN2 := Lib.hid (HN1.out.frame (Same.below HB.out))
        clear hcN
        generalize (needed l)[n] = iv at *
        obtain ⟨im, rfl⟩ := Int.eq_ofNat_of_zero_le hna.1
        have him : im < l.length := by omega
        obtain ⟨b, o, p, rfl, hbl, hr, IN⟩ := st_elem h him
        have hlx := Lib.hid (hL _ (List.getElem_mem him))
        have HTS' := Lib.hid (HTS.out him)
        generalize hx : l[((im : Nat) : Int).toNat]'him = x at *
        have hx' : l[im] = x := hx
        rw [hx'] at hr IN hlx
        obtain ⟨ra, rc, sa, sc, aa, ac, ba, bc⟩ := p
        have hr0 : Hid (StRd (fun b => b < w.heap.size) wr x ⟨ra, rc, sa, sc, aa, ac, ba, bc⟩) := (hr.mono fun b hb _ => hb).frame (Same.below HBW.out)
        obtain ⟨i0, i1, i2, i3, i4, i5, i6, i7, i8, i9, i10, i11, i12, i13⟩ := IN.frame (HBW.out.block b hbl)
        have hsz := HB1.out.size
        have hsz2 := HB.out.size
        dsimp only at *
        clear hr IN hx hx' HTS hna
        go_wp2_with (first
          | (go_at_call 38
             refine (ref34_moved _ _ x ⟨ra, rc, sa, sc, aa, ac, ba, bc⟩ (some ⟨bN, oN, none⟩) cN (needed l) wr hr0.out HN2.out hlx.out.r).mono ?_
             rintro e w2 ⟨fa, fc, rfl, fr, b2⟩
             have B2 := Lib.hid (below_both HB.out b2)
             have O2 := Lib.hid (HO.out.below b2)
             have K2 : Hid (kSt.K (fun b => True ∧ some b ≠ (Value.slice av n cv).ownBlock) w2 (stCells (movedS (needed l) x) ⟨fa, fc, sa, sc, aa, ac, ba, bc⟩) (movedS (needed l) x)) := by
               have h2 := hr0.out.frame (Same.below b2)
               have hlo : ∀ b, b < w.heap.size → True ∧ some b ≠ (Value.slice av n cv).ownBlock := fun b hb => ⟨trivial, fun e => by have := (HO.out.lt b e.symm).1; omega⟩
               exact ⟨⟨fa, fc, sa, sc, aa, ac, ba, bc⟩, rfl, fr.mono (fun b _ hb => ⟨trivial, fun e => by have := (HO.out.lt b e.symm).2; have hb' : wr.heap.size ≤ b := hb; omega⟩), h2.subs.mono fun b _ hb => hlo b hb, h2.a.mono fun b _ hb => hlo b hb, h2.b.mono fun b _ hb => hlo b hb⟩
             clear fr b2)
          | (at_builtin
             refine wpList_append_ev _ rfl _ _ 27 rfl _ _ rfl rfl _ (run_app1 w2 infoSt rfl _ O2.out 36 (stCells (movedS (needed l) x) ⟨fa, fc, sa, sc, aa, ac, ba, bc⟩) (movedS (needed l) x) K2.out (by omega) (by omega) B2.out.size) ?_
             rintro n2 w3 ⟨ow3, g3, v3, _⟩
             have O3 := Lib.hid ow3
             have B3 := Lib.hid (B2.out.grown g3 B2.out.size (fun k hk => (HO.out.lt k hk).1))
             clear ow3 g3 v3)
          | fail)
        go_roundw
        case rel =>
          refine ⟨n + 1, by omega, by go_num, ?_, B3.out⟩
          show Own _ _ _ _ _ _ _
          rw [HTS'.out]
          exact O3.out
        case measure => simp [intOf]; omega
      · obtain rfl : n = (needed l).length := by omega
        obtain ⟨a9, c9, e9, r9⟩ := HO.out.rd
        have R9 := Lib.hid r9
        have HLN := Lib.hid (trimN_length HE.out _ (Nat.le_refl _))
        clear r9
        go_wp2
        go_ret
        refine ⟨a9, c9, ?_, R9.out.mono fun _ _ _ => trivial, HBW.out⟩
        rw [e9]
        rfl
  · have HE := Lib.hid he
    have HT : Hid (trimL l = l) := if_neg HE.out
    have HN : Hid (needed l = []) := if_neg HE.out
    clear he
    rw [HT.out]
    go_wp2_with (first
      | (go_at_call 17; refine (ref34_Needed _ a c l w h).mono ?_; rintro e w1 ⟨v, rfl, ho, hb1⟩; rw [HN.out] at ho; obtain ⟨aN, cN, rfl⟩ := ho.form; have HB1 := Lib.hid hb1; clear ho hb1)
      | fail)
    go_ret
    exact ⟨_, _, rfl, h.frame (Same.below HB1.out), HB1.out⟩
end Go.Proofs.Sat
