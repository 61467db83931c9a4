/- The walk of the law IsaLong. -/
import Derived.Test.YtiepphjpfjfkmaaDoorMsP
import Derived.Test.YtiepphjpfjfkmaaDoorMtC
import Derived.Laws.IdiomStrings
set_option linter.unusedVariables false
set_option linter.unusedSimpArgs false
namespace Go.Proofs.Sat
open Go Go.RowKit
theorem u8_wf {n : Int} (h : (Lit.int .u8 n).wf = true) : 0 ≤ n ∧ n < 256 := by
  simp [Lit.wf, IntKind.min, IntKind.max, IntKind.signed, IntKind.bits] at h
  omega
theorem below_grownN' {w w1 w2 : World} (h : Below w.heap.size w w1) (hg : w1.grownBy w2 none) : Below w.heap.size w w2 := h.grown hg h.size (fun k hk => by cases hk)
theorem infoU8 : ElemInfo Tryd.prog 33 5 (.int .u8 0) 1 1 := ⟨Tryd.underlying33, by kernel_rfl, rfl, by decide⟩
def xsW (L j : Nat) : List Int := List.replicate j 120 ++ List.replicate (L - j) 0
theorem xsW_len {L j : Nat} (h : j ≤ L) : (xsW L j).length = L := by unfold xsW; simp; omega
theorem xsW_set {L j : Nat} (h : j < L) : (xsW L j).set j 120 = xsW L (j + 1) := by
  unfold xsW
  rw [List.set_append_right _ _ (by simp), List.length_replicate, Nat.sub_self, show L - j = (L - (j + 1)) + 1 by omega, List.replicate_succ, List.set_cons_zero, List.replicate_succ', List.append_assoc]
  rfl
theorem xsW_full (L : Nat) : xsW L L = List.replicate L 120 := by unfold xsW; simp
set_option maxRecDepth 20000 in
set_option maxHeartbeats 4000000 in
theorem law48_Long (n : Int) (w : World) (hT : MsT w) (hn : 0 ≤ n ∧ n < 256) : Calls Tryd.prog 4 #[.int .u8 n] w fun e w' => e = .returned (.bool true) ∧ Below w.heap.size w w' := by
  obtain ⟨k, rfl⟩ := Int.eq_ofNat_of_zero_le hn.1
  have hk : k < 256 := by omega
  have HT := Lib.hid hT
  have CL := Lib.hid (fun W (h : MsT W) => law48_lives W h)
  obtain ⟨L, hL⟩ : ∃ L : Nat, L = 65535 + k % 4 := ⟨_, rfl⟩
  have t0 : (65535 : Int) + Int.tmod (k : Int) 4 = (L : Int) := by rw [Int.tmod_eq_emod_of_nonneg (by omega)]; omega
  have t1 : (65535 : Int) + (k : Int) % 4 = (L : Int) := by omega
  have hL1 : 65535 ≤ L := by omega
  have hL2 : L ≤ 65538 := by omega
  have CP : Hid (∀ W, MsT W → Calls Tryd.prog 11 #[.string (strOf (List.replicate L 120))] W fun e w' => ∃ ia ic oa oc, e = .returned (.tuple #[.agg #[.int .i64 0, .int .i64 0, .slice ia 0 ic, .slice oa 0 oc], .int .i64 (if 65536 < L then 0 else 1), .int .i64 (if 65536 < L then 7 else 6)]) ∧ Below W.heap.size W w') := fun W hW => by
    refine (isa_Parse (List.replicate L 120) W (by rw [List.length_replicate]; omega) hW.dig hW.nam hW.isa).mono ?_
    rintro e w' ⟨c, ⟨ia, ic, oa, oc⟩, k, er, rfl, hp, hr, hb⟩
    rw [parse_xs L (by omega)] at hp
    by_cases h : 65536 < L
    · rw [if_pos h] at hp; rw [if_pos h, if_pos h]
      cases hp
      exact ⟨ia, ic, oa, oc, rfl, hb⟩
    · rw [if_neg h] at hp; rw [if_neg h, if_neg h]
      cases hp
      exact ⟨ia, ic, oa, oc, rfl, hb⟩
  clear hT hn hL
  go_enter Tryd.func4, Tryd.ntmps4
  go_wp2_with (first
    | (refine wpList_make_ev _ rfl _ _ 33 rfl _ _ rfl rfl _ (run_mk _ (enc := fun x => .int .u8 x) (fun _ => rfl) infoU8 NoS _ _ _ _ L rfl rfl (by omega) (by omega) (Nat.le_refl _)) ?_; rintro v' w1 ⟨ho, hg, rfl⟩)
    | fail)
  have HO : Hid (Own (Kd.int .u8) 5 NoS w1 w.heap.size (.slice (some ⟨w.heap.size, 0, none⟩) L L) (xsW L 0)) := by
    show Own _ _ _ _ _ _ _
    rw [show xsW L 0 = List.replicate L 0 by simp [xsW]]
    exact ho
  have B1 := Lib.hid (below_grownN' (Below.refl w.heap.size w) hg)
  clear ho hg
  go_loopw [4] (fun i wr => ∃ j : Nat, j ≤ L ∧ i = .int .i64 j ∧ Hid (Own (Kd.int .u8) 5 NoS wr w.heap.size (.slice (some ⟨w.heap.size, 0, none⟩) L L) (xsW L j)) ∧ Hid (Below w.heap.size w wr)) (fun i _ => L - (intOf i).toNat)
  case atStart => exact ⟨0, by omega, rfl, HO, B1⟩
  case round =>
    obtain ⟨j, hj9, rfl, HP, HB⟩ := hrel
    by_cases hlt : j < L
    · obtain ⟨hc, hf⟩ := Own.at HP.out (xsW_len hj9)
      have c0 := hc j (by rw [xsW_len hj9]; exact hlt)
      have f0 := hf j
      clear hc hf
      have HN : Hid (Own (Kd.int .u8) 5 NoS (wr.setCell ⟨w.heap.size, j, none⟩ (.int .u8 120)) w.heap.size (.slice (some ⟨w.heap.size, 0, none⟩) L L) (xsW L (j + 1))) := by
        have := Own.set HP.out (xsW_len hj9) j hlt 120
        rw [xsW_set hlt] at this
        exact this
      generalize (xsW L j)[j]'(by rw [xsW_len hj9]; exact hlt) = old at c0
      go_wp2_with fail
      go_roundw
      case rel => exact ⟨j + 1, by omega, by go_num, HN, HB.out.setCell (Nat.le_refl _) _⟩
      case measure => simp [intOf]; omega
    · obtain rfl : j = L := by omega
      have hcv : (convert 33 9 (.slice (some ⟨w.heap.size, 0, none⟩) j j)).run Tryd.prog wr = .ok (.string (strOf (List.replicate j 120))) wr := by
        obtain ⟨hc, hf⟩ := Own.at HP.out (xsW_len hj9)
        have h := run_convert_bytes_back (P := Tryd.prog) wr 33 9 5 ⟨w.heap.size, 0, none⟩ j (List.replicate j 120) Tryd.underlying33 Tryd.underlying5 Tryd.underlying9 (fun i hi => by
          rw [List.length_replicate] at hi
          have := hc i (by rw [xsW_len hj9]; exact hi)
          rw [add_plain, Nat.zero_add, this]
          simp [xsW])
        rw [List.length_replicate] at h
        exact h
      go_wp2_with fail
      refine (CP.out _ (HT.out.below HB.out)).mono ?_
      rintro e w2 ⟨ia, ic, oa, oc, rfl, b2⟩
      have B2 := Lib.hid (below_alloc (below_both HB.out b2) (.cells #[.int .i64 0, .int .i64 0, .slice ia 0 ic, .slice oa 0 oc] 36))
      obtain ⟨x0, x1, x2, x3⟩ := cd_block4 (heap_alloc_new w2 (.cells (cellsC zCd ia ic oa oc) 36))
      clear b2
      by_cases hlong : 65536 < j
      · have t9 : (65536 : Int) < (j : Int) := by omega
        simp only [if_pos hlong] at *
        go_wp2_with fail
        refine (CL.out _ (HT.out.below B2.out)).mono ?_
        rintro e w3 ⟨rfl, b3⟩
        go_wp2_with fail
        go_ret
        exact ⟨rfl, below_both B2.out b3⟩
      · have t9 : ¬ ((65536 : Int) < (j : Int)) := by omega
        simp only [if_neg hlong] at *
        go_wp2_with fail
        refine (CL.out _ (HT.out.below B2.out)).mono ?_
        rintro e w3 ⟨rfl, b3⟩
        go_wp2_with fail
        go_ret
        exact ⟨rfl, below_both B2.out b3⟩
end Go.Proofs.Sat
