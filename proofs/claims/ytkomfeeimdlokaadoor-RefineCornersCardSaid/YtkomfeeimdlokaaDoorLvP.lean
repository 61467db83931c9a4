/- The walks of live.valid, Inputs, Inputs2, Dead. -/
import Derived.Test.YtkomfeeimdlokaaDoorLvT
import Derived.Test.YtkomfeeimdlokaaDoorIdsN
set_option linter.unusedVariables false
set_option linter.unusedSimpArgs false
namespace Go.Proofs.Sat
open Go Go.RowKit
set_option maxRecDepth 20000 in
set_option maxHeartbeats 1000000 in
theorem live_valid (S : Nat → Prop) (c : Cd) (p : CdAt) (w : World) (hK : IsaT w) (h : CdRd S w c p) : Calls Tryd.prog 48 #[cdVal c p] w fun e w' => e = .returned (.bool (cdErr c == 0)) ∧ Below w.heap.size w w' := by
  have BW := Lib.hid (below_alloc (Below.refl w.heap.size w) (.cells #[.int .i64 c.width, .int .i64 c.regs, .slice p.ia c.ins.length p.ic, .slice p.oa c.out.length p.oc] 38))
  have CK := Lib.hid (fun W hW hc => isa_Check S c p W hW hc)
  have HC := Lib.hid h
  unfold cdVal
  go_enter Tryd.func48, Tryd.ntmps48
  go_wp2_with fail
  refine (CK.out _ (hK.below BW.out) (HC.out.frame (Same.below BW.out))).mono ?_
  rintro e w2 ⟨rfl, b2⟩
  have B2 := Lib.hid (below_both BW.out b2)
  clear b2
  go_wp2_with fail
  go_ret
  exact ⟨rfl, B2.out⟩
/-- What Inputs tells. -/
def inpL (c : Cd) : List Int := if cdErr c = 0 then regsK (stateR c.out c.ins) 8 else []
theorem inpL_length (c : Cd) : (inpL c).length ≤ 8 := by unfold inpL; split; (· exact regsK_length _ _); (· simp)
set_option maxRecDepth 20000 in
set_option maxHeartbeats 1000000 in
theorem live_Inputs (S : Nat → Prop) (c : Cd) (p : CdAt) (w : World) (hK : IsaT w) (h : CdRd S w c p) : Calls Tryd.prog 36 #[cdVal c p] w fun e w' => ∃ v, e = .returned v ∧ Own (Kd.int .i64) 3 NoS w' w.heap.size v (inpL c) ∧ Below w.heap.size w w' := by
  have BW := Lib.hid (below_alloc (Below.refl w.heap.size w) (.cells #[.int .i64 c.width, .int .i64 c.regs, .slice p.ia c.ins.length p.ic, .slice p.oa c.out.length p.oc] 38))
  have KC := Lib.hid (heap_alloc_new w (.cells #[.int .i64 c.width, .int .i64 c.regs, .slice p.ia c.ins.length p.ic, .slice p.oa c.out.length p.oc] 38))
  have HC := Lib.hid h
  unfold cdVal
  go_enter Tryd.func36, Tryd.ntmps36
  go_wp2_with fail
  refine (live_valid S c p _ (hK.below BW.out) (h.frame (Same.below BW.out))).mono ?_
  rintro e w2 ⟨rfl, b2⟩
  have B2 := Lib.hid (below_both BW.out b2)
  have KC2 := Lib.hid (block_below b2 KC.out)
  clear b2
  by_cases he : cdErr c = 0
  · have t0 : (cdErr c == 0) = true := by simpa using he
    have HE : Hid (inpL c = regsK (stateR c.out (c.ins.drop 0)) 8) := by show _ = _; unfold inpL; rw [if_pos he, List.drop_zero]
    have CS := Lib.hid (live_states S c p w2 (hK.below B2.out) (HC.out.frame (Same.below B2.out)) (cd_ok he))
    obtain ⟨z0, z1, z2, z3⟩ := cd_block4 KC2.out
    clear he
    go_wp2_with fail
    refine CS.out.mono ?_
    rintro e w3 ⟨g, rfl, hg, G3, b3⟩
    have B3 := Lib.hid (below_both B2.out b3)
    have f := G3.cells (i := 0) (by omega)
    simp only [Nat.zero_mul, Nat.zero_add] at f
    obtain ⟨f0, f1, f2, f3, f4, f5, f6, f7⟩ := f
    clear b3 z0 z1 z2 z3
    generalize stateR c.out (c.ins.drop 0) = s at *
    go_wp2_with fail
    refine (live_list s w3).mono ?_
    rintro e w4 ⟨v, rfl, ho, b4⟩
    have B4 := Lib.hid (below_both B3.out b4)
    have O4 : Hid (Own (Kd.int .i64) 3 NoS w4 w.heap.size v (regsK s 8)) := ho.mono (fun _ _ h => h) B3.out.size
    clear ho b4
    go_wp2_with fail
    go_ret
    exact ⟨_, rfl, by rw [HE.out]; exact O4.out, B4.out⟩
  · have t0 : (cdErr c == 0) = false := by simpa using he
    have HE : Hid (inpL c = []) := by show _ = _; unfold inpL; rw [if_neg he]
    clear he
    go_wp2_with fail
    go_ret
    exact ⟨_, rfl, by rw [HE.out]; exact Own.nil _ _ _ _ _, B2.out⟩
set_option maxRecDepth 20000 in
set_option maxHeartbeats 2000000 in
theorem live_Inputs2 (S : Nat → Prop) (c d : Cd) (p q : CdAt) (w : World) (hK : IsaT w) (h : CdRd S w c p) (h' : CdRd S w d q) : Calls Tryd.prog 27 #[cdVal c p, cdVal d q] w fun e w' => ∃ v, e = .returned v ∧ Own (Kd.int .i64) 3 NoS w' w.heap.size v (ofL (inpL c ++ inpL d)) ∧ Below w.heap.size w w' := by
  have BW := Lib.hid (below_alloc (below_alloc (Below.refl w.heap.size w) (.cells #[.int .i64 c.width, .int .i64 c.regs, .slice p.ia c.ins.length p.ic, .slice p.oa c.out.length p.oc] 38)) (.cells #[.int .i64 d.width, .int .i64 d.regs, .slice q.ia d.ins.length q.ic, .slice q.oa d.out.length q.oc] 38))
  have KC := Lib.hid (block_alloc (heap_alloc_new w (.cells #[.int .i64 c.width, .int .i64 c.regs, .slice p.ia c.ins.length p.ic, .slice p.oa c.out.length p.oc] 38)) (.cells #[.int .i64 d.width, .int .i64 d.regs, .slice q.ia d.ins.length q.ic, .slice q.oa d.out.length q.oc] 38))
  have KD := Lib.hid (block_at1 w (.cells #[.int .i64 c.width, .int .i64 c.regs, .slice p.ia c.ins.length p.ic, .slice p.oa c.out.length p.oc] 38) (.cells #[.int .i64 d.width, .int .i64 d.regs, .slice q.ia d.ins.length q.ic, .slice q.oa d.out.length q.oc] 38))
  have HC := Lib.hid h
  have HD := Lib.hid h'
  have l1 := inpL_length c
  have l2 := inpL_length d
  have CC := Lib.hid (fun W (b : Below w.heap.size w W) => live_Inputs S c p W (hK.below b) (HC.out.frame (Same.below b)))
  have CD := Lib.hid (fun W (b : Below w.heap.size w W) => live_Inputs S d q W (hK.below b) (HD.out.frame (Same.below b)))
  unfold cdVal
  go_enter Tryd.func27, Tryd.ntmps27
  go_wp2_with fail
  obtain ⟨s0, s1, s2, s3⟩ := cd_block4 KC.out
  obtain ⟨t0, t1, t2, t3⟩ := cd_block4 KD.out
  generalize (w.alloc (.cells #[.int .i64 c.width, .int .i64 c.regs, .slice p.ia c.ins.length p.ic, .slice p.oa c.out.length p.oc] 38)).alloc (.cells #[.int .i64 d.width, .int .i64 d.regs, .slice q.ia d.ins.length q.ic, .slice q.oa d.out.length q.oc] 38) = W0 at *
  have BWd : Hid (Below w.heap.size w W0.drew) := below_drewN BW.out 1
  have KCd : Hid (W0.drew.heap[w.heap.size]? = _) := KC.out
  have KDd : Hid (W0.drew.heap[w.heap.size + 1]? = _) := KD.out
  go_region_held3 (fun w' => (w'.cell? ⟨w.heap.size, 0, none⟩ = some (.int .i64 c.width) ∧ w'.cell? ⟨w.heap.size, 1, none⟩ = some (.int .i64 c.regs) ∧ w'.cell? ⟨w.heap.size, 2, none⟩ = some (.slice p.ia c.ins.length p.ic) ∧ w'.cell? ⟨w.heap.size, 3, none⟩ = some (.slice p.oa c.out.length p.oc)) ∧
      (w'.cell? ⟨w.heap.size + 1, 0, none⟩ = some (.int .i64 d.width) ∧ w'.cell? ⟨w.heap.size + 1, 1, none⟩ = some (.int .i64 d.regs) ∧ w'.cell? ⟨w.heap.size + 1, 2, none⟩ = some (.slice q.ia d.ins.length q.ic) ∧ w'.cell? ⟨w.heap.size + 1, 3, none⟩ = some (.slice q.oa d.out.length q.oc)))
      (first | exact ⟨cd_block4 KC3.out, cd_block4 KD3.out⟩ | exact ⟨cd_block4 KC2.out, cd_block4 KD2.out⟩ | exact ⟨cd_block4 KC1.out, cd_block4 KD1.out⟩ | exact ⟨⟨s0, s1, s2, s3⟩, ⟨t0, t1, t2, t3⟩⟩)
      (first
      | (go_at_call 36
         (with_reducible refine gate_a #[cdVal c p] rfl ?_)
         first
         | (
            refine (CC.out _ BD.out).mono ?_
            rintro e w2 ⟨v, rfl, o2, b2⟩
            obtain ⟨aC, cC, rfl, -⟩ := o2.rd
            have OC := Lib.hid o2
            have OD2 := Lib.hid (OD.out.below b2)
            have BB := Lib.hid (below_both BD.out b2)
            have KC2 := Lib.hid (block_below b2 KC1.out)
            have KD2 := Lib.hid (block_below b2 KD1.out)
            clear o2 b2)
         | (
            refine (CC.out _ BWd.out).mono ?_
            rintro e w1 ⟨v, rfl, o1, b1⟩
            obtain ⟨aC, cC, rfl, -⟩ := o1.rd
            have OC := Lib.hid o1
            have BC := Lib.hid (below_both BWd.out b1)
            have KC1 := Lib.hid (block_below b1 KCd.out)
            have KD1 := Lib.hid (block_below b1 KDd.out)
            clear o1 b1))
      | (go_at_call 36
         (with_reducible refine gate_a #[cdVal d q] rfl ?_)
         first
         | (
            refine (CD.out _ BC.out).mono ?_
            rintro e w2 ⟨v, rfl, o2, b2⟩
            obtain ⟨aD, cD, rfl, -⟩ := o2.rd
            have OD := Lib.hid o2
            have OC2 := Lib.hid (OC.out.below b2)
            have BB := Lib.hid (below_both BC.out b2)
            have KC2 := Lib.hid (block_below b2 KC1.out)
            have KD2 := Lib.hid (block_below b2 KD1.out)
            clear o2 b2)
         | (
            refine (CD.out _ BWd.out).mono ?_
            rintro e w1 ⟨v, rfl, o1, b1⟩
            obtain ⟨aD, cD, rfl, -⟩ := o1.rd
            have OD := Lib.hid o1
            have BD := Lib.hid (below_both BWd.out b1)
            have KC1 := Lib.hid (block_below b1 KCd.out)
            have KD1 := Lib.hid (block_below b1 KDd.out)
            clear o1 b1))
      | (go_at_call 35
         first
         | (
            refine (idset_Union _ _ aC aD cC cD (inpL c) (inpL d) _ (Own.rd' OC.out) (Own.rd' OD2.out) (by omega) (by omega)).mono ?_
            rintro e w3 ⟨v, rfl, o3, b3⟩
            have B3 := Lib.hid (below_both BB.out b3)
            have O3 := Lib.hid (o3.mono (S' := NoS) (base' := w.heap.size) (fun _ _ h => h) BB.out.size)
            have KC3 := Lib.hid (block_below b3 KC2.out)
            have KD3 := Lib.hid (block_below b3 KD2.out)
            clear o3 b3)
         | (
            refine (idset_Union _ _ aC aD cC cD (inpL c) (inpL d) _ (Own.rd' OC2.out) (Own.rd' OD.out) (by omega) (by omega)).mono ?_
            rintro e w3 ⟨v, rfl, o3, b3⟩
            have B3 := Lib.hid (below_both BB.out b3)
            have O3 := Lib.hid (o3.mono (S' := NoS) (base' := w.heap.size) (fun _ _ h => h) BB.out.size)
            have KC3 := Lib.hid (block_below b3 KC2.out)
            have KD3 := Lib.hid (block_below b3 KD2.out)
            clear o3 b3))
      | fail)
  all_goals
    go_wp2_with fail
    go_ret
    exact ⟨_, rfl, O3.out, B3.out⟩
/-- Is instruction i dead? -/
def deadL (c : Cd) (i : Int) : Bool := decide (cdErr c = 0 ∧ 0 ≤ i) && match c.ins[i.toNat]? with | some x => deadB (stateR c.out (c.ins.drop (i.toNat + 1))) x | none => false
end Go.Proofs.Sat
