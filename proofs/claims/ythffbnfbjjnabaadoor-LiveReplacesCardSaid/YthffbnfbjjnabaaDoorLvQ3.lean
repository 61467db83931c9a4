/- The walks of the reference's Dead and After; of live.After. -/
import Derived.Test.YthffbnfbjjnabaaDoorLvQ2
set_option linter.unusedVariables false
set_option linter.unusedSimpArgs false
namespace Go.Proofs.Sat
open Go Go.RowKit
theorem dead_eq {c : Cd} (h : CdOK c) {j : Nat} (hj : j < c.ins.length) :
    deadB (stateR c.out (c.ins.drop (j + 1))) c.ins[j] = (decide (c.ins[j].op = 0) || !(decide (c.ins[j].dst ∈ regsK (stateR c.out (c.ins.drop (j + 1))) c.regs.toNat))) := by
  have hx := ins_ok (h.ins _ (List.getElem_mem hj))
  have hk := (knownI_iff _).1 hx.1
  unfold deadB
  by_cases h0 : c.ins[j].op = 0
  · have hd : defsI c.ins[j] = false := decide_eq_false (by omega)
    rw [hd, decide_eq_true h0]; rfl
  · have hd : defsI c.ins[j] = true := decide_eq_true (by omega)
    have hb := hx.2.1 hd
    rw [hd, decide_eq_false h0]
    have e : decide (c.ins[j].dst ∈ regsK (stateR c.out (c.ins.drop (j + 1))) c.regs.toNat) = stateR c.out (c.ins.drop (j + 1)) c.ins[j].dst.toNat := by
      rw [Bool.eq_iff_iff, decide_eq_true_iff, mem_regsK]
      constructor
      · exact fun h => h.2.2
      · exact fun h2 => ⟨hb.1, by have := (cd_regs h).1; omega, h2⟩
    rw [e]; rfl
set_option maxRecDepth 20000 in
set_option maxHeartbeats 2000000 in
theorem ref50_Dead (S : Nat → Prop) (c : Cd) (p : CdAt) (i : Int) (w : World) (h : CdRd S w c p) : Calls Tryd.prog 15 #[cdVal c p, .int .i64 i] w fun e w' => e = .returned (.bool (deadL c i)) ∧ Below w.heap.size w w' := by
  obtain ⟨ia, ic, oa, oc⟩ := p
  have BW := Lib.hid (below_alloc (Below.refl w.heap.size w) (.cells #[.int .i64 c.width, .int .i64 c.regs, .slice ia c.ins.length ic, .slice oa c.out.length oc] 25))
  have KC := Lib.hid (heap_alloc_new w (.cells #[.int .i64 c.width, .int .i64 c.regs, .slice ia c.ins.length ic, .slice oa c.out.length oc] 25))
  have HC := Lib.hid h
  have hil := h.ins.le
  unfold cdVal
  go_enter Tryd.func15, Tryd.ntmps15
  go_wp2_with fail
  refine (ref50_Check S c ⟨ia, ic, oa, oc⟩ _ (h.frame (Same.below BW.out))).mono ?_
  rintro e w2 ⟨rfl, b2⟩
  have B2 := Lib.hid (below_both BW.out b2)
  have KC2 := Lib.hid (block_below b2 KC.out)
  clear b2 h
  obtain ⟨z0, z1, z2, z3⟩ := cd_block4 KC2.out
  by_cases he : cdErr c = 0
  · have t0 : (cdErr c != 0) = false := by simpa using he
    by_cases h0 : 0 ≤ i
    · obtain ⟨j, rfl⟩ := Int.eq_ofNat_of_zero_le h0
      by_cases hj : j < c.ins.length
      · have HE : Hid (deadL c j = deadB (stateR c.out (c.ins.drop (j + 1))) c.ins[j]) := by show _ = _; unfold deadL; rw [decide_eq_true ⟨he, h0⟩, Int.toNat_natCast, List.getElem?_eq_getElem hj]; rfl
        have HOK := Lib.hid (cd_ok he)
        have HDE := Lib.hid (dead_eq HOK.out hj)
        rw [HDE.out] at HE
        clear HDE
        have CS := Lib.hid (fun W (hb : Below w.heap.size w W) => ref50_Before S c ⟨ia, ic, oa, oc⟩ (j + 1) c.regs.toNat W (HC.out.frame (Same.below hb)) (by omega) (cd_regs HOK.out).1 (cd_regs HOK.out).2)
        obtain ⟨b, o, rfl, -, hbw0, hat0⟩ := in_elem HC.out.ins hj
        have hat := hat0.frame (w' := w2) (B2.out.block b hbw0)
        have HAT := Lib.hid hat
        obtain ⟨c0, c1, c2, c3, c4, c5⟩ := hat
        have h256 := HOK.out.len
        generalize c.ins[j] = x at *
        generalize regsK (stateR c.out (c.ins.drop (j + 1))) c.regs.toNat = l at *
        clear he hat0
        have hj0 : (0 : Int) ≤ (j : Int) := by omega
        have hj1 : (j : Int) < (c.ins.length : Int) := by omega
        by_cases hop : x.op = 0
        · have t1 : (x.op == 0) = true := by simpa using hop
          have HE2 : Hid (deadL c j = true) := by show _ = _; rw [HE.out, decide_eq_true hop]; rfl
          clear hop
          go_wp2_with fail
          go_quiet (fail)
          go_wp2_with fail
          go_ret
          exact ⟨ret_bool HE2.out.symm, below_drewN B2.out _⟩
        · have t1 : (x.op == 0) = false := by simpa using hop
          have HE2 : Hid (deadL c j = !(decide (x.dst ∈ l))) := by show _ = _; rw [HE.out, decide_eq_false hop]; rfl
          clear hop
          have hz0 : (0 : Int) ≤ (j : Int) + 1 := by omega
          have hw : IntKind.i64.wrap ((j : Int) + 1) = (j : Int) + 1 := IntWalk.i64_in _ (by omega)
          have hcast : ((j + 1 : Nat) : Int) = (j : Int) + 1 := by omega
          have B2d : Hid (Below w.heap.size w w2.drew) := below_drewN B2.out 1
          rw [hcast] at CS
          clear hcast
          go_wp2_with fail
          go_region_held3 (fun w' => (w'.cell? ⟨w.heap.size, 0, none⟩ = some (.int .i64 c.width) ∧ w'.cell? ⟨w.heap.size, 1, none⟩ = some (.int .i64 c.regs) ∧ w'.cell? ⟨w.heap.size, 2, none⟩ = some (.slice (some ⟨b, o, none⟩) c.ins.length ic) ∧ w'.cell? ⟨w.heap.size, 3, none⟩ = some (.slice oa c.out.length oc)) ∧
              w'.cell? ⟨b, o + j * 6, none⟩ = some (.int .i64 x.op) ∧ w'.cell? ⟨b, o + j * 6 + 1, none⟩ = some (.int .i64 x.dst) ∧ w'.cell? ⟨b, o + j * 6 + 2, none⟩ = some (.int .i64 x.a) ∧ w'.cell? ⟨b, o + j * 6 + 3, none⟩ = some (.int .i64 x.b) ∧ w'.cell? ⟨b, o + j * 6 + 4, none⟩ = some (.int .i64 x.c) ∧ w'.cell? ⟨b, o + j * 6 + 5, none⟩ = some (.int .u64 x.imm))
              (first | exact ⟨cd_block4 KC4.out, d0, d1, d2, d3, d4, d5⟩ | exact ⟨cd_block4 KC3.out, d0, d1, d2, d3, d4, d5⟩ | exact ⟨⟨z0, z1, z2, z3⟩, c0, c1, c2, c3, c4, c5⟩)
              (first
              | (go_at_call 38
                 refine (CS.out _ B2d.out).mono ?_
                 rintro e w3 ⟨v, rfl, o3, b3⟩
                 obtain ⟨a3, c3', rfl, r3⟩ := o3.rd
                 have R3 := Lib.hid r3
                 have B3 := Lib.hid (below_both B2d.out b3)
                 have KC3 := Lib.hid (block_below b3 KC2.out)
                 have hat3 := HAT.out.frame (w' := w3) (b3.block b (Nat.lt_of_lt_of_le hbw0 B2.out.size))
                 have HAT3 := Lib.hid hat3
                 obtain ⟨d0, d1, d2, d3, d4, d5⟩ := hat3
                 clear b3 o3 r3)
              | (go_at_call 37
                 refine (ref50_Has _ a3 c3' l x.dst _ R3.out).mono ?_
                 rintro e w4 ⟨rfl, b4⟩
                 have B4 := Lib.hid (B3.out.trans (b4.below _))
                 have KC4 := Lib.hid (b4.heap KC3.out)
                 obtain ⟨d0, d1, d2, d3, d4, d5⟩ := HAT3.out.frame (w' := w4) ((b4.below w3.heap.size).block b (Nat.lt_of_lt_of_le hbw0 B3.out.size))
                 clear b4)
              | fail)
          go_wp2_with fail
          go_ret
          exact ⟨ret_bool HE2.out.symm, B4.out⟩
      · have HE : Hid (deadL c j = false) := by show _ = _; unfold deadL; rw [Int.toNat_natCast, List.getElem?_eq_none (by omega)]; simp
        clear he
        have hj' : (c.ins.length : Int) ≤ (j : Int) := by omega
        go_wp2_with fail
        go_ret
        exact ⟨ret_bool HE.out.symm, B2.out⟩
    · have HE : Hid (deadL c i = false) := by show _ = _; unfold deadL; rw [decide_eq_false (fun h => h0 h.2)]; rfl
      have h0' : i < 0 := by omega
      clear he
      go_wp2_with fail
      go_ret
      exact ⟨ret_bool HE.out.symm, B2.out⟩
  · have t0 : (cdErr c != 0) = true := by simpa using he
    have HE : Hid (deadL c i = false) := by show _ = _; unfold deadL; rw [decide_eq_false (fun h => he h.1)]; rfl
    clear he
    go_wp2_with fail
    go_ret
    exact ⟨ret_bool HE.out.symm, B2.out⟩
end Go.Proofs.Sat
