/- The walk of ref49's Step. -/
import Derived.Test.YtkomfeeimdlokaaGreatDoorRlA
import Derived.Test.YtkomfeeimdlokaaGreatDoorRgE
import Derived.StillTailTactics
set_option linter.unusedVariables false
set_option linter.unusedSimpArgs false
namespace Go.Proofs.Sat
open Go Go.RowKit
/-- What a step leaves. -/
def StepQ (R B : Nat) (o : Option (Nat → Nat)) (e : Ending) (w' : World) : Prop :=
  (o = none ∧ e = .returned (.tuple #[.slice none 0 0, .int .i64 17])) ∨ ∃ s' g', o = some s' ∧ B ≤ g' ∧ e = .returned (.tuple #[.slice (some ⟨g', 0, none⟩) R R, .int .i64 0]) ∧ St8 w' g' R s'
theorem usesI_len {x : In} (h : knownI x.op = true) : ((usesI x).length : Int) = srcN x.op := by
  have := srcN_known h
  have := srcN_le x.op
  unfold usesI
  rw [List.length_take]
  simp
  omega
theorem val_uses {n : Nat} {s : Nat → Nat} {x : In} (h : 1 ≤ x.op ∧ x.op ≤ 19) : valL x.op n x.imm.toNat ((usesI x).map (fun r => s r.toNat)) = valE n s x := by
  obtain ⟨op, d, a, b, c, i⟩ := x
  simp only at h
  rcases (show op = 1 ∨ op = 2 ∨ op = 3 ∨ op = 4 ∨ op = 5 ∨ op = 6 ∨ op = 7 ∨ op = 8 ∨ op = 9 ∨ op = 10 ∨ op = 11 ∨ op = 12 ∨ op = 13 ∨ op = 14 ∨ op = 15 ∨ op = 16 ∨ op = 17 ∨ op = 18 ∨ op = 19 by omega) with rfl | rfl | rfl | rfl | rfl | rfl | rfl | rfl | rfl | rfl | rfl | rfl | rfl | rfl | rfl | rfl | rfl | rfl | rfl <;> rfl
theorem cutL_stL {n R : Nat} {s : Nat → Nat} (hv : ∀ i, i < R → s i < 2 ^ n) {i : Nat} (hi : i < R) : cutL n (stL R s) i = s i := by
  unfold cutL
  rw [List.getD_eq_getElem?_getD, List.getElem?_eq_getElem (by rw [stL_length]; exact hi), Option.getD_some, stL_get _ _ hi, Int.toNat_natCast, Nat.mod_eq_of_lt (hv i hi)]
theorem err_known {width regs : Int} {x : In} (h : insErr width regs x = 0) : knownI x.op = true := (ins_ok h).1
theorem cells_far {w : World} {g g1 : Nat} {x : In} {D : Nat} {i : Nat} {u : Value} (hD : x.dst = (D : Int)) (h : w.heap[g]? = some (.cells #[.int .i64 x.op, .int .i64 x.dst, .int .i64 x.a, .int .i64 x.b, .int .i64 x.c, .int .u64 x.imm] 50 (0, 0))) (hne : g ≠ g1) :
    (w.setCell ⟨g1, i, none⟩ u).cell? ⟨g, 0, none⟩ = some (.int .i64 x.op) ∧ (w.setCell ⟨g1, i, none⟩ u).cell? ⟨g, 1, none⟩ = some (.int .i64 (D : Int)) ∧ (w.setCell ⟨g1, i, none⟩ u).cell? ⟨g, 5, none⟩ = some (.int .u64 x.imm) := by
  obtain ⟨h0, h1, -, -, -, h5⟩ := in_block (block_far (p := ⟨g1, i, none⟩) h u hne)
  rw [hD] at h1
  exact ⟨h0, h1, h5⟩
set_option maxRecDepth 20000 in
set_option maxHeartbeats 4000000 in
theorem ref49_Step (n R g : Nat) (s : Nat → Nat) (x : In) (w : World) (hs : St8 w g R s) (hn1 : 1 ≤ n) (hn2 : n ≤ 64) (hR1 : 1 ≤ R) (hR8 : R ≤ 8) (hv : ∀ i, i < R → s i < 2 ^ n) (hx : insErr (n : Int) (R : Int) x = 0) (hi : 0 ≤ x.imm ∧ x.imm < 18446744073709551616) :
    Calls Tryz.prog 109 #[.int .i64 (n : Int), inVal x, .slice (some ⟨g, 0, none⟩) R R] w fun e w' => StepQ R w.heap.size (stepE n s x) e w' ∧ Below w.heap.size w w' := by
  have HX := Lib.hid hx
  have hkn := err_known hx
  have HKN := Lib.hid hkn
  obtain ⟨hf1, hf2, hfa, hfb, hfc⟩ := ins_fields (by omega) hx
  have HF2 := Lib.hid hf2
  have HV := Lib.hid hv
  have HI := Lib.hid hi
  have HP : Hid (2 ^ n ≤ 18446744073709551616) := by
    show _ ≤ _
    exact Nat.pow_le_pow_right (by omega) hn2 (n := 2)
  have HLS : Hid (∀ v ∈ stL R s, 0 ≤ v ∧ v < 18446744073709551616) := by
    intro v hvm
    obtain ⟨j, hj, rfl⟩ := List.getElem_of_mem hvm
    rw [stL_length] at hj
    rw [stL_get _ _ hj]
    have := HV.out j hj
    have := HP.out
    omega
  have HRW := Lib.hid (fun W (b : Below w.heap.size w W) => ((hs.below b).rd (fun _ => True) trivial (by omega) : Rd (Kd.int .u64) (fun _ => True) W (some ⟨g, 0, none⟩) R (stL R s)))
  have CS := Lib.hid (fun W (b : Below w.heap.size w W) => ref49_State (fun _ => True) n R (stL R s) (some ⟨g, 0, none⟩) R W (HRW.out W b) HLS.out hn1 hn2 hR8)
  have BW := Lib.hid (below_alloc (Below.refl w.heap.size w) (.cells #[.int .i64 x.op, .int .i64 x.dst, .int .i64 x.a, .int .i64 x.b, .int .i64 x.c, .int .u64 x.imm] 50))
  have KX := Lib.hid (heap_alloc_new w (.cells #[.int .i64 x.op, .int .i64 x.dst, .int .i64 x.a, .int .i64 x.b, .int .i64 x.c, .int .u64 x.imm] 50))
  have hmin : min (R : Int) 8 = (R : Int) := by omega
  rw [stL_length] at CS
  clear hx hkn hf2 hv hi hs
  unfold inVal
  go_enter Tryz.func109, Tryz.ntmps109
  go_wp2_with fail
  refine (CS.out _ BW.out).mono ?_
  rintro e w1 ⟨g1, rfl, hg1, s1, b1⟩
  have S1 : Hid (St8 w1 g1 R s) := s1.congr (fun i hi => cutL_stL HV.out hi)
  have B1 := Lib.hid (below_both BW.out b1)
  have KX1 := Lib.hid (block_below b1 KX.out)
  have HG1 : Hid (w.heap.size < g1) := by
    show _ < _
    have : (w.alloc (.cells #[.int .i64 x.op, .int .i64 x.dst, .int .i64 x.a, .int .i64 x.b, .int .i64 x.c, .int .u64 x.imm] 50)).heap.size = w.heap.size + 1 := by simp
    omega
  clear b1 s1 hg1 BW KX CS HLS HRW
  obtain ⟨x0, x1, x2, x3, x4, x5⟩ := in_block KX1.out
  go_wp2_with fail
  refine (ref48_Known x.op _).mono ?_
  rintro e w2 ⟨rfl, d2⟩
  rw [HKN.out]
  have B2 := Lib.hid (B1.out.trans (d2.below _))
  have KX2 := Lib.hid (d2.heap KX1.out)
  have S2 := Lib.hid (S1.out.drawn d2)
  clear d2 x0 x1 x2 x3 x4 x5 B1 KX1 S1
  obtain ⟨x0, x1, x2, x3, x4, x5⟩ := in_block KX2.out
  go_wp2_with fail
  refine (ref48_Uses x _).mono ?_
  rintro e w3 ⟨aU, cU, rfl, hU, b3⟩
  have B3 := Lib.hid (below_both B2.out b3)
  have KX3 := Lib.hid (block_below b3 KX2.out)
  have S3 := Lib.hid (S2.out.below b3)
  have HU := Lib.hid hU
  clear b3 hU x0 x1 x2 x3 x4 x5 B2 KX2 S2
  have HUR : Hid (∀ r ∈ usesI x, 0 ≤ r ∧ r < (R : Int)) := (ins_ok HX.out).2.2
  have HUM : Hid (((usesI x).length : Int) = srcN x.op) := usesI_len HKN.out
  have hul : (usesI x).length ≤ 3 := by unfold usesI; rw [List.length_take]; simp; omega
  obtain ⟨m, hm⟩ : ∃ m, m = (usesI x).length := ⟨_, rfl⟩
  have HM := Lib.hid hm
  rw [← hm] at hul
  rw [← hm]
  clear hm
  go_wp2_with fail
  go_loopw [10, 11] (fun v i wr => ∃ k : Nat, k ≤ m ∧ i = .int .i64 k ∧ Hid (Own (Kd.int .u64) 48 NoS wr w3.heap.size v (((usesI x).take k).map (fun r => (s r.toNat : Int)))) ∧ Hid (Below w3.heap.size w3 wr)) (fun _ i _ => m - (intOf i).toNat)
  case atStart => exact ⟨0, by omega, rfl, by rw [List.take_zero]; exact Own.nil _ _ _ _ _, Below.refl _ _⟩
  case round =>
    obtain ⟨k, hk9, rfl, O4, B4⟩ := hrel
    by_cases hlt : k < m
    · have HLT : Hid (k < (usesI x).length) := by show _ < _; rw [← HM.out]; exact hlt
      obtain ⟨ob, oo, rfl, -, -, hc⟩ := (HU.out.frame (Same.below B4.out)).vals (Nat.lt_of_le_of_lt (Nat.zero_le _) HLT.out) 0
      have d5 := hc k HLT.out
      rw [getD_at _ HLT.out] at d5
      have hr := HUR.out _ (List.getElem_mem HLT.out)
      have HT : Hid (((usesI x).take (k + 1)).map (fun r => (s r.toNat : Int)) = ((usesI x).take k).map (fun r => (s r.toNat : Int)) ++ [(s ((usesI x)[k]'HLT.out).toNat : Int)]) := by show _ = _; rw [List.take_succ_eq_append_getElem HLT.out, List.map_append]; rfl
      have hXl : (((usesI x).take k).map (fun r => (s r.toNat : Int))).length ≤ 20 := by rw [List.length_map, List.length_take]; omega
      clear hc
      generalize (usesI x)[k]'HLT.out = r at *
      generalize ((usesI x).take k).map (fun r => (s r.toNat : Int)) = X at *
      obtain ⟨hr0, hr1⟩ := hr
      obtain ⟨q, rfl⟩ := Int.eq_ofNat_of_zero_le hr0
      rw [Int.toNat_natCast] at HT
      have hqR : q < R := by omega
      have t0 : decide ((q : Int) < 0) = false := decide_eq_false (by omega)
      have t1 : decide ((R : Int) ≤ (q : Int)) = false := decide_eq_false (by omega)
      obtain ⟨s1, -, -⟩ := (S3.out.below B4.out).at hqR
      generalize s q = y at *
      obtain ⟨a4, c4, rfl⟩ := O4.out.form
      go_wp2_with (first
        | (at_builtin; refine wpList_append_ev _ rfl _ _ 32 rfl _ _ rfl rfl _ (run_app1 wr infoU64 rfl _ O4.out 48 [.int .u64 _] _ rfl (by omega) (by omega) B4.out.size) ?_; rintro n2 w5 ⟨ow2, g2, v2, _⟩; have B5 := Lib.hid (B4.out.grown g2 B4.out.size (fun k hk => (O4.out.lt k hk).1)); have O5 := Lib.hid ow2; clear ow2 g2 v2)
        | fail)
      go_roundw
      case rel => exact ⟨k + 1, by omega, by go_num, by rw [HT.out]; exact O5.out, B5.out⟩
      case measure => simp [intOf]; omega
    · have hnl : ¬ ((k : Int) < (m : Int)) := by omega
      have h5 := O4.out
      rw [show k = (usesI x).length by have := HM.out; omega, List.take_length] at h5
      obtain ⟨a4, c4, rfl⟩ := h5.form
      rw [List.length_map, ← HM.out] at h5
      have R4 := Lib.hid h5.rd'
      rw [List.length_map, ← HM.out]
      have KX4 := Lib.hid (block_below B4.out KX3.out)
      have S4 := Lib.hid (S3.out.below B4.out)
      have B5 := Lib.hid (below_both B3.out B4.out)
      clear h5 hlt hk9 O4 B3 KX3 S3 HU
      obtain ⟨w4, hw4⟩ : ∃ w4, w4 = wr := ⟨_, rfl⟩
      subst hw4
      obtain ⟨x0, x1, x2, x3, x4, x5⟩ := in_block KX4.out
      by_cases h0 : x.op = 0
      · have t0 : (x.op == 0) = true := by simpa using h0
        have HE : Hid (stepE n s x = some s) := stepE_nop h0
        clear h0
        go_wp2_with fail
        go_ret2
        exact ⟨.inr ⟨s, g1, HE.out, by have := HG1.out; omega, rfl, S4.out⟩, B5.out⟩
      have t0 : (x.op == 0) = false := by simpa using h0
      obtain ⟨hd0, hd1⟩ := HF2.out (by omega)
      obtain ⟨D, hD⟩ := Int.eq_ofNat_of_zero_le hd0
      have t1 : decide (x.dst < 0) = false := decide_eq_false (by omega)
      have t2 : decide ((R : Int) ≤ x.dst) = false := decide_eq_false (by omega)
      have RN : Hid (Rd (Kd.int .u64) (fun b => NoS b ∨ w3.heap.size ≤ b) w4 a4 c4 (((usesI x).map (fun r => s r.toNat)).map (fun (x : Nat) => (x : Int)))) := by
        show Rd _ _ _ _ _ _
        rw [List.map_map]
        exact R4.out
      have HLN : Hid (((usesI x).map (fun r => s r.toNat)).length = m) := by show _ = _; rw [List.length_map, HM.out]
      have HSM : Hid (srcN x.op = (m : Int)) := by show _ = _; rw [← HUM.out, HM.out]
      have HLL : Hid (∀ v ∈ (usesI x).map (fun r => s r.toNat), v < 18446744073709551616) := by
        intro v hvm
        obtain ⟨r, hr, rfl⟩ := List.mem_map.1 hvm
        have h1 := HUR.out r hr
        have h2 := HV.out r.toNat (by omega)
        have := HP.out
        omega
      have HVU : Hid (valL x.op n x.imm.toNat ((usesI x).map (fun r => s r.toNat)) = valE n s x) := val_uses (by omega)
      have HIM : Hid (((x.imm.toNat : Nat) : Int) = x.imm) := by show _ = _; have := HI.out.1; omega
      have CV := Lib.hid (fun W (dW : Drawn w4 W) => ref49_value x.op n x.imm.toNat m ((usesI x).map (fun r => s r.toNat)) _ a4 c4 W (RN.out.frame (Same.drawn _ dW)) HLN.out HSM.out HLL.out (by have := HI.out; omega) hn1 hn2 (by omega))
      rw [HVU.out, HIM.out] at CV
      have CT := Lib.hid (ref48_Traps x.op)
      have HXD : Hid (x.dst = (D : Int)) := hD
      have hDR0 : D < R := by omega
      have hDR : D < R := hDR0
      by_cases tr : x.op = 11 ∨ x.op = 12
      · have HTR : Hid (decide (x.op = 11 ∨ x.op = 12) = true) := decide_eq_true tr
        have HTE : Hid (trapE s x ↔ s x.b.toNat = 0) := ⟨fun h => h.2, fun h => ⟨tr, h⟩⟩
        have hs2 : srcN x.op = 2 := by rcases tr with h | h <;> rw [h] <;> decide
        have HUE : Hid ((usesI x).map (fun r => s r.toNat) = [s x.a.toNat, s x.b.toNat]) := by
          show _ = _
          unfold usesI
          rw [hs2]
          rfl
        have RN2 : Rd (Kd.int .u64) (fun b => NoS b ∨ w3.heap.size ≤ b) w4 a4 c4 [(s x.a.toNat : Int), (s x.b.toNat : Int)] := by
          have h := RN.out
          rw [HUE.out] at h
          exact h
        obtain ⟨ub, uo, rfl, u0', u1'⟩ := rd_two RN2
        obtain rfl : m = 2 := by have := HSM.out; omega
        clear RN2 tr u0' hs2
        have HBV := Lib.hid (show s x.b.toNat = s x.b.toNat from rfl)
        by_cases hz : s x.b.toNat = 0
        · have HE : Hid (stepE n s x = none) := stepE_trap h0 (HTE.out.2 hz)
          rw [hz] at u1'
          clear hz h0 hD hd0 hd1
          go_wp2_with fail
          refine (CT.out _).mono ?_
          rintro e w6 ⟨rfl, d6⟩
          rw [HTR.out]
          have B6 := Lib.hid (B5.out.trans (d6.below _))
          have u2' := d6.cell u1'
          clear d6
          go_wp2_with fail
          go_ret2
          exact ⟨.inl ⟨HE.out, rfl⟩, B6.out⟩
        · have HE : Hid (stepE n s x = some (updN s x.dst.toNat (valE n s x))) := stepE_some h0 (fun hh => hz (HTE.out.1 hh))
          have t3 : (((s x.b.toNat : Nat) : Int) == 0) = false := by simp; omega
          clear hz h0
          go_wp2_with fail
          refine (CT.out _).mono ?_
          rintro e w6 ⟨rfl, d6⟩
          rw [HTR.out]
          have B6 := Lib.hid (B5.out.trans (d6.below _))
          have S6 := Lib.hid (S4.out.drawn d6)
          have KX6 := Lib.hid (d6.heap KX4.out)
          have D6 := Lib.hid d6
          have u2' := d6.cell u1'
          clear d6 x0 x1 x2 x3 x4 x5
          obtain ⟨x0, x1, x2, x3, x4, x5⟩ := in_block KX6.out
          rw [HXD.out] at x1
          rw [HXD.out, Int.toNat_natCast] at HE
          have hne : w.heap.size ≠ g1 := by have := HG1.out; omega
          go_wp2_with fail
          go_region_held3 (fun w' => w'.cell? ⟨w.heap.size, 0, none⟩ = some (.int .i64 x.op) ∧ w'.cell? ⟨w.heap.size, 1, none⟩ = some (.int .i64 (D : Int)) ∧ w'.cell? ⟨w.heap.size, 5, none⟩ = some (.int .u64 x.imm))
            (first | with_reducible exact cells_far HXD.out KX7.out hne | with_reducible exact ⟨y0, y1, y5⟩ | exact ⟨x0, x1, x5⟩)
            (first
            | (go_at_call 116; refine (CV.out _ (by exact D6.out.drew)).mono ?_; rintro e w7 ⟨rfl, d7⟩; have D7 := Lib.hid ((Drawn.refl w6).drew.trans d7); have KX7 := Lib.hid (D7.out.heap KX6.out); obtain ⟨y0, y1, y2, y3, y4, y5⟩ := in_block KX7.out; rw [HXD.out] at y1; obtain ⟨q1, q2, q3⟩ := (S6.out.drawn D7.out).at hDR; have US := Lib.hid q3; clear q3 d7)
            | fail)
          go_wp2_with fail
          go_ret2
          exact ⟨.inr ⟨_, g1, HE.out, by have := HG1.out; omega, rfl, US.out _⟩, (B6.out.trans (D7.out.below _)).setCell (Nat.le_of_lt HG1.out) _⟩
      · have HTR : Hid (decide (x.op = 11 ∨ x.op = 12) = false) := decide_eq_false tr
        have HE : Hid (stepE n s x = some (updN s x.dst.toNat (valE n s x))) := stepE_some h0 (fun hh => tr hh.1)
        clear tr h0
        go_wp2_with fail
        refine (CT.out _).mono ?_
        rintro e w6 ⟨rfl, d6⟩
        rw [HTR.out]
        have B6 := Lib.hid (B5.out.trans (d6.below _))
        have S6 := Lib.hid (S4.out.drawn d6)
        have KX6 := Lib.hid (d6.heap KX4.out)
        have D6 := Lib.hid d6
        clear d6 x0 x1 x2 x3 x4 x5
        obtain ⟨x0, x1, x2, x3, x4, x5⟩ := in_block KX6.out
        rw [HXD.out] at x1
        rw [HXD.out, Int.toNat_natCast] at HE
        have hne : w.heap.size ≠ g1 := by have := HG1.out; omega
        go_wp2_with fail
        go_region_held3 (fun w' => w'.cell? ⟨w.heap.size, 0, none⟩ = some (.int .i64 x.op) ∧ w'.cell? ⟨w.heap.size, 1, none⟩ = some (.int .i64 (D : Int)) ∧ w'.cell? ⟨w.heap.size, 5, none⟩ = some (.int .u64 x.imm))
          (first | with_reducible exact cells_far HXD.out KX7.out hne | with_reducible exact ⟨y0, y1, y5⟩ | exact ⟨x0, x1, x5⟩)
          (first
          | (go_at_call 116; refine (CV.out _ (by exact D6.out.drew)).mono ?_; rintro e w7 ⟨rfl, d7⟩; have D7 := Lib.hid ((Drawn.refl w6).drew.trans d7); have KX7 := Lib.hid (D7.out.heap KX6.out); obtain ⟨y0, y1, y2, y3, y4, y5⟩ := in_block KX7.out; rw [HXD.out] at y1; obtain ⟨q1, q2, q3⟩ := (S6.out.drawn D7.out).at hDR; have US := Lib.hid q3; clear q3 d7)
          | fail)
        go_wp2_with fail
        go_ret2
        exact ⟨.inr ⟨_, g1, HE.out, by have := HG1.out; omega, rfl, US.out _⟩, (B6.out.trans (D7.out.below _)).setCell (Nat.le_of_lt HG1.out) _⟩
end Go.Proofs.Sat
