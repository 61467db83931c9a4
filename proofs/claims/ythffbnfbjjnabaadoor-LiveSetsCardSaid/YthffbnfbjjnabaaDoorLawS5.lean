/- The walk of the law LiveSets. -/
import Derived.Test.YthffbnfbjjnabaaDoorLvZ
set_option linter.unusedVariables false
set_option linter.unusedSimpArgs false
namespace Go.Proofs.Sat
open Go Go.RowKit
theorem Rd.inner {S : Nat → Prop} {w : World} {a : Option Addr} {c : Nat} {l : List (List Int)} (h : Rd (Kd.slice (Kd.int .i64)) S w a c l) {j : Nat} (hj : j < l.length) : ∃ b o a' c', a = some ⟨b, o, none⟩ ∧ w.cell? ⟨b, o + j, none⟩ = some (.slice a' l[j].length c') ∧ Rd (Kd.int .i64) S w a' c' l[j] := by
  obtain ⟨b, o, cs, rfl, hs, hb, ⟨a', c', rfl, hr⟩, hc⟩ := h.elem hj
  have := hc 0 _ rfl
  refine ⟨b, o, a', c', rfl, ?_, hr⟩
  simpa [Kd.slice] using this
theorem aftR_len (c : Cd) : (aftR c).length ≤ c.ins.length := by unfold aftR; split; (· rw [aftL_length]; exact Nat.le_refl _); (· simp)
set_option maxRecDepth 20000 in
set_option maxHeartbeats 4000000 in
theorem law_Sets (c d : Cd) (p q : CdAt) (w : World) (hK : IsaT w) (h : CdRd (fun _ => True) w c p) (h' : CdRd (fun _ => True) w d q) : Calls Tryd.prog 9 #[cdVal c p, cdVal d q] w fun e w' => e = .returned (.bool true) ∧ Below w.heap.size w w' := by
  obtain ⟨ia, ic, oa, oc⟩ := p
  obtain ⟨ja, jc, qa, qc⟩ := q
  have BW := Lib.hid (below_alloc (below_alloc (Below.refl w.heap.size w) (.cells (cellsC c ia ic oa oc) 25)) (.cells (cellsC d ja jc qa qc) 25))
  have KC := Lib.hid (block_alloc (heap_alloc_new w (.cells (cellsC c ia ic oa oc) 25)) (.cells (cellsC d ja jc qa qc) 25))
  have KD := Lib.hid (block_at1 w (.cells (cellsC c ia ic oa oc) 25) (.cells (cellsC d ja jc qa qc) 25))
  have HC := Lib.hid h
  have HD := Lib.hid h'
  have l1 := h.ins.le
  have l2 := h'.ins.le
  have HLC := Lib.hid (fun W (b : Below w.heap.size w W) => law50_light _ c ⟨ia, ic, oa, oc⟩ W (HC.out.frame (Same.below b)))
  have HLD := Lib.hid (fun W (b : Below w.heap.size w W) => law50_light _ d ⟨ja, jc, qa, qc⟩ W (HD.out.frame (Same.below b)))
  clear h h'
  unfold cdVal
  go_enter Tryd.func9, Tryd.ntmps9
  go_upto_region 1 with fail
  obtain ⟨s0, s1, s2, s3⟩ := cd_block4 KC.out
  obtain ⟨t0, t1, t2, t3⟩ := cd_block4 KD.out
  generalize (w.alloc (.cells (cellsC c ia ic oa oc) 25)).alloc (.cells (cellsC d ja jc qa qc) 25) = W0 at *
  go_cut [29] (fun s wx => ∃ b : Bool, s = .bool b ∧ Hid (b = false → c.ins.length ≤ 40 ∧ d.ins.length ≤ 40) ∧ Hid (wx.heap[w.heap.size]? = some (.cells (cellsC c ia ic oa oc) 25 (0, 0))) ∧ Hid (wx.heap[w.heap.size + 1]? = some (.cells (cellsC d ja jc qa qc) 25 (0, 0))) ∧ Hid (Below w.heap.size w wx))
  case first =>
    by_cases h40 : 40 < c.ins.length
    · have h40' : (40 : Int) < (c.ins.length : Int) := by omega
      go_wp2_with fail
      go_meet
      case rel => exact ⟨true, rfl, (fun e => by cases e), KC.out, KD.out, BW.out⟩
    have h40' : ¬ (40 : Int) < (c.ins.length : Int) := by omega
    by_cases h41 : 40 < d.ins.length
    · have h41' : (40 : Int) < (d.ins.length : Int) := by omega
      go_wp2_with fail
      go_meet
      case rel => exact ⟨true, rfl, (fun e => by cases e), KC.out, KD.out, BW.out⟩
    have h41' : ¬ (40 : Int) < (d.ins.length : Int) := by omega
    have HL : Hid (c.ins.length ≤ 40 ∧ d.ins.length ≤ 40) := ⟨by omega, by omega⟩
    generalize decide (c.ins.length ≤ 300 ∧ c.out.length ≤ 20) = bc at *
    generalize decide (d.ins.length ≤ 300 ∧ d.out.length ≤ 20) = bd at *
    go_wp2_with fail
    refine (HLC.out W0 BW.out).mono ?_
    rintro e w2 ⟨rfl, b2⟩
    have B2 := Lib.hid (below_both BW.out b2)
    have KC2 := Lib.hid (block_below b2 KC.out)
    have KD2 := Lib.hid (block_below b2 KD.out)
    clear b2 s0 s1 s2 s3 t0 t1 t2 t3
    obtain ⟨t0, t1, t2, t3⟩ := cd_block4 KD2.out
    cases bc
    · go_wp2_with fail
      go_meet
      case rel => exact ⟨true, rfl, (fun e => by cases e), KC2.out, KD2.out, B2.out⟩
    · go_wp2_with fail
      refine (HLD.out w2 B2.out).mono ?_
      rintro e w3 ⟨rfl, b3⟩
      have B3 := Lib.hid (below_both B2.out b3)
      have KC3 := Lib.hid (block_below b3 KC2.out)
      have KD3 := Lib.hid (block_below b3 KD2.out)
      clear b3
      cases bd
      all_goals
        go_wp2_with fail
        go_meet
        case rel => exact ⟨_, rfl, fun _ => HL.out, KC3.out, KD3.out, B3.out⟩
  case rest =>
    obtain ⟨b, rfl, HL, KC2, KD2, B2⟩ := hcut
    clear s0 s1 s2 s3 t0 t1 t2 t3 HLC HLD
    cases b
    case true =>
      go_wp2_with fail
      refine (law50_lives wc (hK.below B2.out)).mono ?_
      rintro e w3 ⟨rfl, b3⟩
      have B3 := Lib.hid (below_both B2.out b3)
      clear b3
      go_wp2_with fail
      go_ret
      exact ⟨rfl, B3.out⟩
    have hle := HL.out rfl
    obtain ⟨hc40, hd40⟩ := hle
    have hal := aftR_len c
    obtain ⟨s0, s1, s2, s3⟩ := cd_block4 KC2.out
    obtain ⟨t0, t1, t2, t3⟩ := cd_block4 KD2.out
    have B2d : Hid (Below w.heap.size w wc.drew) := below_drewN B2.out 1
    have KC2d : Hid (wc.drew.heap[w.heap.size]? = _) := KC2.out
    have KD2d : Hid (wc.drew.heap[w.heap.size + 1]? = _) := KD2.out
    have CA := Lib.hid (fun W (b : Below w.heap.size w W) => live_After _ c ⟨ia, ic, oa, oc⟩ W (hK.below b) (HC.out.frame (Same.below b)))
    have CB := Lib.hid (fun W (b : Below w.heap.size w W) => ref50_After _ c ⟨ia, ic, oa, oc⟩ W (HC.out.frame (Same.below b)))
    generalize aftR c = L at *
    go_upto_region 3 with fail
    go_region_held3 (fun w' => (w'.cell? ⟨w.heap.size, 0, none⟩ = some (.int .i64 c.width) ∧ w'.cell? ⟨w.heap.size, 1, none⟩ = some (.int .i64 c.regs) ∧ w'.cell? ⟨w.heap.size, 2, none⟩ = some (.slice ia c.ins.length ic) ∧ w'.cell? ⟨w.heap.size, 3, none⟩ = some (.slice oa c.out.length oc)) ∧ (w'.cell? ⟨w.heap.size + 1, 0, none⟩ = some (.int .i64 d.width) ∧ w'.cell? ⟨w.heap.size + 1, 1, none⟩ = some (.int .i64 d.regs) ∧ w'.cell? ⟨w.heap.size + 1, 2, none⟩ = some (.slice ja d.ins.length jc) ∧ w'.cell? ⟨w.heap.size + 1, 3, none⟩ = some (.slice qa d.out.length qc)))
        (first | with_reducible exact ⟨cd_block4 KC4.out, cd_block4 KD4.out⟩ | with_reducible exact ⟨cd_block4 KC3.out, cd_block4 KD3.out⟩ | exact ⟨⟨s0, s1, s2, s3⟩, ⟨t0, t1, t2, t3⟩⟩)
        (first
        | (go_at_call 25
           refine (CA.out _ B2d.out).mono ?_
           rintro e w3 ⟨v3, rfl, o3, b3⟩
           obtain ⟨a3, c3, rfl⟩ := o3.form
           have B3 := Lib.hid (below_both B2d.out b3)
           have KC3 := Lib.hid (block_below b3 KC2d.out)
           have KD3 := Lib.hid (block_below b3 KD2d.out)
           have R3 := Lib.hid ((Own.rd' o3).mono (S' := fun _ => True) (fun _ _ _ => trivial))
           clear o3 b3)
        | (go_at_call 26
           refine (CB.out _ B3.out).mono ?_
           rintro e w4 ⟨v4, rfl, o4, b4⟩
           obtain ⟨a4, c4, rfl⟩ := o4.form
           have B4 := Lib.hid (below_both B3.out b4)
           have KC4 := Lib.hid (block_below b4 KC3.out)
           have KD4 := Lib.hid (block_below b4 KD3.out)
           have R34 := Lib.hid (R3.out.frame (Same.below b4))
           have R4 := Lib.hid ((Own.rd' o4).mono (S' := fun _ => True) (fun _ _ _ => trivial))
           clear o4 b4)
        | fail)
    have tl : ((L.length : Int) != (L.length : Int)) = false := by simp
    clear s0 s1 s2 s3 t0 t1 t2 t3
    go_wp2_with fail
    go_loopw [42] (fun i wr => ∃ k : Nat, k ≤ L.length ∧ i = .int .i64 k ∧ Hid (Drawn w4 wr)) (fun i _ => L.length - (intOf i).toNat)
    case atStart => exact ⟨0, by omega, rfl, Drawn.refl _⟩
    case round =>
      obtain ⟨k, hk, rfl, HDR⟩ := hrel
      by_cases hlt : k < L.length
      · obtain ⟨b1, o1, a1, n1, rfl, e1, r1⟩ := (R34.out.frame (Same.drawn _ HDR.out)).inner hlt
        obtain ⟨b2, o2, a2, n2, rfl, e2, r2⟩ := (R4.out.frame (Same.drawn _ HDR.out)).inner hlt
        have CS : Hid (∀ n, Calls Tryd.prog 20 #[.slice a1 L[k].length n1, .slice a2 L[k].length n2] (wr.drewN n) fun e w' => e = .returned (.bool true) ∧ Drawn (wr.drewN n) w') := fun n => by
          have := ref50_SameInts _ _ a1 a2 n1 n2 L[k] L[k] (wr.drewN n) (r1.frame (Same.drewN _ _ _)) (r2.frame (Same.drewN _ _ _))
          rwa [decide_eq_true rfl] at this
        generalize L[k] = row at *
        clear r1 r2
        go_wp2_with fail
        go_quiet ((go_at_call 20; exact Calls.quiet_of (CS.out _)))
        have D6 := Lib.hid (HDR.out.trans (Drawn.of wr nq))
        go_wp2_with fail
        go_roundw
        case rel => exact ⟨k + 1, by omega, by go_num, D6.out⟩
        case measure => simp [intOf]; omega
      · have B5 := Lib.hid (B4.out.trans (HDR.out.below _))
        have KC5 := Lib.hid (HDR.out.heap KC4.out)
        have KD5 := Lib.hid (HDR.out.heap KD4.out)
        clear HDR R34 R4 R3 tl
        obtain ⟨w5, hw5⟩ : ∃ w5, w5 = wr := ⟨_, rfl⟩
        subst hw5
        obtain ⟨s0, s1, s2, s3⟩ := cd_block4 KC5.out
        obtain ⟨t0, t1, t2, t3⟩ := cd_block4 KD5.out
        have B5d : Hid (Below w.heap.size w w5.drew) := below_drewN B5.out 1
        have KC5d : Hid (w5.drew.heap[w.heap.size]? = _) := KC5.out
        have KD5d : Hid (w5.drew.heap[w.heap.size + 1]? = _) := KD5.out
        have I1 := Lib.hid (fun W (b : Below w.heap.size w W) => ref50_Inputs _ c ⟨ia, ic, oa, oc⟩ W (HC.out.frame (Same.below b)))
        have I2 := Lib.hid (fun W (b : Below w.heap.size w W) => ref50_Inputs _ d ⟨ja, jc, qa, qc⟩ W (HD.out.frame (Same.below b)))
        have P1 := Lib.hid (fun W (b : Below w.heap.size w W) => live_Inputs _ c ⟨ia, ic, oa, oc⟩ W (hK.below b) (HC.out.frame (Same.below b)))
        have P2 := Lib.hid (fun W (b : Below w.heap.size w W) => live_Inputs2 _ c d ⟨ia, ic, oa, oc⟩ ⟨ja, jc, qa, qc⟩ W (hK.below b) (HC.out.frame (Same.below b)) (HD.out.frame (Same.below b)))
        have HBE := Lib.hid (both_eq c d)
        generalize ofL (inpL c ++ inpL d) = u at *
        have SMI : Hid (∀ (a1 a2 : Option Addr) (n1 n2 : Nat) (l : List Int) (S1 S2 : Nat → Prop) (W : World), Rd (Kd.int .i64) S1 W a1 n1 l → Rd (Kd.int .i64) S2 W a2 n2 l → Calls Tryd.prog 20 #[.slice a1 l.length n1, .slice a2 l.length n2] W fun e w' => e = .returned (.bool true) ∧ Drawn W w') := fun a1 a2 n1 n2 l S1 S2 W r1 r2 => by
          have := ref50_SameInts S1 S2 a1 a2 n1 n2 l l W r1 r2
          rwa [decide_eq_true rfl] at this
        generalize inpL c = lc at *
        generalize inpL d = ld at *
        go_upto_region 12 with fail
        go_region_held3 (fun w' => (w'.cell? ⟨w.heap.size, 0, none⟩ = some (.int .i64 c.width) ∧ w'.cell? ⟨w.heap.size, 1, none⟩ = some (.int .i64 c.regs) ∧ w'.cell? ⟨w.heap.size, 2, none⟩ = some (.slice ia c.ins.length ic) ∧ w'.cell? ⟨w.heap.size, 3, none⟩ = some (.slice oa c.out.length oc)) ∧ (w'.cell? ⟨w.heap.size + 1, 0, none⟩ = some (.int .i64 d.width) ∧ w'.cell? ⟨w.heap.size + 1, 1, none⟩ = some (.int .i64 d.regs) ∧ w'.cell? ⟨w.heap.size + 1, 2, none⟩ = some (.slice ja d.ins.length jc) ∧ w'.cell? ⟨w.heap.size + 1, 3, none⟩ = some (.slice qa d.out.length qc)))
            (first | with_reducible exact ⟨cd_block4 KC7.out, cd_block4 KD7.out⟩ | with_reducible exact ⟨cd_block4 KC6.out, cd_block4 KD6.out⟩ | exact ⟨⟨s0, s1, s2, s3⟩, ⟨t0, t1, t2, t3⟩⟩)
            (first
            | (go_at_call 27
               (with_reducible refine gate_a #[cdVal c ⟨ia, ic, oa, oc⟩] rfl ?_)
               refine (I1.out _ B5d.out).mono ?_
               rintro e w6 ⟨v6, rfl, o6, b6⟩
               obtain ⟨a6, n6, rfl⟩ := o6.form
               have B6 := Lib.hid (below_both B5d.out b6)
               have KC6 := Lib.hid (block_below b6 KC5d.out)
               have KD6 := Lib.hid (block_below b6 KD5d.out)
               have R6 := Lib.hid (Own.rd' o6)
               clear o6 b6)
            | (go_at_call 27
               refine (I2.out _ B6.out).mono ?_
               rintro e w7 ⟨v7, rfl, o7, b7⟩
               obtain ⟨a7, n7, rfl⟩ := o7.form
               have B7 := Lib.hid (below_both B6.out b7)
               have KC7 := Lib.hid (block_below b7 KC6.out)
               have KD7 := Lib.hid (block_below b7 KD6.out)
               have R67 := Lib.hid (R6.out.frame (Same.below b7))
               have R7 := Lib.hid (Own.rd' o7)
               clear o7 b7)
            | fail)
        clear s0 s1 s2 s3 t0 t1 t2 t3
        obtain ⟨s0, s1, s2, s3⟩ := cd_block4 KC7.out
        go_wp2_with fail
        refine (P1.out _ B7.out).mono ?_
        rintro e w8 ⟨v8, rfl, o8, b8⟩
        obtain ⟨a8, n8, rfl⟩ := o8.form
        have B8 := Lib.hid (below_both B7.out b8)
        have KC8 := Lib.hid (block_below b8 KC7.out)
        have KD8 := Lib.hid (block_below b8 KD7.out)
        have R8 := Lib.hid (Own.rd' o8)
        have R68 := Lib.hid (R67.out.frame (Same.below b8))
        have R78 := Lib.hid (R7.out.frame (Same.below b8))
        clear o8 b8 s0 s1 s2 s3
        go_wp2_with fail
        refine (SMI.out _ _ _ _ _ _ _ _ R8.out R68.out).mono ?_
        rintro e w9 ⟨rfl, d9⟩
        have B9 := Lib.hid (B8.out.trans (d9.below _))
        have KC9 := Lib.hid (d9.heap KC8.out)
        have KD9 := Lib.hid (d9.heap KD8.out)
        have R69 := Lib.hid (R68.out.frame (Same.drawn _ d9))
        have R79 := Lib.hid (R78.out.frame (Same.drawn _ d9))
        clear d9
        obtain ⟨s0, s1, s2, s3⟩ := cd_block4 KC9.out
        obtain ⟨t0, t1, t2, t3⟩ := cd_block4 KD9.out
        go_wp2_with fail
        refine (P2.out _ B9.out).mono ?_
        rintro e w10 ⟨v10, rfl, o10, b10⟩
        obtain ⟨a10, n10, rfl⟩ := o10.form
        have B10 := Lib.hid (below_both B9.out b10)
        have R10 := Lib.hid (Own.rd' o10)
        have R610 := Lib.hid (R69.out.frame (Same.below b10))
        have R710 := Lib.hid (R79.out.frame (Same.below b10))
        clear o10 b10 s0 s1 s2 s3 t0 t1 t2 t3
        go_wp2_with fail
        refine (ref50_Both _ _ a6 a7 n6 n7 lc ld w10 R610.out R710.out).mono ?_
        rintro e w11 ⟨v11, rfl, o11, b11⟩
        rw [← HBE.out] at o11
        obtain ⟨a11, n11, rfl⟩ := o11.form
        have B11 := Lib.hid (below_both B10.out b11)
        have R11 := Lib.hid (Own.rd' o11)
        have R1011 := Lib.hid (R10.out.frame (Same.below b11))
        clear o11 b11
        go_wp2_with fail
        refine (SMI.out _ _ _ _ _ _ _ _ R1011.out R11.out).mono ?_
        rintro e w12 ⟨rfl, d12⟩
        have B12 := Lib.hid (B11.out.trans (d12.below _))
        clear d12
        go_wp2_with fail
        refine (law50_lives _ (hK.below B12.out)).mono ?_
        rintro e w13 ⟨rfl, b13⟩
        have B13 := Lib.hid (below_both B12.out b13)
        clear b13
        go_wp2_with fail
        go_ret
        exact ⟨rfl, B13.out⟩
end Go.Proofs.Sat
