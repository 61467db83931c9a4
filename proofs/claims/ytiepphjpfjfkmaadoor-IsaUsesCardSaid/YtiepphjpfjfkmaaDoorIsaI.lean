/- The walk of isa.ins. -/
import Derived.Test.YtiepphjpfjfkmaaDoorIsaC
import Derived.Test.YtiepphjpfjfkmaaDoorCtnW

import Derived.Deep.DeepCutAuto
set_option linter.unusedVariables false
set_option linter.unusedSimpArgs false
namespace Go.Proofs.Sat
open Go Go.RowKit
theorem cd_block {w : World} {g : Nat} {t : TypeId} {v0 v1 v2 v3 : Value} (h : w.heap[g]? = some (.cells #[v0, v1, v2, v3] t (0, 0))) : w.cell? ⟨g, 0, none⟩ = some v0 ∧ w.cell? ⟨g, 1, none⟩ = some v1 := by
  refine ⟨?_, ?_⟩ <;> simp [World.cell?, h]
set_option maxHeartbeats 400000 in
theorem isa_in (r regs : Int) (g : Nat) (w : World) (hc : w.cell? ⟨g, 1, none⟩ = some (.int .i64 regs)) : Calls Tryd.prog 48 #[.int .i64 r, .pointer (some ⟨g, 0, none⟩)] w fun e w' => e = .returned (.bool (inR r regs)) ∧ Drawn w w' := by
  go_enter Tryd.func48, Tryd.ntmps48
  by_cases h0 : 0 ≤ r
  · by_cases h1 : r < regs
    · have HE : Hid (inR r regs = true) := decide_eq_true ⟨h0, h1⟩
      rw [HE.out]
      go_wp2
      all_goals go_ret
      all_goals exact ⟨rfl, by first | exact Drawn.refl _ | exact Drawn.of _ _⟩
    · have HE : Hid (inR r regs = false) := decide_eq_false (by omega)
      rw [HE.out]
      go_wp2
      all_goals go_ret
      all_goals exact ⟨rfl, by first | exact Drawn.refl _ | exact Drawn.of _ _⟩
  · have HE : Hid (inR r regs = false) := decide_eq_false (by omega)
    rw [HE.out]
    go_wp2
    all_goals go_ret
    all_goals exact ⟨rfl, by first | exact Drawn.refl _ | exact Drawn.of _ _⟩
/-- The fields that must be 0. -/
def restI (x : In) : List Int := [x.a, x.b, x.c].drop (srcN x.op).toNat ++ (if x.op = 0 then [x.dst] else [])
theorem insErr_late {width regs : Int} {x : In} (hk : knownI x.op = true) (hd : ¬ (defsI x = true ∧ inR x.dst regs = false)) (hu : (usesI x).all (fun r => inR r regs) = true) (hm : ¬ (x.op = 1 ∧ maskI width < x.imm)) :
    insErr width regs x = if (x.op ≠ 1 ∧ x.imm ≠ 0) ∨ (restI x).all (fun r => r == 0) = false then 19 else 0 := by
  unfold insErr restI
  rw [if_neg (by simp [hk]), if_neg hd, if_neg (by rw [hu]; simp), if_neg hm]
  generalize hB : ([x.a, x.b, x.c].drop (srcN x.op).toNat) = l
  have e : (l ++ (if x.op = 0 then [x.dst] else [])).all (fun r => r == 0) = false ↔ (x.op = 0 ∧ x.dst ≠ 0) ∨ l.all (fun r => r == 0) = false := by
    rw [List.all_append]
    by_cases h0 : x.op = 0
    · rw [if_pos h0]
      cases l.all (fun r => r == 0) <;> simp [h0]
    · rw [if_neg h0]
      cases l.all (fun r => r == 0) <;> simp [h0]
  simp only [e]
theorem rd_off {w : World} {g : Nat} {t : TypeId} {fr : Nat × Nat} (l : List Int) (hg : w.heap[g]? = some (.cells (l.map (Value.int .i64)).toArray t fr)) (n : Nat) (S : Nat → Prop) (hS : S g) (hl : l.length ≤ 9223372036854775807) :
    Rd (Kd.int .i64) S w (some ⟨g, n, none⟩) (l.length - n) (l.drop n) := by
  have h := rd_block (d := Kd.int .i64) (S := S) hg (elems_vals l) hS l.length (Nat.le_refl _) hl
  refine ⟨by simp, by omega, fun hp => ?_⟩
  simp at hp
  obtain ⟨b, o, e, hr⟩ := h.2.2 (by omega)
  cases e
  refine ⟨g, n, rfl, ?_⟩
  have := hr.drop n
  rwa [show 0 + n * (Kd.int .i64).sz = n from by show 0 + n * 1 = n; omega] at this
theorem rest_off {w0 W : World} {g : Nat} {x : In} {sn : Int} (hs : srcN x.op = sn) (hg : W.heap[g]? = some (.cells #[.int .i64 x.a, .int .i64 x.b, .int .i64 x.c] 3 (0, 0))) (hb : w0.heap.size ≤ g) (B : Below w0.heap.size w0 W) :
    ∃ a cc, Value.slice (if sn = 3 then some ⟨g, 0, none⟩ else some ⟨g, sn.toNat, none⟩) (3 - sn.toNat) (3 - sn.toNat) = .slice a ([x.a, x.b, x.c].drop (srcN x.op).toNat).length cc ∧ Hid (Rd (Kd.int .i64) (fun b => w0.heap.size ≤ b) W a cc ([x.a, x.b, x.c].drop (srcN x.op).toNat)) ∧ Hid (x.op = 0 → Own (Kd.int .i64) 3 NoS W w0.heap.size (.slice a ([x.a, x.b, x.c].drop (srcN x.op).toNat).length cc) [x.a, x.b, x.c]) ∧ Hid (Below w0.heap.size w0 W) := by
  subst hs
  have h1 := srcN_le x.op
  refine ⟨if srcN x.op = 3 then some ⟨g, 0, none⟩ else some ⟨g, (srcN x.op).toNat, none⟩, 3 - (srcN x.op).toNat, by simp [List.length_drop], ?_, ?_, B⟩
  · by_cases h3 : srcN x.op = 3
    · rw [if_pos h3, h3]
      exact Rd.nil _ _ _ _ _ (by decide)
    · rw [if_neg h3]
      have := rd_off (S := fun b => w0.heap.size ≤ b) [x.a, x.b, x.c] hg (srcN x.op).toNat hb (by simp)
      show Rd _ _ _ _ _ _
      simpa using this
  · intro h0
    have hs : srcN x.op = 0 := by rw [h0]; rfl
    rw [hs]
    exact Own.of_block (enc := fun x => .int .i64 x) (xs := [x.a, x.b, x.c]) NoS hb hg (by simp) (by simp [maxLen]) rfl rfl
set_option maxRecDepth 20000 in
set_option maxHeartbeats 1000000 in
theorem isa_ins (c : Cd) (p : CdAt) (x : In) (w : World) (hK : IsaT w) (hw1 : 1 ≤ c.width) (hw2 : c.width ≤ 64) : Calls Tryd.prog 35 #[cdVal c p, inVal x] w fun e w' => e = .returned (.int .i64 (insErr c.width c.regs x)) ∧ Below w.heap.size w w' := by
  have BW := Lib.hid (below_alloc (below_alloc (Below.refl w.heap.size w) (.cells #[.int .i64 c.width, .int .i64 c.regs, .slice p.ia c.ins.length p.ic, .slice p.oa c.out.length p.oc] 36)) (.cells #[.int .i64 x.op, .int .i64 x.dst, .int .i64 x.a, .int .i64 x.b, .int .i64 x.c, .int .u64 x.imm] 25))
  have KC := Lib.hid (block_alloc (heap_alloc_new w (.cells #[.int .i64 c.width, .int .i64 c.regs, .slice p.ia c.ins.length p.ic, .slice p.oa c.out.length p.oc] 36)) (.cells #[.int .i64 x.op, .int .i64 x.dst, .int .i64 x.a, .int .i64 x.b, .int .i64 x.c, .int .u64 x.imm] 25))
  have KX := Lib.hid (block_at1 w (.cells #[.int .i64 c.width, .int .i64 c.regs, .slice p.ia c.ins.length p.ic, .slice p.oa c.out.length p.oc] 36) (.cells #[.int .i64 x.op, .int .i64 x.dst, .int .i64 x.a, .int .i64 x.b, .int .i64 x.c, .int .u64 x.imm] 25))
  unfold cdVal inVal
  go_enter Tryd.func35, Tryd.ntmps35
  cases hk : knownI x.op
  · have HE : Hid (insErr c.width c.regs x = 4) := by show _ = _; unfold insErr; rw [if_pos hk]
    rw [HE.out]
    have CK := isa_known x.op ((w.alloc (.cells #[.int .i64 c.width, .int .i64 c.regs, .slice p.ia c.ins.length p.ic, .slice p.oa c.out.length p.oc] 36)).alloc (.cells #[.int .i64 x.op, .int .i64 x.dst, .int .i64 x.a, .int .i64 x.b, .int .i64 x.c, .int .u64 x.imm] 25))
    rw [hk] at CK
    replace CK := Lib.hid CK
    go_wp2_with fail
    refine CK.out.mono ?_
    rintro e w1 ⟨rfl, d1⟩
    have B1 := BW.out.trans (d1.below _)
    clear CK d1
    go_wp2
    go_ret
    exact ⟨rfl, B1⟩
  have CK := isa_known x.op ((w.alloc (.cells #[.int .i64 c.width, .int .i64 c.regs, .slice p.ia c.ins.length p.ic, .slice p.oa c.out.length p.oc] 36)).alloc (.cells #[.int .i64 x.op, .int .i64 x.dst, .int .i64 x.a, .int .i64 x.b, .int .i64 x.c, .int .u64 x.imm] 25))
  rw [hk] at CK
  replace CK := Lib.hid CK
  go_wp2_with fail
  refine CK.out.mono ?_
  rintro e w1 ⟨rfl, d1⟩
  have B1 := Lib.hid (BW.out.trans (d1.below _))
  have KC1 := Lib.hid (d1.heap KC.out)
  have KX1 := Lib.hid (d1.heap KX.out)
  obtain ⟨x0, x1, x2, x3, x4, x5⟩ := in_block KX1.out
  clear CK d1 BW KC KX
  go_wp2_with fail
  refine (isa_Def x w1).mono ?_
  rintro e w2 ⟨rfl, b2⟩
  have B2 := Lib.hid (below_both B1.out b2)
  have KC2 := Lib.hid (block_below b2 KC1.out)
  have KX2 := Lib.hid (block_below b2 KX1.out)
  clear x0 x1 x2 x3 x4 x5 b2 KC1 KX1 B1
  obtain ⟨x0, x1, x2, x3, x4, x5⟩ := in_block KX2.out
  obtain ⟨k0, k1⟩ := cd_block KC2.out
  have CI : Hid (∀ W, W.cell? ⟨w.heap.size, 1, none⟩ = some (.int .i64 c.regs) → Calls Tryd.prog 48 #[.int .i64 x.dst, .pointer (some ⟨w.heap.size, 0, none⟩)] W fun e w' => e = .returned (.bool (inR x.dst c.regs)) ∧ Drawn W w') := fun W h => isa_in _ c.regs w.heap.size W h
  go_upto_region 5 with fail
  go_cut [6, 7, 27] (fun s6 s7 s27 wx => s27 = .bool (defsI x && !inR x.dst c.regs) ∧ Drawn w2 wx)
  case first =>
    cases hdd : defsI x
    · go_wp2_with fail
      go_meet
      case rel => exact ⟨by rw [hdd]; rfl, Drawn.refl _⟩
    · go_wp2_with (go_at_call 48; refine (CI.out _ k1).mono ?_; rintro e w3 ⟨rfl, d3⟩)
      go_meet
      case rel => exact ⟨by rw [hdd]; rfl, d3⟩
  case rest =>
    obtain ⟨rfl, d3⟩ := hcut
    have KC3 := Lib.hid (d3.heap KC2.out)
    have KX3 := Lib.hid (d3.heap KX2.out)
    have B3 := Lib.hid (B2.out.trans (d3.below _))
    clear x0 x1 x2 x3 x4 x5 k0 k1 d3 CI
    obtain ⟨y0, y1, y2, y3, y4, y5⟩ := in_block KX3.out
    obtain ⟨z0, z1⟩ := cd_block KC3.out
    cases hdb : (defsI x && !inR x.dst c.regs)
    case true =>
      have HE : Hid (insErr c.width c.regs x = 18) := by show _ = _; unfold insErr; rw [if_neg (by simp [hk]), if_pos (by simpa using hdb)]
      clear hdb
      go_wp2
      go_ret
      exact ⟨ret_int HE.out.symm, B3.out⟩
    have HD : Hid (¬ (defsI x = true ∧ inR x.dst c.regs = false)) := by show ¬ _; rintro ⟨h1, h2⟩; rw [h1, h2] at hdb; cases hdb
    clear hdb
    go_wp2_with fail
    refine (isa_Uses x wc (hK.below B3.out)).mono ?_
    rintro e w4 ⟨ua, uc, rfl, ru, b4⟩
    have B4 := Lib.hid (below_both B3.out b4)
    have KC4 := Lib.hid (block_below b4 KC3.out)
    have KX4 := Lib.hid (block_below b4 KX3.out)
    have RU := Lib.hid ru
    have hul := usesI_length x
    clear b4 ru y0 y1 y2 y3 y4 y5 z0 z1
    go_wp2
    go_loopw [31] (fun i wr => ∃ k : Nat, k ≤ (usesI x).length ∧ i = .int .i64 k ∧ Hid (∀ j (hj : j < (usesI x).length), j < k → inR (usesI x)[j] c.regs = true) ∧ Hid (Drawn w4 wr)) (fun i _ => (usesI x).length - (intOf i).toNat)
    case atStart => exact ⟨0, by omega, rfl, fun j hj h => by omega, Drawn.refl _⟩
    case round =>
      obtain ⟨k, hk9, rfl, hv, HDR⟩ := hrel
      by_cases hlt : k < (usesI x).length
      · obtain ⟨b5, o5, rfl, _, _, hc5⟩ := (RU.out.frame (Same.drawn _ HDR.out)).vals (by omega) 0
        have d5 := hc5 k hlt
        rw [getD_at (usesI x) hlt] at d5
        have HB5 := Lib.hid (fun (hq : inR (usesI x)[k] c.regs = false) => show insErr c.width c.regs x = 18 from by
          unfold insErr
          rw [if_neg (by simp [hk]), if_neg HD.out, if_pos]
          rw [List.all_eq_false]
          exact ⟨_, List.getElem_mem hlt, by simp [hq]⟩)
        have HV5 := Lib.hid (fun (hq : inR (usesI x)[k] c.regs = true) j (hj : j < (usesI x).length) (hjk : j < k + 1) => show inR (usesI x)[j] c.regs = true from by
          rcases Nat.lt_or_ge j k with h' | h'
          · exact hv.out j hj h'
          · obtain rfl : j = k := by omega
            exact hq)
        have CI := isa_in (usesI x)[k] c.regs w.heap.size wr (cd_block (HDR.out.heap KC4.out)).2
        generalize (usesI x)[k] = r at *
        clear hc5
        cases hq : inR r c.regs
        · have HE := Lib.hid (HB5.out hq)
          rw [hq] at CI
          replace CI := Lib.hid CI
          go_wp2_with fail
          refine CI.out.mono ?_
          rintro e w6 ⟨rfl, d6⟩
          have B6 := Lib.hid ((B4.out.trans (HDR.out.below _)).trans (d6.below _))
          clear d6
          go_wp2
          go_ret
          exact ⟨ret_int HE.out.symm, B6.out⟩
        · have HV6 := Lib.hid (HV5.out hq)
          rw [hq] at CI
          replace CI := Lib.hid CI
          go_wp2_with fail
          refine CI.out.mono ?_
          rintro e w6 ⟨rfl, d6⟩
          have D6 := Lib.hid (HDR.out.trans d6)
          clear d6
          go_wp2
          go_roundw
          case rel => exact ⟨k + 1, by omega, by go_num, HV6.out, D6.out⟩
          case measure => simp [intOf]; omega
      · have HALL : Hid ((usesI x).all (fun r => inR r c.regs) = true) := by
          show _ = _
          rw [List.all_eq_true]
          intro r hr
          obtain ⟨j, hj, rfl⟩ := List.getElem_of_mem hr
          exact hv.out j hj (by omega)
        have B5 := Lib.hid (B4.out.trans (HDR.out.below _))
        have KC5 := Lib.hid (HDR.out.heap KC4.out)
        have KX5 := Lib.hid (HDR.out.heap KX4.out)
        obtain ⟨y0, y1, y2, y3, y4, y5⟩ := in_block KX5.out
        obtain ⟨z0, z1⟩ := cd_block KC5.out
        have CM := Lib.hid (fun W => bits_Mask c.width W hw1 hw2)
        clear HDR hv
        obtain ⟨w5, hw5⟩ : ∃ w5, w5 = wr := ⟨_, rfl⟩
        subst hw5
        go_upto_region 13 with fail
        go_cut [50] (fun s wx => s = .bool (decide (x.op = 1 ∧ maskI c.width < x.imm)) ∧ Drawn w5 wx)
        case first =>
          by_cases h1 : x.op = 1
          · have t11 : (x.op == 1) = true := by simpa using h1
            by_cases hm : maskI c.width < x.imm
            · have HE : Hid (decide (x.op = 1 ∧ maskI c.width < x.imm) = true) := decide_eq_true ⟨h1, hm⟩
              clear h1
              go_region_held3 (fun w' => w'.cell? ⟨w.heap.size + 1, 0, none⟩ = some (.int .i64 x.op) ∧ w'.cell? ⟨w.heap.size + 1, 5, none⟩ = some (.int .u64 x.imm) ∧ w'.cell? ⟨w.heap.size, 0, none⟩ = some (.int .i64 c.width)) (first | exact ⟨y0, y5, z0⟩ | exact ⟨dm.cell y0, dm.cell y5, dm.cell z0⟩)
                (first
                | (go_at_call 49; refine (CM.out _).mono ?_; rintro e w6 ⟨rfl, dm⟩)
                | fail)
              all_goals
                go_wp2_with fail
                go_meet
                case rel => exact ⟨by rw [HE.out], by first | exact dm | exact Drawn.trans (Drawn.of _ _) dm⟩
            · have HE : Hid (decide (x.op = 1 ∧ maskI c.width < x.imm) = false) := decide_eq_false (fun h => hm h.2)
              clear h1
              go_region_held3 (fun w' => w'.cell? ⟨w.heap.size + 1, 0, none⟩ = some (.int .i64 x.op) ∧ w'.cell? ⟨w.heap.size + 1, 5, none⟩ = some (.int .u64 x.imm) ∧ w'.cell? ⟨w.heap.size, 0, none⟩ = some (.int .i64 c.width)) (first | exact ⟨y0, y5, z0⟩ | exact ⟨dm.cell y0, dm.cell y5, dm.cell z0⟩)
                (first
                | (go_at_call 49; refine (CM.out _).mono ?_; rintro e w6 ⟨rfl, dm⟩)
                | fail)
              all_goals
                go_wp2_with fail
                go_meet
                case rel => exact ⟨by rw [HE.out, decide_eq_false (by omega)], by first | exact dm | exact Drawn.trans (Drawn.of _ _) dm⟩
          · have t11 : (x.op == 1) = false := by simpa using h1
            have HE : Hid (decide (x.op = 1 ∧ maskI c.width < x.imm) = false) := decide_eq_false (fun h => h1 h.1)
            clear h1
            go_quiet (fail)
            go_wp2_with fail
            go_meet
            case rel => exact ⟨by rw [HE.out], by first | exact Drawn.refl _ | exact Drawn.of _ _⟩
        case rest =>
          obtain ⟨rfl, d6⟩ := hcut
          have B6 := Lib.hid (B5.out.trans (d6.below _))
          have KC6 := Lib.hid (d6.heap KC5.out)
          have KX6 := Lib.hid (d6.heap KX5.out)
          clear y0 y1 y2 y3 y4 y5 z0 z1 d6
          cases hm : decide (x.op = 1 ∧ maskI c.width < x.imm)
          case true =>
            have HE : Hid (insErr c.width c.regs x = 2) := by
              show _ = _
              unfold insErr
              rw [if_neg (by simp [hk]), if_neg HD.out, if_neg (by rw [HALL.out]; simp), if_pos (of_decide_eq_true hm)]
            clear hm
            go_wp2
            go_ret
            exact ⟨ret_int HE.out.symm, B6.out⟩
          have HE := Lib.hid (insErr_late hk HD.out HALL.out (of_decide_eq_false hm))
          clear hm
          obtain ⟨y0, y1, y2, y3, y4, y5⟩ := in_block KX6.out
          have TI := Lib.hid (hK.below B6.out)
          go_upto_region 15 with fail
          go_cut [10] (fun s wx => ∃ a cc, s = .slice a ([x.a, x.b, x.c].drop (srcN x.op).toNat).length cc ∧ Hid (Rd (Kd.int .i64) (fun b => wc.heap.size ≤ b) wx a cc ([x.a, x.b, x.c].drop (srcN x.op).toNat)) ∧ Hid (x.op = 0 → Own (Kd.int .i64) 3 NoS wx wc.heap.size (.slice a ([x.a, x.b, x.c].drop (srcN x.op).toNat).length cc) [x.a, x.b, x.c]) ∧ Hid (Below wc.heap.size wc wx))
          case first =>
            obtain ⟨sn, hsn, hsn3⟩ : ∃ sn : Nat, srcN x.op = (sn : Int) ∧ sn ≤ 3 := ⟨(srcN x.op).toNat, by have := srcN_known hk; omega, by have := srcN_le x.op; omega⟩
            have HSN := Lib.hid hsn
            clear hsn
            rcases (show sn = 0 ∨ sn = 1 ∨ sn = 2 ∨ sn = 3 by omega) with rfl | rfl | rfl | rfl
            all_goals
             simp only [Int.natCast_zero, Int.natCast_one, Int.cast_ofNat_Int] at HSN
             go_region_held3 (fun w' => w'.cell? ⟨w.heap.size + 1, 0, none⟩ = some (.int .i64 x.op) ∧ w'.cell? ⟨w.heap.size + 1, 1, none⟩ = some (.int .i64 x.dst) ∧ w'.cell? ⟨w.heap.size + 1, 2, none⟩ = some (.int .i64 x.a) ∧ w'.cell? ⟨w.heap.size + 1, 3, none⟩ = some (.int .i64 x.b) ∧ w'.cell? ⟨w.heap.size + 1, 4, none⟩ = some (.int .i64 x.c) ∧ w'.cell? ⟨w.heap.size + 1, 5, none⟩ = some (.int .u64 x.imm))
              (first | exact ⟨y0, y1, y2, y3, y4, y5⟩ | exact in_block (block_alloc KX6.out _) | exact in_block (ds.heap KX6.out) | exact in_block (ds.heap (block_alloc KX6.out _)) | exact in_block (block_alloc (ds.heap KX6.out) _))
              (first
              | (go_at_call 14; refine (isa_Sources x.op _ (by first | exact TI.out | exact TI.out.frame rfl | exact TI.out.frame (Below.heap_alloc wc _ _ TI.out.lt))).mono ?_; rw [HSN.out]; rintro e w6 ⟨rfl, ds⟩)
              | fail)
             all_goals
              go_wp2_with fail
              go_meet
              case rel =>
                first
                | exact rest_off HSN.out (w0 := wc) (heap_alloc_new w6 _) (by have := ds.size; simp at this ⊢; omega) (below_alloc ((Drawn.trans (Drawn.of wc _) ds).below _) _)
                | exact rest_off HSN.out (w0 := wc) (ds.heap (heap_alloc_new _ _)) (by simp) (by first | exact (below_alloc (Below.refl _ wc) _).trans (ds.below _) | exact (below_alloc (below_drewN (Below.refl _ wc) 1) _).trans (ds.below _))
          case rest =>
            obtain ⟨a7, c7, rfl, R7, O7, B7⟩ := hcut
            have B7' := Lib.hid (below_both B6.out B7.out)
            have KX7 := Lib.hid (block_below B7.out KX6.out)
            clear y0 y1 y2 y3 y4 y5
            obtain ⟨y0, y1, y2, y3, y4, y5⟩ := in_block KX7.out
            obtain ⟨w7, hw7⟩ : ∃ w7, w7 = wc := ⟨_, rfl⟩
            subst hw7
            go_upto_if 64 with fail
            go_cut [10] (fun s wx => ∃ a cc, s = .slice a (restI x).length cc ∧ Hid (Rd (Kd.int .i64) (fun b => True) wx a cc (restI x)) ∧ Hid (Below wc.heap.size wc wx))
            case first =>
              by_cases h0 : x.op = 0
              · have t0 : (x.op == 0) = true := by simpa using h0
                have hs0 : srcN x.op = 0 := by rw [h0]; rfl
                have HR0 : Hid (restI x = [x.a, x.b, x.c] ++ [x.dst]) := by show _ = _; unfold restI; rw [hs0, if_pos h0]; rfl
                have O8 := Lib.hid (O7.out h0)
                clear h0 hs0
                go_wp2_with (first
                  | (at_builtin; refine wpList_append_ev _ rfl _ _ 29 rfl _ _ rfl rfl _ (run_app1 w7 infoInt rfl _ O8.out 3 [.int .i64 _] _ rfl (by simp) (by simp) (by have := B7.out.size; omega)) ?_; rintro n2 w2 ⟨ow2, g2, v2, _⟩; have G2 := Lib.hid g2; have O2 := Lib.hid ow2; clear ow2 g2 v2)
                  | fail)
                go_meet
                case rel =>
                  obtain ⟨a9, c9, e9, r9⟩ := O2.out.rd
                  refine ⟨a9, c9, ?_, ?_, B7.out.grown G2.out B7.out.size (fun k hk => (O8.out.lt k hk).1)⟩
                  · rw [HR0.out]; exact e9
                  · show Rd _ _ _ _ _ _
                    rw [HR0.out]; exact r9.mono (fun _ _ _ => trivial)
              · have t0 : (x.op == 0) = false := by simpa using h0
                have HR0 : Hid (restI x = [x.a, x.b, x.c].drop (srcN x.op).toNat) := by show _ = _; unfold restI; rw [if_neg h0, List.append_nil]
                clear h0
                go_wp2_with fail
                go_meet
                case rel => exact ⟨a7, c7, by rw [HR0.out], by show Rd _ _ _ _ _ _; rw [HR0.out]; exact R7.out.mono (fun _ _ _ => trivial), B7.out⟩
            case rest =>
              obtain ⟨a8, c8, rfl, R8, B8⟩ := hcut
              have B9 := Lib.hid (below_both B6.out B8.out)
              have KX8 := Lib.hid (block_below B8.out KX6.out)
              clear y0 y1 y2 y3 y4 y5 B8 B7' KX7 B7 O7 R7
              obtain ⟨y0, y1, y2, y3, y4, y5⟩ := in_block KX8.out
              have CN := Lib.hid (fun (W : World) hR => contains_nz (fun _ => True) a8 c8 (restI x) W hR)
              by_cases h1 : x.op = 1
              · have t1 : (x.op != 1) = false := by simpa using h1
                have HE2 : Hid (insErr c.width c.regs x = if (restI x).all (fun r => r == 0) = false then 19 else 0) := by show _ = _; rw [HE.out]; simp [h1]
                clear h1
                cases hq : (restI x).all (fun r => r == 0)
                all_goals
                  rw [hq] at HE2
                  have C2 : Hid (∀ W, Rd (Kd.int .i64) (fun b => True) W a8 c8 (restI x) → Calls Tryd.prog 50 #[.slice a8 (restI x).length c8, .func (.func 51) #[] #[]] W fun e w' => e = .returned (.bool _) ∧ Drawn W w') := fun W hR => by have := CN.out W hR; rw [hq] at this; exact this
                  clear hq
                  go_wp2_with (go_at_call 50; refine (C2.out _ (R8.out.frame (Same.refl _ _))).mono ?_; rintro e w9 ⟨rfl, d9⟩)
                  go_ret
                  exact ⟨ret_int (by rw [HE2.out]; simp), B9.out.trans (d9.below _)⟩
              · have t1 : (x.op != 1) = true := by simpa using h1
                by_cases hi : x.imm = 0
                · have t2 : (x.imm != 0) = false := by simpa using hi
                  have HE2 : Hid (insErr c.width c.regs x = if (restI x).all (fun r => r == 0) = false then 19 else 0) := by show _ = _; rw [HE.out]; simp [hi]
                  clear h1 hi
                  cases hq : (restI x).all (fun r => r == 0)
                  all_goals
                    rw [hq] at HE2
                    have C2 : Hid (∀ W, Rd (Kd.int .i64) (fun b => True) W a8 c8 (restI x) → Calls Tryd.prog 50 #[.slice a8 (restI x).length c8, .func (.func 51) #[] #[]] W fun e w' => e = .returned (.bool _) ∧ Drawn W w') := fun W hR => by have := CN.out W hR; rw [hq] at this; exact this
                    clear hq
                    go_wp2_with (go_at_call 50; refine (C2.out _ (R8.out.frame (Same.refl _ _))).mono ?_; rintro e w9 ⟨rfl, d9⟩)
                    go_ret
                    exact ⟨ret_int (by rw [HE2.out]; simp), B9.out.trans (d9.below _)⟩
                · have t2 : (x.imm != 0) = true := by simpa using hi
                  have HE2 : Hid (insErr c.width c.regs x = 19) := by show _ = _; rw [HE.out, if_pos (.inl ⟨h1, hi⟩)]
                  clear h1 hi
                  go_wp2_with fail
                  go_ret
                  exact ⟨ret_int HE2.out.symm, B9.out⟩
end Go.Proofs.Sat
