/- The walk of the law LiveInputs. -/
import Derived.Test.YthffbnfbjjnabaaDoorLvZ
import Derived.Test.YthffbnfbjjnabaaDoorLiA
import Derived.Test.YthffbnfbjjnabaaDoorRaF
import Derived.Test.YthffbnfbjjnabaaDoorOpenIm
import Derived.BigQuiet
set_option linter.unusedVariables false
set_option linter.unusedSimpArgs false
namespace Go.Proofs.Sat
open Go Go.RowKit
/-- The contract of Run at a program that is valid. -/
theorem ref50_Run' (S : Nat → Prop) (c : Cd) (p : CdAt) (m : Nat → Nat) (w : World) (h : CdRd S w c p) (hok : CdOK c) (hm : ∀ j, j < 8 → m j < 18446744073709551616) (himm : ∀ x ∈ c.ins, 0 ≤ x.imm ∧ x.imm < 18446744073709551616) :
    Calls Tryd.prog 19 #[cdVal c p, .agg (cells8 m)] w fun e w' => e = .returned (.tuple #[.agg (cells8 (runN c.width.toNat c.ins (cutS c.width.toNat m 8)).1), .bool (runN c.width.toNat c.ins (cutS c.width.toNat m 8)).2]) ∧ Below w.heap.size w w' := by
  have h1 := hok.w1
  have h2 := hok.w2
  exact ref50_Run S c p c.width.toNat m w h (by omega) (by omega) (by omega) ⟨hok.r1, hok.r2⟩ hok.len hok.ins hm himm
theorem mixS_nil (a b : Nat → Nat) : mixS [] a b = b := by funext j; unfold mixS; rw [if_neg (by simp)]
theorem mixS_lt {l : List Int} {a b : Nat → Nat} (ha : ∀ j, j < 8 → a j < 18446744073709551616) (hb : ∀ j, j < 8 → b j < 18446744073709551616) : ∀ j, j < 8 → mixS l a b j < 18446744073709551616 := by
  intro j hj
  unfold mixS
  split
  · exact ha j hj
  · exact hb j hj
set_option maxRecDepth 20000 in
set_option maxHeartbeats 4000000 in
theorem law_Inputs (c : Cd) (p : CdAt) (a b : Nat → Nat) (w : World) (hK : IsaT w) (h : CdRd (fun _ => True) w c p) (ha : ∀ j, j < 8 → a j < 18446744073709551616) (hb : ∀ j, j < 8 → b j < 18446744073709551616) (himm : ∀ x ∈ c.ins, 0 ≤ x.imm ∧ x.imm < 18446744073709551616) :
    Calls Tryd.prog 4 #[cdVal c p, .agg (cells8 a), .agg (cells8 b)] w fun e w' => e = .returned (.bool true) ∧ Below w.heap.size w w' := by
  obtain ⟨ia, ic, oa, oc⟩ := p
  have BW := Lib.hid (below_alloc (below_alloc (below_alloc (Below.refl w.heap.size w) (.cells (cellsC c ia ic oa oc) 25)) (.cells (cells8 a) 34)) (.cells (cells8 b) 34))
  have KC := Lib.hid (block_alloc (block_alloc (heap_alloc_new w (.cells (cellsC c ia ic oa oc) 25)) (.cells (cells8 a) 34)) (.cells (cells8 b) 34))
  have KA := Lib.hid (block_alloc (block_at1 w (.cells (cellsC c ia ic oa oc) 25) (.cells (cells8 a) 34)) (.cells (cells8 b) 34))
  have KB : Hid ((((w.alloc (.cells (cellsC c ia ic oa oc) 25)).alloc (.cells (cells8 a) 34)).alloc (.cells (cells8 b) 34)).heap[w.heap.size + 1 + 1]? = some (.cells (cells8 b) 34 (0, 0))) := block_at2 w _ _ _
  have HC := Lib.hid h
  have HA := Lib.hid ha
  have HB8 := Lib.hid hb
  have HIM := Lib.hid himm
  have hil := h.ins.le
  have hol := h.out.le
  clear ha hb himm
  unfold cdVal
  go_enter Tryd.func4, Tryd.ntmps4
  obtain ⟨z0, z1, z2, z3⟩ := cd_block4 KC.out
  go_upto_region 1 with fail
  go_cut [21] (fun s wx => ∃ g : Bool, s = .bool g ∧ Hid (g = false → c.ins.length ≤ 300 ∧ c.out.length ≤ 20 ∧ cdErr c = 0) ∧ Hid (wx.heap[w.heap.size]? = some (.cells (cellsC c ia ic oa oc) 25 (0, 0))) ∧ Hid (wx.heap[w.heap.size + 1]? = some (.cells (cells8 a) 34 (0, 0))) ∧ Hid (wx.heap[w.heap.size + 1 + 1]? = some (.cells (cells8 b) 34 (0, 0))) ∧ Hid (Below w.heap.size w wx))
  case first =>
    have CL := Lib.hid (fun W (b : Below w.heap.size w W) => law50_light _ c ⟨ia, ic, oa, oc⟩ W (HC.out.frame (Same.below b)))
    have CK := Lib.hid (fun W (b : Below w.heap.size w W) => ref50_Check _ c ⟨ia, ic, oa, oc⟩ W (HC.out.frame (Same.below b)))
    generalize hbc : decide (c.ins.length ≤ 300 ∧ c.out.length ≤ 20) = bc at *
    have HBC := Lib.hid hbc
    clear hbc h
    generalize hce : cdErr c = ce at *
    have HCE := Lib.hid hce
    clear hce
    go_wp2_with fail
    refine (CL.out _ BW.out).mono ?_
    rintro e w2 ⟨rfl, b2⟩
    have B2 := Lib.hid (below_both BW.out b2)
    have KC2 := Lib.hid (block_below b2 KC.out)
    have KA2 := Lib.hid (block_below b2 KA.out)
    have KB2 := Lib.hid (block_below b2 KB.out)
    clear b2 z0 z1 z2 z3
    obtain ⟨z0, z1, z2, z3⟩ := cd_block4 KC2.out
    cases bc
    · go_wp2_with fail
      go_meet
      case rel => exact ⟨true, rfl, (fun e => by cases e), KC2.out, KA2.out, KB2.out, B2.out⟩
    · have HL := Lib.hid (of_decide_eq_true HBC.out)
      go_wp2_with fail
      refine (CK.out w2 B2.out).mono ?_
      rintro e w3 ⟨rfl, b3⟩
      have B3 := Lib.hid (below_both B2.out b3)
      have KC3 := Lib.hid (block_below b3 KC2.out)
      have KA3 := Lib.hid (block_below b3 KA2.out)
      have KB3 := Lib.hid (block_below b3 KB2.out)
      clear b3
      go_wp2_with fail
      go_meet
      case rel => exact ⟨_, rfl, (fun hg => ⟨HL.out.1, HL.out.2, by simpa using hg⟩), KC3.out, KA3.out, KB3.out, B3.out⟩
  case rest =>
    obtain ⟨g, rfl, HG, KC2, KA2, KB2, B2⟩ := hcut
    clear z0 z1 z2 z3 BW KC KA KB
    cases g
    case true =>
      go_wp2_with fail
      refine (law50_lives wc (hK.below B2.out)).mono ?_
      rintro e w3 ⟨rfl, b3⟩
      have B3 := Lib.hid (below_both B2.out b3)
      clear b3
      go_wp2_with fail
      go_ret
      exact ⟨rfl, B3.out⟩
    obtain ⟨hl1, hl2, hce⟩ := HG.out rfl
    have HOK := Lib.hid (cd_ok hce)
    clear hce HG h
    have CI := Lib.hid (fun W (b : Below w.heap.size w W) => live_Inputs _ c ⟨ia, ic, oa, oc⟩ W (hK.below b) (HC.out.frame (Same.below b)))
    have HRN : Hid (∀ r ∈ inpL c, 0 ≤ r ∧ r < c.regs) := fun r hr => inpL_mem HOK.out hr
    have HEQ : Hid ((runN c.width.toNat c.ins (cutS c.width.toNat a 8)).2 = true → ∀ r ∈ c.out, (runN c.width.toNat c.ins (cutS c.width.toNat a 8)).1 r.toNat = (runN c.width.toNat c.ins (cutS c.width.toNat (mixS (inpL c) a b) 8)).1 r.toNat) := fun hr => inputs_run HOK.out _ a b hr
    have hL8 := inpL_length c
    generalize inpL c = L at *
    obtain ⟨z0, z1, z2, z3⟩ := cd_block4 KC2.out
    go_wp2_with fail
    refine (CI.out wc B2.out).mono ?_
    rintro e w3 ⟨v3, rfl, o3, b3⟩
    obtain ⟨a3, c3, rfl⟩ := o3.form
    have O3 := Lib.hid o3
    have B3 := Lib.hid (below_both B2.out b3)
    have KC3 := Lib.hid (block_below b3 KC2.out)
    have KA3 := Lib.hid (block_below b3 KA2.out)
    have KB3 := Lib.hid (block_below b3 KB2.out)
    have HW3 : Hid (w.heap.size + 1 + 1 < wc.heap.size) := (Array.getElem?_eq_some_iff.1 KB2.out).1
    clear o3 b3 z0 z1 z2 z3 CI
    go_wp2_with fail
    go_loopw [27] (fun i wr => ∃ k : Nat, k ≤ L.length ∧ i = .int .i64 k ∧ Hid (Own (Kd.int .i64) 3 NoS wr wc.heap.size (.slice a3 L.length c3) L) ∧ Hid (wr.heap[w.heap.size]? = some (.cells (cellsC c ia ic oa oc) 25 (0, 0))) ∧ Hid (wr.heap[w.heap.size + 1]? = some (.cells (cells8 a) 34 (0, 0))) ∧ Hid (wr.heap[w.heap.size + 1 + 1]? = some (.cells (cells8 (mixS (L.take k) a b)) 34 (0, 0))) ∧ Hid (Below w.heap.size w wr)) (fun i _ => L.length - (intOf i).toNat)
    case atStart => exact ⟨0, by omega, rfl, O3.out, KC3.out, KA3.out, by show _ = _; rw [List.take_zero, mixS_nil]; exact KB3.out, B3.out⟩
    case round =>
      obtain ⟨k, hk, rfl, O4, KC4, KA4, KB4, B4⟩ := hrel
      by_cases hlt : k < L.length
      · obtain ⟨lb, lo, rfl, -, hlw, hc⟩ := (Own.rd' O4.out).vals (by omega) 0
        have d5 := hc k hlt
        rw [getD_at _ hlt] at d5
        have hr := HRN.out _ (List.getElem_mem hlt)
        have HT := Lib.hid (mixS_succ hlt hr.1 a b)
        clear hc
        generalize L[k] = r at *
        obtain ⟨hr0, hr1⟩ := hr
        obtain ⟨m, rfl⟩ := Int.eq_ofNat_of_zero_le hr0
        rw [Int.toNat_natCast] at HT
        have hr2 := HOK.out.r2
        have hm8 : m < 8 := by omega
        have hm8' : (m : Int) < 8 := by omega
        have hkl : (k : Int) < (L.length : Int) := by omega
        have tq : decide (c.regs ≤ (m : Int)) = false := decide_eq_false (by omega)
        obtain ⟨z0, z1, z2, z3⟩ := cd_block4 KC4.out
        obtain ⟨na, fa, -⟩ := num_at KA4.out hm8
        obtain ⟨nb, fb, -⟩ := num_at KB4.out hm8
        generalize a m = va at *
        clear hr1 hr2
        go_upto_region 7 with fail
        go_quiet (fail)
        have DD : Drawn wr (wr.drewN nq) := ⟨nq, rfl⟩
        have d5' := DD.cell d5
        have na' := DD.cell na
        have nb' := DD.cell nb
        have fb' := DD.frozen fb
        have O5 := Lib.hid (O4.out.drawn DD)
        have KC5 := Lib.hid (DD.heap KC4.out)
        have KA5 := Lib.hid (DD.heap KA4.out)
        have KB5 := Lib.hid (DD.heap KB4.out)
        have B5 := Lib.hid (below_both B4.out (DD.below _))
        clear d5 na nb fa fb DD z0 z1 z2 z3
        go_upto_region 9 with fail
        generalize wr.drewN nq = w5 at *
        have US := Lib.hid (num_at KB5.out hm8).2.2
        have UA : Hid (∀ v, (w5.setCell ⟨w.heap.size + 1 + 1, m, none⟩ v).heap[w.heap.size + 1]? = some (.cells (cells8 a) 34 (0, 0))) := fun v => block_far KA5.out _ (by show w.heap.size + 1 ≠ w.heap.size + 1 + 1; omega)
        have UC : Hid (∀ v, (w5.setCell ⟨w.heap.size + 1 + 1, m, none⟩ v).heap[w.heap.size]? = some (.cells (cellsC c ia ic oa oc) 25 (0, 0))) := fun v => block_far KC5.out _ (by show w.heap.size ≠ w.heap.size + 1 + 1; omega)
        have UB : Hid (∀ v, Below w.heap.size w (w5.setCell ⟨w.heap.size + 1 + 1, m, none⟩ v)) := fun v => B5.out.setCell (by show w.heap.size ≤ w.heap.size + 1 + 1; omega) _
        have UO : Hid (∀ v, Own (Kd.int .i64) 3 NoS (w5.setCell ⟨w.heap.size + 1 + 1, m, none⟩ v) wc.heap.size (.slice (some ⟨lb, lo, none⟩) L.length c3) L) := fun v => O5.out.same (Same.setCell w5 _ (fun b hb => by rcases hb with hb | hb; (· exact hb.elim); (· have := (O5.out.lt b hb.symm).1; have := HW3.out; show b ≠ w.heap.size + 1 + 1; omega)))
        go_still_tail 11, (by kernel_rfl)
        change wpList _ _ _ _ _ w5.drew
        go_wp2_with fail
        go_roundw
        case rel => exact ⟨k + 1, by omega, by go_num, (UO.out (.int .u64 (va : Int))).drewN 1, UC.out (.int .u64 (va : Int)), UA.out (.int .u64 (va : Int)), by rw [HT.out]; exact US.out va, below_drewN (UB.out (.int .u64 (va : Int))) 1⟩
        case measure => simp [intOf]; omega
      · have hkk : k = L.length := by omega
        have hnl : ¬ ((k : Int) < (L.length : Int)) := by omega
        have KBe := KB4.out
        rw [hkk, List.take_length] at KBe
        have KB5 := Lib.hid KBe
        clear KB4 KBe hkk hlt hk
        obtain ⟨w5, hw5⟩ : ∃ w5, w5 = wr := ⟨_, rfl⟩
        subst hw5
        have CA := Lib.hid (fun W (b : Below w.heap.size w W) => ref50_Run' _ c ⟨ia, ic, oa, oc⟩ a W (HC.out.frame (Same.below b)) HOK.out HA.out HIM.out)
        have CB := Lib.hid (fun W (bw : Below w.heap.size w W) => ref50_Run' _ c ⟨ia, ic, oa, oc⟩ (mixS L a b) W (HC.out.frame (Same.below bw)) HOK.out (mixS_lt HA.out HB8.out) HIM.out)
        generalize mixS L a b = b2 at *
        generalize runN c.width.toNat c.ins (cutS c.width.toNat a 8) = X1 at *
        generalize runN c.width.toNat c.ins (cutS c.width.toNat b2 8) = X2 at *
        obtain ⟨s1, k1⟩ := X1
        obtain ⟨s2, k2⟩ := X2
        obtain ⟨z0, z1, z2, z3⟩ := cd_block4 KC4.out
        obtain ⟨n0, n1, n2, n3, n4, n5, n6, n7⟩ := num_cells KA4.out
        have KC5 := KC4
        go_wp2_with fail
        refine (CA.out w5 B4.out).mono ?_
        rintro e w6 ⟨rfl, b6⟩
        have B6 := Lib.hid (below_alloc (below_both B4.out b6) (.cells (cells8 s1) 34))
        have KC6 := Lib.hid (block_alloc (block_below b6 KC4.out) (.cells (cells8 s1) 34))
        have KB6 := Lib.hid (block_alloc (block_below b6 KB5.out) (.cells (cells8 s1) 34))
        have KX6 := Lib.hid (heap_alloc_new w6 (.cells (cells8 s1) 34))
        clear b6 z0 z1 z2 z3 n0 n1 n2 n3 n4 n5 n6 n7 CA
        obtain ⟨z0, z1, z2, z3⟩ := cd_block4 KC6.out
        obtain ⟨n0, n1, n2, n3, n4, n5, n6, n7⟩ := num_cells KB6.out
        go_wp2_with fail
        refine (CB.out _ B6.out).mono ?_
        rintro e w7 ⟨rfl, b7⟩
        have B7 := Lib.hid (below_alloc (below_both B6.out b7) (.cells (cells8 s2) 34))
        have KC7 := Lib.hid (block_alloc (block_below b7 KC6.out) (.cells (cells8 s2) 34))
        have KX7 := Lib.hid (block_alloc (block_below b7 KX6.out) (.cells (cells8 s2) 34))
        have KY7 := Lib.hid (heap_alloc_new w7 (.cells (cells8 s2) 34))
        clear b7 z0 z1 z2 z3 n0 n1 n2 n3 n4 n5 n6 n7 CB
        have CL := Lib.hid (fun W (b : Below w.heap.size w W) => law50_lives W (hK.below b))
        cases k1
        case' false => skip
        case' true => cases k2
        case false =>
          go_wp2_with fail
          refine (CL.out _ B7.out).mono ?_
          rintro e w8 ⟨rfl, b8⟩
          have B8 := Lib.hid (below_both B7.out b8)
          clear b8
          go_wp2_with fail
          go_ret
          exact ⟨rfl, B8.out⟩
        case true.false =>
          go_wp2_with fail
          refine (CL.out _ B7.out).mono ?_
          rintro e w8 ⟨rfl, b8⟩
          have B8 := Lib.hid (below_both B7.out b8)
          clear b8
          go_wp2_with fail
          go_ret
          exact ⟨rfl, B8.out⟩
        case true.true =>
          have HE2 : Hid (∀ r ∈ c.out, s1 r.toNat = s2 r.toNat) := HEQ.out rfl
          obtain ⟨z0, z1, z2, z3⟩ := cd_block4 KC7.out
          go_wp2_with fail
          go_loopw [78] (fun i wr => ∃ k : Nat, k ≤ c.out.length ∧ i = .int .i64 k ∧ Hid (wr.heap[w.heap.size]? = some (.cells (cellsC c ia ic oa oc) 25 (0, 0))) ∧ Hid (wr.heap[w6.heap.size]? = some (.cells (cells8 s1) 34 (0, 0))) ∧ Hid (wr.heap[w7.heap.size]? = some (.cells (cells8 s2) 34 (0, 0))) ∧ Hid (Below w.heap.size w wr)) (fun i _ => c.out.length - (intOf i).toNat)
          case atStart => exact ⟨0, by omega, rfl, KC7.out, KX7.out, KY7.out, B7.out⟩
          case round =>
            clear z0 z1 z2 z3
            obtain ⟨k, hk, rfl, KC8, KX8, KY8, B8⟩ := hrel
            by_cases hlt : k < c.out.length
            · obtain ⟨ob, oo, rfl, -, -, hc⟩ := (HC.out.out.frame (Same.below B8.out)).vals (by omega) 0
              have d5 := hc k hlt
              rw [getD_at _ hlt] at d5
              have hr := HOK.out.out _ (List.getElem_mem hlt)
              have he := HE2.out _ (List.getElem_mem hlt)
              clear hc
              generalize c.out[k] = r at *
              obtain ⟨hr0, hr1⟩ := hr
              obtain ⟨m, rfl⟩ := Int.eq_ofNat_of_zero_le hr0
              rw [Int.toNat_natCast] at he
              have hr2 := HOK.out.r2
              have hm8 : m < 8 := by omega
              have hm8' : (m : Int) < 8 := by omega
              have hkl : (k : Int) < (c.out.length : Int) := by omega
              clear hr1 hr2
              obtain ⟨z0, z1, z2, z3⟩ := cd_block4 KC8.out
              have na := (num_at KX8.out hm8).1
              have nb := (num_at KY8.out hm8).1
              rw [← he] at nb
              clear he
              generalize s1 m = v at *
              have tn : ((v : Int) != (v : Int)) = false := by simp
              go_upto_region 18 with fail
              go_quiet (fail)
              have DD : Drawn wr (wr.drewN nq) := ⟨nq, rfl⟩
              go_wp2_with fail
              go_roundw
              case rel => exact ⟨k + 1, by omega, by go_num, DD.heap KC8.out, DD.heap KX8.out, DD.heap KY8.out, below_both B8.out (DD.below _)⟩
              case measure => simp [intOf]; omega
            · have hnl : ¬ ((k : Int) < (c.out.length : Int)) := by omega
              go_wp2_with fail
              refine (CL.out _ B8.out).mono ?_
              rintro e w9 ⟨rfl, b9⟩
              have B9 := Lib.hid (below_both B8.out b9)
              clear b9
              go_wp2_with fail
              go_ret
              exact ⟨rfl, B9.out⟩
theorem nums_eq (m : Nat → Int) (h : ∀ i, i < 8 → (Lit.int .u64 (m i)).wf = true) : #[Value.int .u64 (m 0), .int .u64 (m 1), .int .u64 (m 2), .int .u64 (m 3), .int .u64 (m 4), .int .u64 (m 5), .int .u64 (m 6), .int .u64 (m 7)] = cells8 (fun j => (m j).toNat) := by
  have e : ∀ i, i < 8 → (((m i).toNat : Nat) : Int) = m i := fun i hi => Int.toNat_of_nonneg (u64_wf (h i hi)).1
  show _ = #[_, _, _, _, _, _, _, _]
  rw [e 0 (by omega), e 1 (by omega), e 2 (by omega), e 3 (by omega), e 4 (by omega), e 5 (by omega), e 6 (by omega), e 7 (by omega)]
theorem nums_lt (m : Nat → Int) (h : ∀ i, i < 8 → (Lit.int .u64 (m i)).wf = true) : ∀ j, j < 8 → (m j).toNat < 18446744073709551616 := fun j hj => by
  have := u64_wf (h j hj)
  omega
theorem law_Inputs' (c : Cd) (p : CdAt) (a b : Nat → Int) (w : World) (hK : IsaT w) (h : CdRd (fun _ => True) w c p) (ha : ∀ i, i < 8 → (Lit.int .u64 (a i)).wf = true) (hb : ∀ i, i < 8 → (Lit.int .u64 (b i)).wf = true) (himm : ∀ x ∈ c.ins, 0 ≤ x.imm ∧ x.imm < 18446744073709551616) :
    Calls Tryd.prog 4 #[cdVal c p, .agg #[.int .u64 (a 0), .int .u64 (a 1), .int .u64 (a 2), .int .u64 (a 3), .int .u64 (a 4), .int .u64 (a 5), .int .u64 (a 6), .int .u64 (a 7)], .agg #[.int .u64 (b 0), .int .u64 (b 1), .int .u64 (b 2), .int .u64 (b 3), .int .u64 (b 4), .int .u64 (b 5), .int .u64 (b 6), .int .u64 (b 7)]] w fun e w' => e = .returned (.bool true) ∧ Below w.heap.size w w' := by
  rw [nums_eq a ha, nums_eq b hb]
  exact law_Inputs c p _ _ w hK h (nums_lt a ha) (nums_lt b hb) himm
end Go.Proofs.Sat
