/- The walk of isa.Check. -/
import Derived.Test.YtiepphjpfjfkmaaDoorIsaI
import Derived.Test.YtiepphjpfjfkmaaDoorShelf
set_option linter.unusedVariables false
set_option linter.unusedSimpArgs false
namespace Go.Proofs.Sat
open Go Go.RowKit
theorem cd_block4 {w : World} {g : Nat} {t : TypeId} {v0 v1 v2 v3 : Value} (h : w.heap[g]? = some (.cells #[v0, v1, v2, v3] t (0, 0))) : w.cell? ⟨g, 0, none⟩ = some v0 ∧ w.cell? ⟨g, 1, none⟩ = some v1 ∧ w.cell? ⟨g, 2, none⟩ = some v2 ∧ w.cell? ⟨g, 3, none⟩ = some v3 := by
  refine ⟨?_, ?_, ?_, ?_⟩ <;> simp [World.cell?, h]
theorem ret_two {k j : IntKind} {a b a' b' : Int} (h1 : a = a') (h2 : b = b') : Ending.returned (.tuple #[.int k a, .int j b]) = .returned (.tuple #[.int k a', .int j b']) := by rw [h1, h2]
/-- A program's cells. -/
abbrev cellsC (c : Cd) (ia : Option Addr) (ic : Nat) (oa : Option Addr) (oc : Nat) : Array Value := #[.int .i64 c.width, .int .i64 c.regs, .slice ia c.ins.length ic, .slice oa c.out.length oc]
/-- The index of the first bad instruction. -/
def insIx (width regs : Int) (l : List In) : Nat := l.findIdx (fun x => insErr width regs x != 0)
/-- The index that Check tells. -/
def cdIx (c : Cd) : Int :=
  if ¬ (1 ≤ c.width ∧ c.width ≤ 64) then -1
  else if ¬ (1 ≤ c.regs ∧ c.regs ≤ 8) then -1
  else if 256 < c.ins.length then -1
  else if insErrs c.width c.regs c.ins ≠ 0 then (insIx c.width c.regs c.ins : Nat)
  else if c.out.all (fun r => inR r c.regs) = false then -1
  else if ¬ c.out.Nodup then -1
  else 0
theorem insIx_at {width regs : Int} {l : List In} {k : Nat} (hk : k < l.length) (hb : ∀ j (hj : j < l.length), j < k → insErr width regs l[j] = 0) (h : insErr width regs l[k] ≠ 0) : insIx width regs l = k := by
  unfold insIx
  rw [List.findIdx_eq hk]
  refine ⟨by simpa using h, fun j hj => by simpa using hb j (by omega) hj⟩
theorem nodup_take_succ {l : List Int} {k : Nat} (hk : k < l.length) (h : (l.take k).Nodup) : (l.take (k + 1)).Nodup ↔ (l.take k).contains l[k] = false := by
  rw [List.take_succ_eq_append_getElem hk, List.nodup_append]
  constructor
  · rintro ⟨_, _, h3⟩
    rw [Bool.eq_false_iff]
    intro hc
    exact h3 _ (List.contains_iff_mem.1 hc) _ (by simp) rfl
  · intro hc
    refine ⟨h, by simp, fun a ha b hb e => ?_⟩
    simp at hb
    subst hb
    subst e
    rw [List.contains_iff_mem.2 ha] at hc
    cases hc
set_option maxRecDepth 20000 in
set_option maxHeartbeats 2000000 in
theorem isa_Check (S : Nat → Prop) (c : Cd) (p : CdAt) (w : World) (hK : IsaT w) (h : CdRd S w c p) : Calls Tryd.prog 23 #[cdVal c p] w fun e w' => e = .returned (.tuple #[.int .i64 (cdIx c), .int .i64 (cdErr c)]) ∧ Below w.heap.size w w' := by
  obtain ⟨ia, ic, oa, oc⟩ := p
  have BW := Lib.hid (below_alloc (Below.refl w.heap.size w) (.cells #[.int .i64 c.width, .int .i64 c.regs, .slice ia c.ins.length ic, .slice oa c.out.length oc] 36))
  have KC := Lib.hid (heap_alloc_new w (.cells #[.int .i64 c.width, .int .i64 c.regs, .slice ia c.ins.length ic, .slice oa c.out.length oc] 36))
  have HI : Hid (Rd kIn S w ia ic c.ins) := h.ins
  have HO : Hid (Rd (Kd.int .i64) S w oa oc c.out) := h.out
  have hil := h.ins.le
  have hol := h.out.le
  unfold cdVal
  go_enter Tryd.func23, Tryd.ntmps23
  by_cases hw : 1 ≤ c.width ∧ c.width ≤ 64
  case neg =>
    have HE : Hid (cdErr c = 3 ∧ cdIx c = -1) := by show _ ∧ _; unfold cdErr cdIx; rw [if_pos hw, if_pos hw]; exact ⟨rfl, rfl⟩
    by_cases h1 : c.width < 1
    · go_wp2
      go_ret2
      exact ⟨ret_two HE.out.2.symm HE.out.1.symm, BW.out⟩
    · have h2 : 64 < c.width := by omega
      go_wp2
      go_ret2
      exact ⟨ret_two HE.out.2.symm HE.out.1.symm, BW.out⟩
  by_cases hr : 1 ≤ c.regs ∧ c.regs ≤ 8
  case neg =>
    have HE : Hid (cdErr c = 18 ∧ cdIx c = -1) := by show _ ∧ _; unfold cdErr cdIx; rw [if_neg (not_not_intro hw), if_neg (not_not_intro hw), if_pos hr, if_pos hr]; exact ⟨rfl, rfl⟩
    obtain ⟨hw1, hw2⟩ := hw
    by_cases h1 : c.regs < 1
    · go_wp2
      go_ret2
      exact ⟨ret_two HE.out.2.symm HE.out.1.symm, BW.out⟩
    · have h2 : 8 < c.regs := by omega
      go_wp2
      go_ret2
      exact ⟨ret_two HE.out.2.symm HE.out.1.symm, BW.out⟩
  by_cases hl : 256 < c.ins.length
  · have HE : Hid (cdErr c = 7 ∧ cdIx c = -1) := by show _ ∧ _; unfold cdErr cdIx; rw [if_neg (not_not_intro hw), if_neg (not_not_intro hw), if_neg (not_not_intro hr), if_neg (not_not_intro hr), if_pos hl, if_pos hl]; exact ⟨rfl, rfl⟩
    obtain ⟨hw1, hw2⟩ := hw
    obtain ⟨hr1, hr2⟩ := hr
    go_wp2
    go_ret2
    exact ⟨ret_two HE.out.2.symm HE.out.1.symm, BW.out⟩
  have HE0 : Hid (cdErr c = (if insErrs c.width c.regs c.ins ≠ 0 then insErrs c.width c.regs c.ins else if c.out.all (fun r => inR r c.regs) = false then 18 else if ¬ c.out.Nodup then 9 else 0)
      ∧ cdIx c = (if insErrs c.width c.regs c.ins ≠ 0 then ((insIx c.width c.regs c.ins : Nat) : Int) else if c.out.all (fun r => inR r c.regs) = false then -1 else if ¬ c.out.Nodup then -1 else 0)) := by
    show _ ∧ _
    unfold cdErr cdIx
    rw [if_neg (not_not_intro hw), if_neg (not_not_intro hw), if_neg (not_not_intro hr), if_neg (not_not_intro hr), if_neg hl, if_neg hl]
    exact ⟨rfl, rfl⟩
  obtain ⟨hw1, hw2⟩ := hw
  obtain ⟨hr1, hr2⟩ := hr
  go_wp2
  go_loopw [37] (fun i wr => ∃ k : Nat, k ≤ c.ins.length ∧ i = .int .i64 k ∧ Hid (∀ j (hj : j < c.ins.length), j < k → insErr c.width c.regs c.ins[j] = 0) ∧ Hid (Below w.heap.size w wr) ∧ Hid (wr.heap[w.heap.size]? = some (.cells #[.int .i64 c.width, .int .i64 c.regs, .slice ia c.ins.length ic, .slice oa c.out.length oc] 36 (0, 0)))) (fun i _ => c.ins.length - (intOf i).toNat)
  case atStart => exact ⟨0, by omega, rfl, fun j hj h => by omega, BW.out, KC.out⟩
  case round =>
    obtain ⟨k, hk9, rfl, hv, HB, KC1⟩ := hrel
    obtain ⟨z0, z1, z2, z3⟩ := cd_block4 KC1.out
    by_cases hlt : k < c.ins.length
    · obtain ⟨b, o, rfl, -, -, hat⟩ := in_elem (HI.out.frame (Same.below HB.out)) hlt
      obtain ⟨c0, c1, c2, c3, c4, c5⟩ := hat
      have HB5 := Lib.hid (fun (hq : insErr c.width c.regs c.ins[k] ≠ 0) => show cdErr c = insErr c.width c.regs c.ins[k] ∧ cdIx c = (k : Int) from by
        have h1 := insErrs_at hlt hv.out hq
        have h2 := insIx_at hlt hv.out hq
        rw [HE0.out.1, HE0.out.2, h1, h2, if_pos hq, if_pos hq]
        exact ⟨rfl, rfl⟩)
      have HV5 := Lib.hid (fun (hq : insErr c.width c.regs c.ins[k] = 0) j (hj : j < c.ins.length) (hjk : j < k + 1) => show insErr c.width c.regs c.ins[j] = 0 from by
        rcases Nat.lt_or_ge j k with h' | h'
        · exact hv.out j hj h'
        · obtain rfl : j = k := by omega
          exact hq)
      generalize c.ins[k] = x at *
      have CX := Lib.hid (fun W hW => isa_ins c ⟨some ⟨b, o, none⟩, ic, oa, oc⟩ x W hW hw1 hw2)
      have TI := Lib.hid (hK.below HB.out)
      have BX := Lib.hid (below_alloc HB.out (.cells #[.int .i64 x.op, .int .i64 x.dst, .int .i64 x.a, .int .i64 x.b, .int .i64 x.c, .int .u64 x.imm] 25))
      have KX := Lib.hid (heap_alloc_new wr (.cells #[.int .i64 x.op, .int .i64 x.dst, .int .i64 x.a, .int .i64 x.b, .int .i64 x.c, .int .u64 x.imm] 25))
      have KC2 := Lib.hid (block_alloc KC1.out (.cells #[.int .i64 x.op, .int .i64 x.dst, .int .i64 x.a, .int .i64 x.b, .int .i64 x.c, .int .u64 x.imm] 25))
      obtain ⟨y0, y1, y2, y3⟩ := cd_block4 KC2.out
      go_wp2_with fail
      refine (CX.out _ (hK.below BX.out)).mono ?_
      rintro e w9 ⟨rfl, b9⟩
      have B9 := Lib.hid (below_both BX.out b9)
      have KC9 := Lib.hid (block_below b9 KC2.out)
      clear b9 c0 c1 c2 c3 c4 c5 z0 z1 z2 z3 y0 y1 y2 y3
      by_cases hq : insErr c.width c.regs x = 0
      · have t0 : (insErr c.width c.regs x != 0) = false := by simpa using hq
        have HV6 := Lib.hid (HV5.out hq)
        clear hq
        generalize insErr c.width c.regs x = er at *
        go_wp2_with fail
        go_roundw
        case rel => exact ⟨k + 1, by omega, by go_num, HV6.out, B9.out, KC9.out⟩
        case measure => simp [intOf]; omega
      · have t0 : (insErr c.width c.regs x != 0) = true := by simpa using hq
        have HE := Lib.hid (HB5.out hq)
        clear hq
        go_wp2_with fail
        go_ret2
        exact ⟨ret_two HE.out.2.symm HE.out.1.symm, B9.out⟩
    · have HE1 : Hid (cdErr c = (if c.out.all (fun r => inR r c.regs) = false then 18 else if ¬ c.out.Nodup then 9 else 0) ∧ cdIx c = (if c.out.all (fun r => inR r c.regs) = false then -1 else if ¬ c.out.Nodup then -1 else 0)) := by
        have h0 : insErrs c.width c.regs c.ins = 0 := insErrs_zero.2 fun y hy => by
          obtain ⟨j, hj, rfl⟩ := List.getElem_of_mem hy
          exact hv.out j hj (by omega)
        show _ ∧ _
        rw [HE0.out.1, HE0.out.2, if_neg (not_not_intro h0), if_neg (not_not_intro h0)]
        exact ⟨rfl, rfl⟩
      obtain ⟨w2, hw2'⟩ : ∃ w2, w2 = wr := ⟨_, rfl⟩
      subst hw2'
      go_wp2
      go_loop [53] (fun i => ∃ k : Nat, k ≤ c.out.length ∧ i = .int .i64 k ∧ Hid (∀ j (hj : j < c.out.length), j < k → inR c.out[j] c.regs = true)) (fun i => c.out.length - (intOf i).toNat)
      case atStart => exact ⟨0, by omega, rfl, fun j hj h => by omega⟩
      case round =>
        obtain ⟨m, hm9, rfl, hv2⟩ := hrel
        by_cases hlt2 : m < c.out.length
        · obtain ⟨b, o, rfl, -, -, hc⟩ := (HO.out.frame (Same.below HB.out)).vals (by omega) 0
          have d5 := hc m hlt2
          rw [getD_at _ hlt2] at d5
          clear hc
          have HB5 := Lib.hid (fun (hq : inR c.out[m] c.regs = false) => show cdErr c = 18 ∧ cdIx c = -1 from by
            have h1 : c.out.all (fun r => inR r c.regs) = false := List.all_eq_false.2 ⟨_, List.getElem_mem hlt2, by simp [hq]⟩
            rw [HE1.out.1, HE1.out.2, if_pos h1, if_pos h1]
            exact ⟨rfl, rfl⟩)
          have HV5 := Lib.hid (fun (hq : inR c.out[m] c.regs = true) j (hj : j < c.out.length) (hjk : j < m + 1) => show inR c.out[j] c.regs = true from by
            rcases Nat.lt_or_ge j m with h' | h'
            · exact hv2.out j hj h'
            · obtain rfl : j = m := by omega
              exact hq)
          generalize c.out[m] = r at *
          by_cases h0 : r < 0
          · have HE := Lib.hid (HB5.out (decide_eq_false (by omega)))
            go_wp2_with fail
            go_ret2
            exact ⟨ret_two HE.out.2.symm HE.out.1.symm, HB.out⟩
          · by_cases h1 : c.regs ≤ r
            · have HE := Lib.hid (HB5.out (decide_eq_false (by omega)))
              go_wp2_with fail
              go_ret2
              exact ⟨ret_two HE.out.2.symm HE.out.1.symm, HB.out⟩
            · have HV6 := Lib.hid (HV5.out (decide_eq_true (by omega)))
              go_wp2_with fail
              go_round
              case rel => exact ⟨m + 1, by omega, by go_num, HV6.out⟩
              case measure => simp [intOf]; omega
        · have HE2 : Hid (cdErr c = (if ¬ c.out.Nodup then 9 else 0) ∧ cdIx c = (if ¬ c.out.Nodup then -1 else 0)) := by
            have h1 : ¬ c.out.all (fun r => inR r c.regs) = false := by
              rw [Bool.not_eq_false, List.all_eq_true]
              intro y hy
              obtain ⟨j, hj, rfl⟩ := List.getElem_of_mem hy
              exact hv2.out j hj (by omega)
            show _ ∧ _
            rw [HE1.out.1, HE1.out.2, if_neg h1, if_neg h1]
            exact ⟨rfl, rfl⟩
          go_wp2
          go_loop [69] (fun i => ∃ k : Nat, k ≤ c.out.length ∧ i = .int .i64 k ∧ Hid ((c.out.take k).Nodup)) (fun i => c.out.length - (intOf i).toNat)
          case atStart => exact ⟨0, by omega, rfl, by simp [Hid]⟩
          case round =>
            obtain ⟨n, hn9, rfl, hv3⟩ := hrel
            by_cases hlt3 : n < c.out.length
            · obtain ⟨b, o, rfl, -, -, hc⟩ := (HO.out.frame (Same.below HB.out)).vals (by omega) 0
              have d5 := hc n hlt3
              rw [getD_at _ hlt3] at d5
              have CC := Lib.hid (Tryd.slices_Contains_int b o n oc c.out c.out[n] w2 (by omega) (by omega) hc)
              have HN := Lib.hid (nodup_take_succ hlt3 hv3.out)
              have hcap : (n : Int) ≤ (oc : Int) := by have := HO.out.1; omega
              have hn0 : (0 : Int) ≤ (n : Int) := by omega
              clear hc
              generalize c.out[n] = r at *
              go_wp2_with fail
              refine CC.out.mono ?_
              rintro e w9 ⟨rfl, rfl⟩
              cases hq : (c.out.take n).contains r
              · have HV := Lib.hid (HN.out.2 hq)
                go_wp2_with fail
                go_round
                case rel => exact ⟨n + 1, by omega, by go_num, HV.out⟩
                case measure => simp [intOf]; omega
              · have HE : Hid (cdErr c = 9 ∧ cdIx c = -1) := by
                  have h1 : ¬ c.out.Nodup := fun hh => by
                    have := HN.out.1 (hh.sublist (List.take_sublist _ _))
                    rw [hq] at this; cases this
                  show _ ∧ _
                  rw [HE2.out.1, HE2.out.2, if_pos h1, if_pos h1]
                  exact ⟨rfl, rfl⟩
                go_wp2_with fail
                go_ret2
                exact ⟨ret_two HE.out.2.symm HE.out.1.symm, HB.out⟩
            · have HE : Hid (cdErr c = 0 ∧ cdIx c = 0) := by
                have h1 : c.out.Nodup := by have := hv3.out; rwa [List.take_of_length_le (by omega)] at this
                show _ ∧ _
                rw [HE2.out.1, HE2.out.2, if_neg (not_not_intro h1), if_neg (not_not_intro h1)]
                exact ⟨rfl, rfl⟩
              go_wp2_with fail
              go_ret2
              exact ⟨ret_two HE.out.2.symm HE.out.1.symm, HB.out⟩
end Go.Proofs.Sat
