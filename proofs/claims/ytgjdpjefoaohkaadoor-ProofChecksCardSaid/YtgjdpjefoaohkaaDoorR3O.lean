/- The walk of the reference's Of (a set out of a list). -/
import Derived.Test.YtgjdpjefoaohkaaDoorPrN0
import Derived.Test.YtgjdpjefoaohkaaDoorIdsL
import Derived.Test.YtgjdpjefoaohkaaDoorR3
set_option linter.unusedVariables false
set_option linter.unusedSimpArgs false
namespace Go.Proofs.Sat
open Go Go.RowKit
set_option maxHeartbeats 800000 in
theorem ref03_Of (S : Nat → Prop) (a : Option Addr) (c : Nat) (l : List Int) (w : World) (h : Rd (Kd.int .i64) S w a c l) (hsz : l.length ≤ 1099511627776) :
    Calls Tryd.prog 42 #[.slice a l.length c] w fun e w' => ∃ v, e = .returned v ∧ Own (Kd.int .i64) 3 NoS w' w.heap.size v (ofL l) ∧ Below w.heap.size w w' := by
  have hl := h.le
  have h := h.lt
  go_enter Tryd.func42, Tryd.ntmps42
  go_wp2
  go_loopw [3, 4] (fun v i wr => ∃ k : Nat, k ≤ l.length ∧ i = .int .i64 k ∧ Hid (Own (Kd.int .i64) 3 NoS wr w.heap.size v (ofL (l.take k))) ∧ Hid (Below w.heap.size w wr)) (fun _ i _ => l.length - (intOf i).toNat)
  case atStart => exact ⟨0, by omega, rfl, Own.nil _ _ _ _ _, Below.refl _ _⟩
  case round =>
    obtain ⟨k, hk, rfl, HO, HB⟩ := hrel
    obtain ⟨A, C, rfl, hr⟩ := HO.out.rd
    have hr := Lib.hid hr.lt
    have hss := Lib.hid (ss_ofL (l.take k))
    have hln : (ofL (l.take k)).length ≤ 1099511627776 := by have := length_ofL (l.take k); simp at this; omega
    by_cases hlt : k < l.length
    · have HN : Hid (ofL (l.take (k + 1)) = ins (ofL (l.take k)) l[k]) := by show _ = _; rw [take_succ_at0 l hlt, ofL_snoc]
      have R0 := Lib.hid (h.frame (w' := wr) ⟨HB.out.size, fun b hb _ => HB.out.block b hb⟩)
      obtain ⟨b, o, rfl, _, _, hc⟩ := R0.out.vals (by omega) 0
      have d := hc k hlt
      clear hc h
      generalize ofL (l.take k) = s at *
      generalize hx : l[k] = x at *
      have d' : wr.cell? ⟨b, o + k, none⟩ = some (.int .i64 x) := by rw [d, getD_at0 l hlt, hx]
      have HX := Lib.hid hx
      clear hx d
      have hcle : (s.countP fun y => decide (y < x)) ≤ s.length := List.countP_le_length
      have HI := Lib.hid (ins_take hss.out x)
      generalize hm : (s.countP fun y => decide (y < x)) = m at *
      have HM := Lib.hid hm
      clear hm
      have hca := hr.out.1
      by_cases hmem : s[m]? = some x
      · have hmlt : m < s.length := (List.getElem?_eq_some_iff.1 hmem).1
        obtain ⟨b2, o2, rfl, _, _, hc2⟩ := hr.out.vals (by omega) 0
        have e := hc2 m hmlt
        have e' : wr.cell? ⟨b2, o2 + m, none⟩ = some (.int .i64 x) := by rw [e]; simp [hmem]
        have q1 : decide (m < s.length) = true := decide_eq_true hmlt
        have q2 : (x == x) = true := by simp
        rw [if_pos hmem] at HI
        clear hc2 e hmem
        go_wp2_with (first
          | (go_at_call 53; refine (ref03_Index _ _ _ s x _ hr.out).mono ?_; rw [HM.out]; rintro e w1 ⟨rfl, nd, rfl⟩)
          | fail)
        go_quiet (fail)
        go_wp2
        go_roundw
        case rel => exact ⟨k + 1, by omega, by go_num, by show Own _ _ _ _ _ _ _; rw [HN.out, HI.out]; exact HO.out.drewN _, below_drewN HB.out _⟩
        case measure => simp [intOf]; omega
      · rw [if_neg hmem] at HI
        have hmx : ∀ hm : m < s.length, s[m] ≠ x := fun hm e => hmem (by rw [List.getElem?_eq_getElem hm, e])
        have hmxH := Lib.hid hmx
        clear hmem hmx
        have hrt := Lib.hid (hr.out.take m hcle)
        obtain ⟨A2, hcut, hdrop0⟩ := cut_from (P := Tryd.prog) (Kd.int .i64) infoInt rfl A s.length C m hcle
        have hcut' := Lib.hid hcut
        have hdrop := Lib.hid (hdrop0 _ _ s rfl hr.out)
        clear hdrop0
        clear hcut
        have hlt1 : (s.take m).length = m := by simp; omega
        have hlt2 : (s.drop m).length = s.length - m := by simp
        have HL1 := Lib.hid hlt1
        have HL2 := Lib.hid hlt2
        clear hlt1 hlt2
        have hC : C ≤ 9223372036854775807 := hr.out.2.1
        rcases Nat.lt_or_ge m s.length with hml | hml
        · obtain ⟨b2, o2, rfl, _, _, hc2⟩ := hr.out.vals (by omega) 0
          have e := hc2 m hml
          have q1 : decide (m < s.length) = true := decide_eq_true hml
          have q2 : (s[m] == x) = false := beq_eq_false_iff_ne.2 (hmxH.out hml)
          clear hc2
          go_wp2_with (first
            | (go_at_call 53; refine (ref03_Index _ _ _ s x _ hr.out).mono ?_; rw [HM.out]; rintro e w1 ⟨rfl, nd, rfl⟩)
            | fail)
          go_quiet (fail)
          clear e q1 q2
          have hcut := hcut'.out
          go_wp2_with (first
            | ((with_reducible refine gate_b (.tmp 34) (.tmp 37) rfl ?_); refine wpList_append_ev _ rfl (.tmp 34) (.tmp 37) 28 rfl _ _ rfl rfl _ (run_app_rd _ infoInt rfl _ (Own.nil (Kd.int .i64) 3 NoS _ wr.heap.size) _ C m (s.take m) HL1.out (by exact hrt.out.frame (Same.drewN _ _ _)) val_any (by simp; omega) (by simp; omega) (by simp)) ?_; rintro n1 w2 ⟨ow1, g1, v1⟩; have d2 : w2.cell? ⟨b, o + k, none⟩ = some (.int .i64 x) := g1.cell d' (by simp [Value.ownBlock]); have R0 := Lib.hid ((R0.out.frame (Same.drewN _ _ _)).frame (Same.grown g1 (fun b hb => by simp [Value.ownBlock]))); have hdrop := Lib.hid ((hdrop.out.frame (Same.drewN _ _ _)).frame (Same.grown g1 (fun b hb => by simp [Value.ownBlock]))); have B2 := Lib.hid ((below_drewN HB.out (nd + nq)).grown g1 HB.out.size (fun k hk => by simp [Value.ownBlock] at hk)); have hz2 : wr.heap.size ≤ w2.heap.size := by simpa using g1.size)
            | ((with_reducible refine gate_b (.tmp 39) (.tmp 44) rfl ?_); refine wpList_append_ev _ rfl (.tmp 39) (.tmp 44) 28 rfl _ _ rfl rfl _ (run_app1 w2 infoInt rfl _ ow1 3 [.int .i64 x] x rfl (by simp; omega) (by simp; omega) hz2) ?_; rintro n2 w3 ⟨ow2, g2, v2, _⟩; have hdrop := Lib.hid (hdrop.out.frame (same_since ow1 g2)); have B3 := Lib.hid (B2.out.grown g2 B2.out.size (fun k hk => Nat.le_trans HB.out.size (ow1.lt k hk).1)); have hz3 : wr.heap.size ≤ w3.heap.size := Nat.le_trans hz2 g2.size)
            | ((with_reducible refine gate_b (.tmp 46) (.tmp 49) rfl ?_); refine wpList_append_ev _ rfl (.tmp 46) (.tmp 49) 28 rfl _ _ rfl rfl _ (run_app_rd _ infoInt rfl _ ow2 _ _ _ (s.drop m) HL2.out hdrop.out val_any (by simp; omega) (by simp; omega) hz3) ?_; rintro n3 w4 ⟨ow3, g3, v3⟩; have B4 := Lib.hid (B3.out.grown g3 B3.out.size (fun k hk => Nat.le_trans HB.out.size (ow2.lt k hk).1)))
            | fail)
          go_roundw
          case rel =>
            refine ⟨k + 1, by omega, by go_num, ?_, B4.out⟩
            show Own _ _ _ _ _ _ _
            rw [HN.out, HI.out]
            rw [List.append_assoc] at ow3
            exact ow3.mono (fun _ _ h => h) HB.out.size
          case measure => simp [intOf]; omega
        · have q1 : decide (m < s.length) = false := decide_eq_false (by omega)
          have HL2 : Hid ((s.drop m).length = 0) := by show _ = _; simp; omega
          go_wp2_with (first
            | (go_at_call 53; refine (ref03_Index _ _ _ s x _ hr.out).mono ?_; rw [HM.out]; rintro e w1 ⟨rfl, nd, rfl⟩)
            | fail)
          go_quiet (fail)
          clear q1
          have hcut := hcut'.out
          go_wp2_with (first
            | ((with_reducible refine gate_b (.tmp 34) (.tmp 37) rfl ?_); refine wpList_append_ev _ rfl (.tmp 34) (.tmp 37) 28 rfl _ _ rfl rfl _ (run_app_rd _ infoInt rfl _ (Own.nil (Kd.int .i64) 3 NoS _ wr.heap.size) _ C m (s.take m) HL1.out (by exact hrt.out.frame (Same.drewN _ _ _)) val_any (by simp; omega) (by simp; omega) (by simp)) ?_; rintro n1 w2 ⟨ow1, g1, v1⟩; have d2 : w2.cell? ⟨b, o + k, none⟩ = some (.int .i64 x) := g1.cell d' (by simp [Value.ownBlock]); have R0 := Lib.hid ((R0.out.frame (Same.drewN _ _ _)).frame (Same.grown g1 (fun b hb => by simp [Value.ownBlock]))); have hdrop := Lib.hid ((hdrop.out.frame (Same.drewN _ _ _)).frame (Same.grown g1 (fun b hb => by simp [Value.ownBlock]))); have B2 := Lib.hid ((below_drewN HB.out (nd + nq)).grown g1 HB.out.size (fun k hk => by simp [Value.ownBlock] at hk)); have hz2 : wr.heap.size ≤ w2.heap.size := by simpa using g1.size)
            | ((with_reducible refine gate_b (.tmp 39) (.tmp 44) rfl ?_); refine wpList_append_ev _ rfl (.tmp 39) (.tmp 44) 28 rfl _ _ rfl rfl _ (run_app1 w2 infoInt rfl _ ow1 3 [.int .i64 x] x rfl (by simp; omega) (by simp; omega) hz2) ?_; rintro n2 w3 ⟨ow2, g2, v2, _⟩; have hdrop := Lib.hid (hdrop.out.frame (same_since ow1 g2)); have B3 := Lib.hid (B2.out.grown g2 B2.out.size (fun k hk => Nat.le_trans HB.out.size (ow1.lt k hk).1)); have hz3 : wr.heap.size ≤ w3.heap.size := Nat.le_trans hz2 g2.size)
            | ((with_reducible refine gate_b (.tmp 46) (.tmp 49) rfl ?_); refine wpList_append_ev _ rfl (.tmp 46) (.tmp 49) 28 rfl _ _ rfl rfl _ (run_app_rd _ infoInt rfl _ ow2 _ _ _ (s.drop m) HL2.out hdrop.out val_any (by simp; omega) (by simp; omega) hz3) ?_; rintro n3 w4 ⟨ow3, g3, v3⟩; have B4 := Lib.hid (B3.out.grown g3 B3.out.size (fun k hk => Nat.le_trans HB.out.size (ow2.lt k hk).1)))
            | fail)
          go_roundw
          case rel =>
            refine ⟨k + 1, by omega, by go_num, ?_, B4.out⟩
            show Own _ _ _ _ _ _ _
            rw [HN.out, HI.out]
            rw [List.append_assoc] at ow3
            exact ow3.mono (fun _ _ h => h) HB.out.size
          case measure => simp [intOf]; omega
    · go_wp2
      go_ret
      have hfin := HO.out
      have hfb := HB.out
      have e1 : l.take k = l := List.take_of_length_le (by omega)
      rw [e1] at hfin
      exact ⟨_, rfl, by simpa [e1] using hfin, hfb⟩

theorem ref03_Of_n {n : Nat} (S : Nat → Prop) (a : Option Addr) (c : Nat) (l : List Int) (w : World) (hn : l.length = n) (h : Rd (Kd.int .i64) S w a c l) (hsz : l.length ≤ 1099511627776) :
    Calls Tryd.prog 42 #[.slice a n c] w fun e w' => ∃ v, e = .returned v ∧ Own (Kd.int .i64) 3 NoS w' w.heap.size v (ofL l) ∧ Below w.heap.size w w' := by
  subst hn
  exact ref03_Of S a c l w h hsz
end Go.Proofs.Sat
