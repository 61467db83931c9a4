/- The walks of the reference of idset (package saturateref03). -/
import Derived.Test.YtgjdpjefoaohkaaIdsW
set_option linter.unusedVariables false
set_option linter.unusedSimpArgs false
namespace Go.Proofs.Sat
open Go Go.RowKit

theorem eq_iff_places (l m : List Int) : l = m ↔ l.length = m.length ∧ ∀ i, i < l.length → l.getD i 0 = m.getD i 0 := by
  constructor
  · rintro rfl; exact ⟨rfl, fun _ _ => rfl⟩
  · rintro ⟨h1, h2⟩
    refine List.ext_getElem h1 fun i a b => ?_
    have := h2 i a
    simpa [a, b] using this
theorem getD_at (l : List Int) {k : Nat} (h : k < l.length) : l.getD k 0 = l[k] := by simp [h]

set_option maxHeartbeats 400000 in
theorem ref03_Same (S1 S2 : Nat → Prop) (a1 a2 : Option Addr) (c1 c2 : Nat) (l1 l2 : List Int) (w : World) (h1 : Rd (Kd.int .i64) S1 w a1 c1 l1) (h2 : Rd (Kd.int .i64) S2 w a2 c2 l2) :
    Calls Try.prog 13 #[.slice a1 l1.length c1, .slice a2 l2.length c2] w fun e w' => e = .returned (.bool (decide (l1 = l2))) ∧ Drawn w w' := by
  have hl1 := h1.le
  have hl2 := h2.le
  go_enter Try.func13, Try.ntmps13
  by_cases he : l1.length = l2.length
  · have hb : (l1.length != l2.length) = false := by simp [he]
    have hb' : ((l1.length : Int) != (l2.length : Int)) = false := by simp [he]
    have HE := Lib.hid he
    clear he
    go_wp2
    go_loopw [5] (fun i wr => ∃ k : Nat, k ≤ l1.length ∧ i = .int .i64 k ∧ Hid (∀ i, i < k → l1.getD i 0 = l2.getD i 0) ∧ Drawn w wr) (fun i _ => l1.length - (intOf i).toNat)
    case atStart => exact ⟨0, by omega, rfl, fun i h => by omega, Drawn.refl _⟩
    case round =>
      obtain ⟨k, hk, rfl, hv, n, rfl⟩ := hrel
      by_cases hlt : k < l1.length
      · have hlt2 : k < l2.length := by have := HE.out; omega
        obtain ⟨b1, o1, rfl, _, _, hc1⟩ := h1.vals (by omega) 0
        obtain ⟨b2, o2, rfl, _, _, hc2⟩ := h2.vals (by omega) 0
        have d1 := hc1 k hlt
        have d2 := hc2 k hlt2
        have E1 := Lib.hid (getD_at l1 hlt)
        have E2 := Lib.hid (getD_at l2 hlt2)
        clear hc1 hc2 hb hb'
        go_wp2
        go_quiet (fail)
        by_cases hq : l1[k] = l2[k]
        · have hq' : (l1[k] != l2[k]) = false := by simp [hq]
          have HQ := Lib.hid hq
          clear hq
          go_wp2
          go_roundw
          case rel =>
            refine ⟨k + 1, by omega, by go_num, fun i h => ?_, by first | exact Drawn.of _ _ | exact Drawn.step (Drawn.of _ _) _⟩
            rcases Nat.lt_or_ge i k with h' | h'
            · exact hv.out i h'
            · obtain rfl : i = k := by omega
              rw [E1.out, E2.out, HQ.out]
          case measure => simp [intOf]; omega
        · have hq' : (l1[k] != l2[k]) = true := by simp [hq]
          have HQ := Lib.hid hq
          clear hq
          go_wp2
          go_ret
          refine ⟨ret_bool ?_, by first | exact Drawn.of _ _ | exact Drawn.step (Drawn.of _ _) _⟩
          symm
          rw [decide_eq_false_iff_not]
          rintro rfl
          exact HQ.out rfl
      · clear hb hb'
        go_wp2
        go_ret
        refine ⟨ret_bool ?_, Drawn.of _ _⟩
        symm
        rw [decide_eq_true_eq, eq_iff_places]
        exact ⟨HE.out, fun i hi => hv.out i (by omega)⟩
  · have hb : (l1.length != l2.length) = true := by simp [he]
    have hb' : ((l1.length : Int) != (l2.length : Int)) = true := by simp; omega
    go_wp2
    go_ret
    refine ⟨ret_bool ?_, Drawn.refl _⟩
    symm
    rw [decide_eq_false_iff_not]
    rintro rfl
    exact he rfl

theorem take_succ_at (l : List Int) {k : Nat} (h : k < l.length) : l.take (k + 1) = l.take k ++ [l[k]] := by rw [List.take_succ_eq_append_getElem h]
set_option maxHeartbeats 400000 in
theorem ref03_Index (S : Nat → Prop) (a : Option Addr) (c : Nat) (l : List Int) (x : Int) (w : World) (h : Rd (Kd.int .i64) S w a c l) :
    Calls Try.prog 26 #[.slice a l.length c, .int .i64 x] w fun e w' => e = .returned (.int .i64 (l.countP fun y => decide (y < x) : Nat)) ∧ Drawn w w' := by
  have hl := h.le
  go_enter Try.func26, Try.ntmps26
  go_wp2
  go_loop [5, 6] (fun n i => ∃ k m : Nat, k ≤ l.length ∧ m ≤ k ∧ i = .int .i64 k ∧ n = .int .i64 m ∧ Hid (m = (l.take k).countP fun y => decide (y < x))) (fun _ i => l.length - (intOf i).toNat)
  case atStart => exact ⟨0, 0, by omega, by omega, rfl, rfl, rfl⟩
  case round =>
    obtain ⟨k, m, hk, hm, rfl, rfl, hv⟩ := hrel
    by_cases hlt : k < l.length
    · obtain ⟨b, o, rfl, _, _, hc⟩ := h.vals (by omega) 0
      have d := hc k hlt
      have HT := Lib.hid (take_succ_at l hlt)
      clear hc
      by_cases hx : l[k] < x
      · go_wp2
        go_round
        case rel =>
          refine ⟨k + 1, m + 1, by omega, by omega, by go_num, by go_num, ?_⟩
          show _ = _
          rw [HT.out, List.countP_append, ← hv.out]
          simp [hx]
        case measure => simp [intOf]; omega
      · go_wp2
        go_round
        case rel =>
          refine ⟨k + 1, m, by omega, by omega, by go_num, by go_num, ?_⟩
          show _ = _
          rw [HT.out, List.countP_append, ← hv.out]
          simp [hx]
        case measure => simp [intOf]; omega
    · go_wp2
      go_ret
      refine ⟨ret_int ?_, Drawn.refl _⟩
      have := hv.out
      rw [List.take_of_length_le (by omega)] at this
      rw [this]
set_option maxHeartbeats 400000 in
theorem ref03_Has (S : Nat → Prop) (a : Option Addr) (c : Nat) (l : List Int) (x : Int) (w : World) (h : Rd (Kd.int .i64) S w a c l) :
    Calls Try.prog 16 #[.slice a l.length c, .int .i64 x] w fun e w' => e = .returned (.bool (decide (x ∈ l))) ∧ Drawn w w' := by
  have hl := h.le
  go_enter Try.func16, Try.ntmps16
  go_wp2
  go_loop [5] (fun i => ∃ k : Nat, k ≤ l.length ∧ i = .int .i64 k ∧ Hid (¬ x ∈ l.take k)) (fun i => l.length - (intOf i).toNat)
  case atStart => exact ⟨0, by omega, rfl, by simp [Hid]⟩
  case round =>
    obtain ⟨k, hk, rfl, hv⟩ := hrel
    by_cases hlt : k < l.length
    · obtain ⟨b, o, rfl, _, _, hc⟩ := h.vals (by omega) 0
      have d := hc k hlt
      have HT := Lib.hid (take_succ_at l hlt)
      clear hc
      by_cases hx : l[k] = x
      · have hx' : (l[k] == x) = true := by simp [hx]
        have HX := Lib.hid hx
        clear hx
        go_wp2
        go_ret
        refine ⟨ret_bool ?_, Drawn.refl _⟩
        symm
        rw [decide_eq_true_eq, ← HX.out]
        exact List.getElem_mem _
      · have hx' : (l[k] == x) = false := by simp [hx]
        have HX := Lib.hid hx
        clear hx
        go_wp2
        go_round
        case rel =>
          refine ⟨k + 1, by omega, by go_num, ?_⟩
          show ¬ _
          rw [HT.out, List.mem_append]
          rintro (h | h)
          · exact hv.out h
          · simp at h; exact HX.out h.symm
        case measure => simp [intOf]; omega
    · go_wp2
      go_ret
      refine ⟨ret_bool ?_, Drawn.refl _⟩
      have := hv.out
      rw [List.take_of_length_le (by omega)] at this
      symm
      rw [decide_eq_false_iff_not]
      exact this
set_option maxHeartbeats 400000 in
theorem ref03_Valid (S : Nat → Prop) (a : Option Addr) (c : Nat) (l : List Int) (w : World) (h : Rd (Kd.int .i64) S w a c l) :
    Calls Try.prog 23 #[.slice a l.length c] w fun e w' => e = .returned (.bool (decide (SS l))) ∧ Drawn w w' := by
  have hl := h.le
  go_enter Try.func23, Try.ntmps23
  go_wp2
  go_loopw [3] (fun i wr => ∃ k : Nat, 1 ≤ k ∧ (k ≤ l.length ∨ k = 1) ∧ i = .int .i64 k ∧ Hid (∀ i, 1 ≤ i → i < k → l.getD (i - 1) 0 < l.getD i 0) ∧ Drawn w wr) (fun i _ => l.length - (intOf i).toNat)
  case atStart => exact ⟨1, by omega, by omega, rfl, fun i h1 h2 => by omega, Drawn.refl _⟩
  case round =>
    obtain ⟨k, hk1, hk, rfl, hv, n, rfl⟩ := hrel
    by_cases hlt : k < l.length
    · obtain ⟨b, o, rfl, _, _, hc⟩ := h.vals (by omega) 0
      have c1 := hc (k-1) (by omega)
      have c2 := hc k (by omega)
      have g1 : (0:Int) ≤ (k:Int) - 1 := by omega
      have g2 : (k:Int) - 1 < (l.length : Int) := by omega
      have g3 : ((k:Int) - 1).toNat = k - 1 := by omega
      have E2 : Hid (l.getD k 0 = l[k]) := by simp [Hid, hlt]
      have E1 : Hid (l.getD (k-1) 0 = l[k-1]?.getD 0) := by simp [Hid]
      clear hc
      go_wp2
      go_quiet (fail)
      go_wp2
      · have hle : l[k] ≤ l[k - 1]?.getD 0 := by assumption
        go_ret
        refine ⟨ret_bool ?_, Drawn.step (Drawn.of _ _) _⟩
        symm
        rw [decide_eq_false_iff_not, ss_iff_adj]
        intro hall
        have := hall k hk1 hlt
        rw [E1.out, E2.out] at this
        omega
      · have hle : l[k - 1]?.getD 0 < l[k] := by assumption
        go_roundw
        case rel =>
          refine ⟨k + 1, by omega, by omega, by go_num, fun i h1 h2 => ?_, Drawn.of _ _⟩
          rcases Nat.lt_or_ge i k with h | h
          · exact hv.out i h1 h
          · obtain rfl : i = k := by omega
            rw [E1.out, E2.out]; exact hle
        case measure => simp [intOf]; omega
    · go_wp2
      go_ret
      refine ⟨ret_bool ?_, Drawn.of _ _⟩
      symm
      rw [decide_eq_true_eq, ss_iff_adj]
      exact fun i h1 h2 => hv.out i h1 (by omega)

theorem val_any {α : Type} {enc : α → Value} {h1 : ∀ x, (enc x).oneCell' = true} {S S' : Nat → Prop} {w : World} : ∀ cs x, (Kd.val enc h1).K S w cs x → (Kd.val enc h1).K S' w cs x := fun _ _ h => h
theorem Rd.lt {α : Type} {d : Kd α} {S : Nat → Prop} {w : World} {a : Option Addr} {c : Nat} {l : List α} (h : Rd d S w a c l) : Rd d (fun b => b < w.heap.size) w a c l := h.mono fun _ hb _ => hb
/-- A row that was made since a world, while another one is read that lay there. -/
theorem same_since {α : Type} {d : Kd α} {e : TypeId} {S : Nat → Prop} {w w' : World} {H : Nat} {v : Value} {xs : List α} (ho : Own d e S w H v xs) (hg : w.grownBy w' v.ownBlock) : Same (fun b => b < H) w w' :=
  Same.grown hg fun b hb e => by have := (ho.lt b e.symm).1; omega

set_option maxHeartbeats 800000 in
theorem ref03_Of (S : Nat → Prop) (a : Option Addr) (c : Nat) (l : List Int) (w : World) (h : Rd (Kd.int .i64) S w a c l) (hsz : l.length ≤ 1099511627776) :
    Calls Try.prog 14 #[.slice a l.length c] w fun e w' => ∃ v, e = .returned v ∧ Own (Kd.int .i64) 3 NoS w' w.heap.size v (ofL l) ∧ Below w.heap.size w w' := by
  have hl := h.le
  have h := h.lt
  go_enter Try.func14, Try.ntmps14
  go_wp2
  go_loopw [3, 4] (fun v i wr => ∃ k : Nat, k ≤ l.length ∧ i = .int .i64 k ∧ Hid (Own (Kd.int .i64) 3 NoS wr w.heap.size v (ofL (l.take k))) ∧ Hid (Below w.heap.size w wr)) (fun _ i _ => l.length - (intOf i).toNat)
  case atStart => exact ⟨0, by omega, rfl, Own.nil _ _ _ _ _, Below.refl _ _⟩
  case round =>
    obtain ⟨k, hk, rfl, HO, HB⟩ := hrel
    obtain ⟨A, C, rfl, hr⟩ := HO.out.rd
    have hr := Lib.hid hr.lt
    have hss := Lib.hid (ss_ofL (l.take k))
    have hln : (ofL (l.take k)).length ≤ 1099511627776 := by have := length_ofL (l.take k); simp at this; omega
    by_cases hlt : k < l.length
    · have HN : Hid (ofL (l.take (k + 1)) = ins (ofL (l.take k)) l[k]) := by show _ = _; rw [take_succ_at l hlt, ofL_snoc]
      have R0 := Lib.hid (h.frame (w' := wr) ⟨HB.out.size, fun b hb _ => HB.out.block b hb⟩)
      obtain ⟨b, o, rfl, _, _, hc⟩ := R0.out.vals (by omega) 0
      have d := hc k hlt
      clear hc h
      generalize ofL (l.take k) = s at *
      generalize hx : l[k] = x at *
      have d' : wr.cell? ⟨b, o + k, none⟩ = some (.int .i64 x) := by rw [d, getD_at l hlt, hx]
      have HX := Lib.hid hx
      clear hx d
      have hcle : (s.countP fun y => decide (y < x)) ≤ s.length := List.countP_le_length
      have HI := Lib.hid (ins_take hss.out x)
      generalize hm : (s.countP fun y => decide (y < x)) = m at *
      have HM := Lib.hid hm
      clear hm
      have hca := hr.out.1
      by_cases hmem : s[m]? = some x
      · have hmlt : m < s.length := (List.getElem?_eq_some_iff.1 hmem).1
        obtain ⟨b2, o2, rfl, _, _, hc2⟩ := hr.out.vals (by omega) 0
        have e := hc2 m hmlt
        have e' : wr.cell? ⟨b2, o2 + m, none⟩ = some (.int .i64 x) := by rw [e]; simp [hmem]
        have q1 : decide (m < s.length) = true := decide_eq_true hmlt
        have q2 : (x == x) = true := by simp
        rw [if_pos hmem] at HI
        clear hc2 e hmem
        go_wp2_with (first
          | (go_at_call 26; refine (ref03_Index _ _ _ s x _ hr.out).mono ?_; rw [HM.out]; rintro e w1 ⟨rfl, nd, rfl⟩)
          | fail)
        go_quiet (fail)
        go_wp2
        go_roundw
        case rel => exact ⟨k + 1, by omega, by go_num, by show Own _ _ _ _ _ _ _; rw [HN.out, HI.out]; exact HO.out.drewN _, below_drewN HB.out _⟩
        case measure => simp [intOf]; omega
      · rw [if_neg hmem] at HI
        have hmx : ∀ hm : m < s.length, s[m] ≠ x := fun hm e => hmem (by rw [List.getElem?_eq_getElem hm, e])
        have hmxH := Lib.hid hmx
        clear hmem hmx
        have hrt := Lib.hid (hr.out.take m hcle)
        obtain ⟨A2, hcut, hdrop0⟩ := cut_from (P := Try.prog) (Kd.int .i64) infoInt rfl A s.length C m hcle
        have hcut' := Lib.hid hcut
        have hdrop := Lib.hid (hdrop0 _ _ s rfl hr.out)
        clear hdrop0
        clear hcut
        have hlt1 : (s.take m).length = m := by simp; omega
        have hlt2 : (s.drop m).length = s.length - m := by simp
        have HL1 := Lib.hid hlt1
        have HL2 := Lib.hid hlt2
        clear hlt1 hlt2
        have hC : C ≤ 9223372036854775807 := hr.out.2.1
        rcases Nat.lt_or_ge m s.length with hml | hml
        · obtain ⟨b2, o2, rfl, _, _, hc2⟩ := hr.out.vals (by omega) 0
          have e := hc2 m hml
          have q1 : decide (m < s.length) = true := decide_eq_true hml
          have q2 : (s[m] == x) = false := beq_eq_false_iff_ne.2 (hmxH.out hml)
          clear hc2
          go_wp2_with (first
            | (go_at_call 26; refine (ref03_Index _ _ _ s x _ hr.out).mono ?_; rw [HM.out]; rintro e w1 ⟨rfl, nd, rfl⟩)
            | fail)
          go_quiet (fail)
          clear e q1 q2
          have hcut := hcut'.out
          go_wp2_with (first
            | ((with_reducible refine gate_b (.tmp 34) (.tmp 37) rfl ?_); refine wpList_append_ev _ rfl (.tmp 34) (.tmp 37) 22 rfl _ _ rfl rfl _ (run_app_rd _ infoInt rfl _ (Own.nil (Kd.int .i64) 3 NoS _ wr.heap.size) _ C m (s.take m) HL1.out (by exact hrt.out.frame (Same.drewN _ _ _)) val_any (by simp; omega) (by simp; omega) (by simp)) ?_; rintro n1 w2 ⟨ow1, g1, v1⟩; have d2 : w2.cell? ⟨b, o + k, none⟩ = some (.int .i64 x) := g1.cell d' (by simp [Value.ownBlock]); have R0 := Lib.hid ((R0.out.frame (Same.drewN _ _ _)).frame (Same.grown g1 (fun b hb => by simp [Value.ownBlock]))); have hdrop := Lib.hid ((hdrop.out.frame (Same.drewN _ _ _)).frame (Same.grown g1 (fun b hb => by simp [Value.ownBlock]))); have B2 := Lib.hid ((below_drewN HB.out (nd + nq)).grown g1 HB.out.size (fun k hk => by simp [Value.ownBlock] at hk)); have hz2 : wr.heap.size ≤ w2.heap.size := by simpa using g1.size)
            | ((with_reducible refine gate_b (.tmp 39) (.tmp 44) rfl ?_); refine wpList_append_ev _ rfl (.tmp 39) (.tmp 44) 22 rfl _ _ rfl rfl _ (run_app1 w2 infoInt rfl _ ow1 3 [.int .i64 x] x rfl (by simp; omega) (by simp; omega) hz2) ?_; rintro n2 w3 ⟨ow2, g2, v2, _⟩; have hdrop := Lib.hid (hdrop.out.frame (same_since ow1 g2)); have B3 := Lib.hid (B2.out.grown g2 B2.out.size (fun k hk => Nat.le_trans HB.out.size (ow1.lt k hk).1)); have hz3 : wr.heap.size ≤ w3.heap.size := Nat.le_trans hz2 g2.size)
            | ((with_reducible refine gate_b (.tmp 46) (.tmp 49) rfl ?_); refine wpList_append_ev _ rfl (.tmp 46) (.tmp 49) 22 rfl _ _ rfl rfl _ (run_app_rd _ infoInt rfl _ ow2 _ _ _ (s.drop m) HL2.out hdrop.out val_any (by simp; omega) (by simp; omega) hz3) ?_; rintro n3 w4 ⟨ow3, g3, v3⟩; have B4 := Lib.hid (B3.out.grown g3 B3.out.size (fun k hk => Nat.le_trans HB.out.size (ow2.lt k hk).1)))
            | fail)
          go_roundw
          case rel =>
            refine ⟨k + 1, by omega, by go_num, ?_, B4.out⟩
            show Own _ _ _ _ _ _ _
            rw [HN.out, HI.out]
            rw [List.append_assoc] at ow3
            exact ow3.mono (fun _ _ h => h) HB.out.size
          case measure => simp [intOf]; omega
        · have q1 : decide (m < s.length) = false := decide_eq_false (by omega)
          have HL2 : Hid ((s.drop m).length = 0) := by show _ = _; simp; omega
          go_wp2_with (first
            | (go_at_call 26; refine (ref03_Index _ _ _ s x _ hr.out).mono ?_; rw [HM.out]; rintro e w1 ⟨rfl, nd, rfl⟩)
            | fail)
          go_quiet (fail)
          clear q1
          have hcut := hcut'.out
          go_wp2_with (first
            | ((with_reducible refine gate_b (.tmp 34) (.tmp 37) rfl ?_); refine wpList_append_ev _ rfl (.tmp 34) (.tmp 37) 22 rfl _ _ rfl rfl _ (run_app_rd _ infoInt rfl _ (Own.nil (Kd.int .i64) 3 NoS _ wr.heap.size) _ C m (s.take m) HL1.out (by exact hrt.out.frame (Same.drewN _ _ _)) val_any (by simp; omega) (by simp; omega) (by simp)) ?_; rintro n1 w2 ⟨ow1, g1, v1⟩; have d2 : w2.cell? ⟨b, o + k, none⟩ = some (.int .i64 x) := g1.cell d' (by simp [Value.ownBlock]); have R0 := Lib.hid ((R0.out.frame (Same.drewN _ _ _)).frame (Same.grown g1 (fun b hb => by simp [Value.ownBlock]))); have hdrop := Lib.hid ((hdrop.out.frame (Same.drewN _ _ _)).frame (Same.grown g1 (fun b hb => by simp [Value.ownBlock]))); have B2 := Lib.hid ((below_drewN HB.out (nd + nq)).grown g1 HB.out.size (fun k hk => by simp [Value.ownBlock] at hk)); have hz2 : wr.heap.size ≤ w2.heap.size := by simpa using g1.size)
            | ((with_reducible refine gate_b (.tmp 39) (.tmp 44) rfl ?_); refine wpList_append_ev _ rfl (.tmp 39) (.tmp 44) 22 rfl _ _ rfl rfl _ (run_app1 w2 infoInt rfl _ ow1 3 [.int .i64 x] x rfl (by simp; omega) (by simp; omega) hz2) ?_; rintro n2 w3 ⟨ow2, g2, v2, _⟩; have hdrop := Lib.hid (hdrop.out.frame (same_since ow1 g2)); have B3 := Lib.hid (B2.out.grown g2 B2.out.size (fun k hk => Nat.le_trans HB.out.size (ow1.lt k hk).1)); have hz3 : wr.heap.size ≤ w3.heap.size := Nat.le_trans hz2 g2.size)
            | ((with_reducible refine gate_b (.tmp 46) (.tmp 49) rfl ?_); refine wpList_append_ev _ rfl (.tmp 46) (.tmp 49) 22 rfl _ _ rfl rfl _ (run_app_rd _ infoInt rfl _ ow2 _ _ _ (s.drop m) HL2.out hdrop.out val_any (by simp; omega) (by simp; omega) hz3) ?_; rintro n3 w4 ⟨ow3, g3, v3⟩; have B4 := Lib.hid (B3.out.grown g3 B3.out.size (fun k hk => Nat.le_trans HB.out.size (ow2.lt k hk).1)))
            | fail)
          go_roundw
          case rel =>
            refine ⟨k + 1, by omega, by go_num, ?_, B4.out⟩
            show Own _ _ _ _ _ _ _
            rw [HN.out, HI.out]
            rw [List.append_assoc] at ow3
            exact ow3.mono (fun _ _ h => h) HB.out.size
          case measure => simp [intOf]; omega
    · go_wp2
      go_ret
      have hfin := HO.out
      have hfb := HB.out
      have e1 : l.take k = l := List.take_of_length_le (by omega)
      rw [e1] at hfin
      exact ⟨_, rfl, by simpa [e1] using hfin, hfb⟩

theorem ref03_Of_n {n : Nat} (S : Nat → Prop) (a : Option Addr) (c : Nat) (l : List Int) (w : World) (hn : l.length = n) (h : Rd (Kd.int .i64) S w a c l) (hsz : l.length ≤ 1099511627776) :
    Calls Try.prog 14 #[.slice a n c] w fun e w' => ∃ v, e = .returned v ∧ Own (Kd.int .i64) 3 NoS w' w.heap.size v (ofL l) ∧ Below w.heap.size w w' := by
  subst hn
  exact ref03_Of S a c l w h hsz
theorem Own.rd' {α : Type} {d : Kd α} {e : TypeId} {S : Nat → Prop} {w : World} {base : Nat} {a : Option Addr} {n c : Nat} {xs : List α} (h : Own d e S w base (.slice a n c) xs) : Rd d (fun b => S b ∨ base ≤ b) w a c xs := by
  obtain ⟨a', c', e, hr⟩ := h.rd
  cases e
  exact hr
set_option maxHeartbeats 800000 in
theorem ref03_Add (S : Nat → Prop) (a : Option Addr) (c : Nat) (l : List Int) (x : Int) (w : World) (h : Rd (Kd.int .i64) S w a c l) (hsz : l.length ≤ 549755813888) :
    Calls Try.prog 17 #[.slice a l.length c, .int .i64 x] w fun e w' => ∃ v, e = .returned v ∧ Own (Kd.int .i64) 3 NoS w' w.heap.size v (ofL (l ++ [x])) ∧ Below w.heap.size w w' := by
  go_enter Try.func17, Try.ntmps17
  go_wp2_with (first
    | ((with_reducible refine gate_b (.tmp 6) (.tmp 7) rfl ?_); refine wpList_append_ev _ rfl (.tmp 6) (.tmp 7) 22 rfl _ _ rfl rfl _ (run_app_rd _ infoInt rfl _ (Own.nil (Kd.int .i64) 3 NoS w w.heap.size) _ c _ l rfl h val_any (by simp; omega) (by simp; omega) (Nat.le_refl _)) ?_; rintro n1 w1 ⟨ow1, g1, v1⟩; have B1 := Lib.hid ((Below.refl w.heap.size w).grown g1 (Nat.le_refl _) (fun k hk => by simp [Value.ownBlock] at hk)))
    | ((with_reducible refine gate_b (.tmp 9) (.tmp 11) rfl ?_); refine wpList_append_ev _ rfl (.tmp 9) (.tmp 11) 22 rfl _ _ rfl rfl _ (run_app1 w1 infoInt rfl _ ow1 3 [.int .i64 x] x rfl (by simp; omega) (by simp; omega) g1.size) ?_; rintro n2 w2 ⟨ow2, g2, v2, a2, c2, rfl⟩; have B2 := Lib.hid (B1.out.grown g2 B1.out.size (fun k hk => (ow1.lt k hk).1)))
    | (go_at_call 14; refine (ref03_Of_n _ a2 c2 (l ++ [x]) _ (by simp) (by simpa using ow2.rd') (by simp; omega)).mono ?_; rintro e w3 ⟨v, rfl, ho, hb⟩)
    | fail)
  go_ret
  exact ⟨v, rfl, ho.mono (fun _ _ h => h) B2.out.size, below_both B2.out hb⟩
set_option maxHeartbeats 800000 in
theorem ref03_Union (S1 S2 : Nat → Prop) (a1 a2 : Option Addr) (c1 c2 : Nat) (l1 l2 : List Int) (w : World) (h1 : Rd (Kd.int .i64) S1 w a1 c1 l1) (h2 : Rd (Kd.int .i64) S2 w a2 c2 l2) (hz1 : l1.length ≤ 549755813888) (hz2 : l2.length ≤ 549755813888) :
    Calls Try.prog 30 #[.slice a1 l1.length c1, .slice a2 l2.length c2] w fun e w' => ∃ v, e = .returned v ∧ Own (Kd.int .i64) 3 NoS w' w.heap.size v (ofL (l1 ++ l2)) ∧ Below w.heap.size w w' := by
  have h2 := h2.lt
  go_enter Try.func30, Try.ntmps30
  go_wp2_with (first
    | ((with_reducible refine gate_b (.tmp 6) (.tmp 7) rfl ?_); refine wpList_append_ev _ rfl (.tmp 6) (.tmp 7) 22 rfl _ _ rfl rfl _ (run_app_rd _ infoInt rfl _ (Own.nil (Kd.int .i64) 3 NoS w w.heap.size) _ c1 _ l1 rfl h1 val_any (by simp; omega) (by simp; omega) (Nat.le_refl _)) ?_; rintro n1 w1 ⟨ow1, g1, v1⟩; have B1 := Lib.hid ((Below.refl w.heap.size w).grown g1 (Nat.le_refl _) (fun k hk => by simp [Value.ownBlock] at hk)); have h2 := h2.frame (Same.below B1.out))
    | ((with_reducible refine gate_b (.tmp 9) (.tmp 10) rfl ?_); refine wpList_append_ev _ rfl (.tmp 9) (.tmp 10) 22 rfl _ _ rfl rfl _ (run_app_rd w1 infoInt rfl _ ow1 _ c2 _ l2 rfl h2 val_any (by simp; omega) (by simp; omega) g1.size) ?_; rintro n2 w2 ⟨ow2, g2, v2⟩; obtain ⟨a2, c2, rfl⟩ := ow2.form; have B2 := Lib.hid (B1.out.grown g2 B1.out.size (fun k hk => (ow1.lt k hk).1)))
    | (go_at_call 14; refine (ref03_Of_n _ a2 c2 (l1 ++ l2) _ (by simp) (by simpa using ow2.rd') (by simp; omega)).mono ?_; rintro e w3 ⟨v, rfl, ho, hb⟩)
    | fail)
  go_ret
  exact ⟨v, rfl, ho.mono (fun _ _ h => h) B2.out.size, below_both B2.out hb⟩
theorem filter_take_succ {l : List Int} {k : Nat} (h : k < l.length) (p : Int → Bool) : (l.take (k + 1)).filter p = (l.take k).filter p ++ if p l[k] then [l[k]] else [] := by
  rw [take_succ_at l h, List.filter_append]
  by_cases hp : p l[k] = true <;> simp [hp]
set_option maxHeartbeats 800000 in
theorem ref03_Remove (S : Nat → Prop) (a : Option Addr) (c : Nat) (l : List Int) (x : Int) (w : World) (h : Rd (Kd.int .i64) S w a c l) (hsz : l.length ≤ 549755813888) :
    Calls Try.prog 18 #[.slice a l.length c, .int .i64 x] w fun e w' => ∃ v, e = .returned v ∧ Own (Kd.int .i64) 3 NoS w' w.heap.size v ((ofL l).filter fun z => z != x) ∧ Below w.heap.size w w' := by
  have hle := length_ofL l
  go_enter Try.func18, Try.ntmps18
  go_wp2_with (first
    | (go_at_call 14; refine (ref03_Of S a c l _ h (by omega)).mono ?_; rintro e w1 ⟨v, rfl, ho, hb⟩; obtain ⟨A, C, rfl, hr⟩ := ho.rd)
    | fail)
  have hr := hr.lt
  have HB1 := Lib.hid hb
  clear ho hb
  go_loopw [5, 6] (fun v i wr => ∃ k : Nat, k ≤ (ofL l).length ∧ i = .int .i64 k ∧ Hid (Own (Kd.int .i64) 3 NoS wr w1.heap.size v (((ofL l).take k).filter fun z => z != x)) ∧ Hid (Below w1.heap.size w1 wr)) (fun _ i _ => (ofL l).length - (intOf i).toNat)
  case atStart => exact ⟨0, by omega, rfl, Own.nil _ _ _ _ _, Below.refl _ _⟩
  case round =>
    obtain ⟨k, hk, rfl, HO, HB⟩ := hrel
    by_cases hlt : k < (ofL l).length
    · have HF := Lib.hid (filter_take_succ hlt fun z => z != x)
      have hfl : (((ofL l).take k).filter fun z => z != x).length ≤ 549755813888 := Nat.le_trans (List.length_filter_le _ _) (by simp; omega)
      have R0 := hr.frame (w' := wr) ⟨HB.out.size, fun b hb _ => HB.out.block b hb⟩
      obtain ⟨b, o, rfl, _, _, hc⟩ := R0.vals (by omega) 0
      have d := hc k hlt
      clear hc R0
      by_cases hx : (ofL l)[k] = x
      · have hx' : ((ofL l)[k] != x) = false := by simp [hx]
        have HX := Lib.hid hx'
        clear hx
        go_wp2
        go_roundw
        case rel =>
          refine ⟨k + 1, by omega, by go_num, ?_, HB.out⟩
          show Own _ _ _ _ _ _ _
          rw [HF.out, HX.out]
          simpa using HO.out
        case measure => simp [intOf]; omega
      · have hx' : ((ofL l)[k] != x) = true := by simp [hx]
        have HX := Lib.hid hx'
        clear hx
        go_wp2_with (first
          | (at_builtin; refine wpList_append_ev _ rfl _ _ 22 rfl _ _ rfl rfl _ (run_app1 wr infoInt rfl _ HO.out 3 [.int .i64 _] _ rfl (by omega) (by omega) HB.out.size) ?_; rintro n2 w2 ⟨ow2, g2, v2, _⟩; have B2 := Lib.hid (HB.out.grown g2 HB.out.size (fun k hk => (HO.out.lt k hk).1)))
          | fail)
        go_roundw
        case rel =>
          refine ⟨k + 1, by omega, by go_num, ?_, B2.out⟩
          show Own _ _ _ _ _ _ _
          rw [HF.out, HX.out]
          exact ow2
        case measure => simp [intOf]; omega
    · go_wp2
      go_ret
      have hfin := HO.out
      have e1 : (ofL l).take k = ofL l := List.take_of_length_le (by omega)
      rw [e1] at hfin
      exact ⟨_, rfl, hfin.mono (fun _ _ h => h) HB1.out.size, below_both HB1.out HB.out⟩
end Go.Proofs.Sat
