/- The walk of proof.Join. -/
import Derived.Test.YtgjdpjefoaohkaaDoorPrI
set_option linter.unusedVariables false
set_option linter.unusedSimpArgs false
namespace Go.Proofs.Sat
open Go Go.RowKit
/-- A step whose Refs are moved up. -/
def shiftS (n : Nat) (x : St) : St := { x with refs := x.refs.map fun r => wrap64 (r + n) }
def joinL (l1 l2 : List St) : List St := l1 ++ l2.map (shiftS l1.length)
/-- The row of moved Refs in the midst of the rounds. -/
def shRow (n : Nat) (refs : List Int) (k : Nat) : List Int := (refs.take k).map (fun r => wrap64 (r + n)) ++ List.replicate (refs.length - k) 0
theorem shRow_length (n : Nat) (refs : List Int) {k : Nat} (hk : k ≤ refs.length) : (shRow n refs k).length = refs.length := by
  unfold shRow
  rw [List.length_append, List.length_map, List.length_take, List.length_replicate]; omega
theorem shRow_succ (n : Nat) (refs : List Int) {k : Nat} (hk : k < refs.length) : (shRow n refs k).set k (wrap64 (refs[k] + n)) = shRow n refs (k + 1) := by
  unfold shRow
  have hl : ((refs.take k).map (fun r => wrap64 (r + (n : Int)))).length = k := by rw [List.length_map, List.length_take]; omega
  rw [List.set_append_right _ _ (by omega), hl, Nat.sub_self, show refs.length - k = (refs.length - (k + 1)) + 1 from by omega, List.replicate_succ, List.set_cons_zero, List.take_succ_eq_append_getElem hk, List.map_append, List.append_assoc]
  rfl
def joinK (l1 l2 : List St) (k : Nat) : List St := l1 ++ (l2.take k).map (shiftS l1.length)
theorem joinK_zero (l1 l2 : List St) : joinK l1 l2 0 = l1 := by simp [joinK]
theorem joinK_succ (l1 l2 : List St) {k : Nat} (hk : k < l2.length) : joinK l1 l2 (k + 1) = joinK l1 l2 k ++ [shiftS l1.length l2[k]] := by
  unfold joinK
  rw [List.take_succ_eq_append_getElem hk, List.map_append, List.append_assoc]
  rfl
theorem joinK_length (l1 l2 : List St) {k : Nat} (hk : k ≤ l2.length) : (joinK l1 l2 k).length = l1.length + k := by
  unfold joinK
  rw [List.length_append, List.length_map, List.length_take, Nat.min_eq_left hk]
theorem joinK_all (l1 l2 : List St) : joinK l1 l2 l2.length = joinL l1 l2 := by
  unfold joinK joinL
  rw [List.take_length]
set_option maxRecDepth 20000 in
set_option maxHeartbeats 4000000 in
theorem proof_Join (S1 S2 : Nat → Prop) (a1 a2 : Option Addr) (c1 c2 : Nat) (l1 l2 : List St) (w : World) (h1 : Rd kSt S1 w a1 c1 l1) (h2 : Rd kSt S2 w a2 c2 l2) (hL1 : ∀ x ∈ l1, Lite x) (hL2 : ∀ x ∈ l2, Lite x) (hn1 : l1.length ≤ 65536) (hn2 : l2.length ≤ 65536) :
    Calls Tryd.prog 21 #[.slice a1 l1.length c1, .slice a2 l2.length c2] w fun e w' => ∃ v, e = .returned v ∧ Own kSt 36 (fun b => w.heap.size ≤ b) w' w.heap.size v (joinL l1 l2) ∧ Below w.heap.size w w' := by
  have hl1 := h1.le
  have hl2 := h2.le
  go_enter Tryd.func21, Tryd.ntmps21
  go_wp2
  go_loopw [5, 15] (fun v i wr => ∃ k : Nat, k ≤ l1.length ∧ i = .int .i64 k ∧ Hid (Own kSt 36 (fun b => w.heap.size ≤ b) wr w.heap.size v (l1.take k)) ∧ Hid (Below w.heap.size w wr)) (fun _ i _ => l1.length - (intOf i).toNat)
  case atStart => exact ⟨0, by omega, rfl, Own.nil _ _ _ _ _, Below.refl _ _⟩
  case round =>
    obtain ⟨k, hk, rfl, HO, HB⟩ := hrel
    obtain ⟨av, cv, hv⟩ := HO.out.form
    rw [List.length_take, Nat.min_eq_left hk] at hv
    subst hv
    by_cases hlt : k < l1.length
    · obtain ⟨b, o, p, rfl, hbl, hr, IN⟩ := st_elem h1 hlt
      have HX : Hid (l1.take (k + 1) = l1.take k ++ [l1[k]]) := List.take_succ_eq_append_getElem hlt
      have hlx := Lib.hid (hL1 _ (List.getElem_mem hlt))
      have hla : (l1.take k).length ≤ 65536 := by rw [List.length_take]; omega
      generalize l1[k] = x at *
      obtain ⟨ra, rc, sa, sc, aa, ac, ba, bc⟩ := p
      obtain ⟨i0, i1, i2, i3, i4, i5, i6, i7, i8, i9, i10, i11, i12, i13⟩ := IN.frame (HB.out.block _ hbl)
      have hrl := hr.refs.le
      have hsl := hr.subs.le
      have hal := hr.a.le
      have hbl2 := hr.b.le
      have hr0 := Lib.hid hr
      dsimp only at *
      clear hr IN
      go_wp2_with fail
      have HNW := Lib.hid (heap_alloc_new wr (.cells #[.int .i64 x.kind, .slice ra x.refs.length rc, .int .i64 x.rule, .slice sa x.subs.length sc, .int .i64 x.a.op, .int .i64 x.a.width, .int .u64 x.a.val, .string x.a.name, .slice aa x.a.args.length ac, .int .i64 x.b.op, .int .i64 x.b.width, .int .u64 x.b.val, .string x.b.name, .slice ba x.b.args.length bc] 36))
      have S0 := Lib.hid (Same.alloc (fun _ => True) wr (.cells #[.int .i64 x.kind, .slice ra x.refs.length rc, .int .i64 x.rule, .slice sa x.subs.length sc, .int .i64 x.a.op, .int .i64 x.a.width, .int .u64 x.a.val, .string x.a.name, .slice aa x.a.args.length ac, .int .i64 x.b.op, .int .i64 x.b.width, .int .u64 x.b.val, .string x.b.name, .slice ba x.b.args.length bc] 36))
      have BW0 := Lib.hid (below_alloc HB.out (.cells #[.int .i64 x.kind, .slice ra x.refs.length rc, .int .i64 x.rule, .slice sa x.subs.length sc, .int .i64 x.a.op, .int .i64 x.a.width, .int .u64 x.a.val, .string x.a.name, .slice aa x.a.args.length ac, .int .i64 x.b.op, .int .i64 x.b.width, .int .u64 x.b.val, .string x.b.name, .slice ba x.b.args.length bc] 36))
      have z0 : Hid (wr.heap.size + 1 = (wr.alloc (.cells #[.int .i64 x.kind, .slice ra x.refs.length rc, .int .i64 x.rule, .slice sa x.subs.length sc, .int .i64 x.a.op, .int .i64 x.a.width, .int .u64 x.a.val, .string x.a.name, .slice aa x.a.args.length ac, .int .i64 x.b.op, .int .i64 x.b.width, .int .u64 x.b.val, .string x.b.name, .slice ba x.b.args.length bc] 36)).heap.size) := by show _ = _; simp
      clear i0 i1 i2 i3 i4 i5 i6 i7 i8 i9 i10 i11 i12 i13
      generalize wr.alloc (.cells #[.int .i64 x.kind, .slice ra x.refs.length rc, .int .i64 x.rule, .slice sa x.subs.length sc, .int .i64 x.a.op, .int .i64 x.a.width, .int .u64 x.a.val, .string x.a.name, .slice aa x.a.args.length ac, .int .i64 x.b.op, .int .i64 x.b.width, .int .u64 x.b.val, .string x.b.name, .slice ba x.b.args.length bc] 36) = V0 at *
      have D0 := Lib.hid (st_flat HNW.out)
      have hr1 := Lib.hid (hr0.out.frame (Same.below BW0.out))
      go_region_held3 (fun w' => w'.cell? ⟨wr.heap.size, 0, none⟩ = some (.int .i64 x.kind) ∧ w'.cell? ⟨wr.heap.size, 1, none⟩ = some (.slice ra x.refs.length rc) ∧ w'.cell? ⟨wr.heap.size, 2, none⟩ = some (.int .i64 x.rule) ∧ w'.cell? ⟨wr.heap.size, 3, none⟩ = some (.slice sa x.subs.length sc) ∧ w'.cell? ⟨wr.heap.size, 4, none⟩ = some (.int .i64 x.a.op) ∧ w'.cell? ⟨wr.heap.size, 5, none⟩ = some (.int .i64 x.a.width) ∧ w'.cell? ⟨wr.heap.size, 6, none⟩ = some (.int .u64 x.a.val) ∧ w'.cell? ⟨wr.heap.size, 7, none⟩ = some (.string x.a.name) ∧ w'.cell? ⟨wr.heap.size, 8, none⟩ = some (.slice aa x.a.args.length ac) ∧ w'.cell? ⟨wr.heap.size, 9, none⟩ = some (.int .i64 x.b.op) ∧ w'.cell? ⟨wr.heap.size, 10, none⟩ = some (.int .i64 x.b.width) ∧ w'.cell? ⟨wr.heap.size, 11, none⟩ = some (.int .u64 x.b.val) ∧ w'.cell? ⟨wr.heap.size, 12, none⟩ = some (.string x.b.name) ∧ w'.cell? ⟨wr.heap.size, 13, none⟩ = some (.slice ba x.b.args.length bc)) (first | exact D0.out | exact D1.out | exact D2.out | exact D2a.out _ | exact D3.out)
        (first
        | (go_at_call 37
           refine (sl_Clone S1 ra rc x.refs _ (by first | exact hr1.out.refs | exact hr1.out.refs.frame (Same.drewN _ _ _)) hlx.out.r).mono ?_
           rintro e w2 ⟨vr, rfl, or2, b2⟩
           obtain ⟨fa, fc, rfl, rr⟩ := or2.rd
           have B2 : Hid (Below V0.heap.size V0 w2) := by first | exact b2 | exact below_both (below_drewN (Below.refl V0.heap.size V0) _) b2
           have D1 := Lib.hid (st_flat ((B2.out.block wr.heap.size (by have := z0.out; omega)).trans HNW.out))
           have RR : Hid (Rd (Kd.int .i64) (fun b => V0.heap.size ≤ b) w2 fa fc x.refs) := rr.mono fun b _ hb => by rcases hb with hb | hb; exact hb.elim; exact hb
           have hr2 := Lib.hid (hr1.out.frame (Same.below B2.out))
           clear or2 b2 rr)
        | (go_at_call 36
           refine (proof_clone' S1 x ⟨ra, rc, sa, sc, aa, ac, ba, bc⟩ fa fc x.refs w2 hr2.out hlx.out V0.heap.size B2.out.size RR.out).mono ?_
           rintro e w3 ⟨p', rfl, k3, b3⟩
           have B3 := Lib.hid (below_both B2.out b3)
           have D2 := Lib.hid (st_flat ((B3.out.block wr.heap.size (by have := z0.out; omega)).trans HNW.out))
           have D2a := Lib.hid (fun ob => st_flat (block_alloc ((B3.out.block wr.heap.size (by have := z0.out; omega)).trans HNW.out) ob))
           have O3 := Lib.hid ((HO.out.same (S0.out.mono fun _ _ => trivial)).below B3.out)
           have K3 : Hid (kSt.K (fun b => w.heap.size ≤ b ∧ some b ≠ (Value.slice av k cv).ownBlock) w3 (stCells x p') x) := kSt.mono (fun b _ hb => ⟨Nat.le_trans BW0.out.size hb, fun e => by have := (HO.out.lt b e.symm).2; have := z0.out; have hb' : V0.heap.size ≤ b := hb; omega⟩) k3
           have B3' := Lib.hid (below_then BW0.out BW0.out.size B3.out)
           clear k3 b3)
        | ((with_reducible refine gate_s (.tmp 19) (.tmp 25) rfl ?_)
           refine step_append_ev _ rfl (.tmp 19) (.tmp 25) 27 rfl _ _ rfl rfl _ (run_app1 w3 infoSt rfl _ O3.out 36 (stCells x p') x K3.out (by omega) (by omega) B3'.out.size) ?_
           rintro n2 w4 ⟨ow4, g4, v4, _⟩
           have O4 : Hid (Own kSt 36 (fun b => w.heap.size ≤ b) w4 w.heap.size n2 (l1.take k ++ [x])) := ow4
           have B4 := Lib.hid (B3'.out.grown g4 B3'.out.size (fun k hk => (HO.out.lt k hk).1))
           have D3 := Lib.hid (st_flat (block_grown g4 ((B3.out.block wr.heap.size (by have := z0.out; omega)).trans HNW.out) (fun e => by have := (HO.out.lt _ e.symm).2; omega)))
           clear ow4 g4 v4)
        | fail)
      go_wp2
      go_roundw
      case rel =>
        refine ⟨k + 1, by omega, by go_num, ?_, B4.out⟩
        show Own _ _ _ _ _ _ _
        rw [HX.out]
        exact O4.out
      case measure => simp [intOf]; omega
    · obtain rfl : k = l1.length := by omega
      have HO1 : Hid (Own kSt 36 (fun b => w.heap.size ≤ b) wr w.heap.size (.slice av l1.length cv) (joinK l1 l2 0)) := by
        have := HO.out
        rw [List.take_length] at this
        rw [joinK_zero]
        exact this
      have HBB := Lib.hid HB.out
      clear HO HB
      go_wp2
      go_loopw [5, 30] (fun v i wr => ∃ k : Nat, k ≤ l2.length ∧ i = .int .i64 k ∧ Hid (Own kSt 36 (fun b => w.heap.size ≤ b) wr w.heap.size v (joinK l1 l2 k)) ∧ Hid (Below w.heap.size w wr)) (fun _ i _ => l2.length - (intOf i).toNat)
      case atStart => exact ⟨0, by omega, rfl, HO1.out, HBB.out⟩
      case round =>
        obtain ⟨k, hk, rfl, HO, HB⟩ := hrel
        obtain ⟨av2, cv2, hv⟩ := HO.out.form
        have hjl := joinK_length l1 l2 hk
        rw [hjl] at hv
        subst hv
        by_cases hlt : k < l2.length
        · obtain ⟨b, o, p, rfl, hbl, hr, IN⟩ := st_elem h2 hlt
          have HX := Lib.hid (joinK_succ l1 l2 hlt)
          have hlx := Lib.hid (hL2 _ (List.getElem_mem hlt))
          generalize l2[k] = x at *
          obtain ⟨ra, rc, sa, sc, aa, ac, ba, bc⟩ := p
          obtain ⟨i0, i1, i2, i3, i4, i5, i6, i7, i8, i9, i10, i11, i12, i13⟩ := IN.frame (HB.out.block _ hbl)
          have hrl := hlx.out.r
          have hr0 := Lib.hid hr
          dsimp only at *
          clear hr IN
          have HNW := Lib.hid (heap_alloc_new wr (.cells #[.int .i64 x.kind, .slice ra x.refs.length rc, .int .i64 x.rule, .slice sa x.subs.length sc, .int .i64 x.a.op, .int .i64 x.a.width, .int .u64 x.a.val, .string x.a.name, .slice aa x.a.args.length ac, .int .i64 x.b.op, .int .i64 x.b.width, .int .u64 x.b.val, .string x.b.name, .slice ba x.b.args.length bc] 36))
          have S0 := Lib.hid (Same.alloc (fun _ => True) wr (.cells #[.int .i64 x.kind, .slice ra x.refs.length rc, .int .i64 x.rule, .slice sa x.subs.length sc, .int .i64 x.a.op, .int .i64 x.a.width, .int .u64 x.a.val, .string x.a.name, .slice aa x.a.args.length ac, .int .i64 x.b.op, .int .i64 x.b.width, .int .u64 x.b.val, .string x.b.name, .slice ba x.b.args.length bc] 36))
          have BW0 := Lib.hid (below_alloc HB.out (.cells #[.int .i64 x.kind, .slice ra x.refs.length rc, .int .i64 x.rule, .slice sa x.subs.length sc, .int .i64 x.a.op, .int .i64 x.a.width, .int .u64 x.a.val, .string x.a.name, .slice aa x.a.args.length ac, .int .i64 x.b.op, .int .i64 x.b.width, .int .u64 x.b.val, .string x.b.name, .slice ba x.b.args.length bc] 36))
          have z0 : Hid (wr.heap.size + 1 = (wr.alloc (.cells #[.int .i64 x.kind, .slice ra x.refs.length rc, .int .i64 x.rule, .slice sa x.subs.length sc, .int .i64 x.a.op, .int .i64 x.a.width, .int .u64 x.a.val, .string x.a.name, .slice aa x.a.args.length ac, .int .i64 x.b.op, .int .i64 x.b.width, .int .u64 x.b.val, .string x.b.name, .slice ba x.b.args.length bc] 36)).heap.size) := by show _ = _; simp
          have OV := Lib.hid (HO.out.alloc (.cells #[.int .i64 x.kind, .slice ra x.refs.length rc, .int .i64 x.rule, .slice sa x.subs.length sc, .int .i64 x.a.op, .int .i64 x.a.width, .int .u64 x.a.val, .string x.a.name, .slice aa x.a.args.length ac, .int .i64 x.b.op, .int .i64 x.b.width, .int .u64 x.b.val, .string x.b.name, .slice ba x.b.args.length bc] 36))
          have hlow : ∀ q, (Value.slice av2 (l1.length + k) cv2).ownBlock = some q → w.heap.size ≤ q ∧ q < wr.heap.size := HO.out.lt
          have HLOW := Lib.hid hlow
          have hr1 := Lib.hid (hr0.out.frame (Same.below BW0.out))
          clear hlow
          go_wp2_with (first
            | ((with_reducible refine gate_m 28 (.tmp 36) (.tmp 36) rfl ?_); refine wpList_make_ev _ rfl (.tmp 36) (.tmp 36) 28 rfl _ _ rfl rfl _ (run_mk (wr.alloc (.cells #[.int .i64 x.kind, .slice ra x.refs.length rc, .int .i64 x.rule, .slice sa x.subs.length sc, .int .i64 x.a.op, .int .i64 x.a.width, .int .u64 x.a.val, .string x.a.name, .slice aa x.a.args.length ac, .int .i64 x.b.op, .int .i64 x.b.width, .int .u64 x.b.val, .string x.b.name, .slice ba x.b.args.length bc] 36)) (enc := fun x => .int .i64 x) (fun _ => rfl) infoInt NoS _ _ _ _ x.refs.length rfl rfl (by omega) (by omega) (Nat.le_refl _)) ?_; rintro v' w3 ⟨ho, hg, hv'⟩
               have B3 : Hid (Below (wr.alloc (.cells #[.int .i64 x.kind, .slice ra x.refs.length rc, .int .i64 x.rule, .slice sa x.subs.length sc, .int .i64 x.a.op, .int .i64 x.a.width, .int .u64 x.a.val, .string x.a.name, .slice aa x.a.args.length ac, .int .i64 x.b.op, .int .i64 x.b.width, .int .u64 x.b.val, .string x.b.name, .slice ba x.b.args.length bc] 36)).heap.size (wr.alloc (.cells #[.int .i64 x.kind, .slice ra x.refs.length rc, .int .i64 x.rule, .slice sa x.subs.length sc, .int .i64 x.a.op, .int .i64 x.a.width, .int .u64 x.a.val, .string x.a.name, .slice aa x.a.args.length ac, .int .i64 x.b.op, .int .i64 x.b.width, .int .u64 x.b.val, .string x.b.name, .slice ba x.b.args.length bc] 36)) w3) := (Below.refl _ _).grown hg (Nat.le_refl _) (fun k hk => by cases hk)
               obtain rfl : v' = .slice (some ⟨wr.heap.size + 1, 0, none⟩) x.refs.length x.refs.length := hv'.trans (by simp)
               have HR3 : Hid (Own (Kd.int .i64) 3 NoS w3 (wr.alloc (.cells #[.int .i64 x.kind, .slice ra x.refs.length rc, .int .i64 x.rule, .slice sa x.subs.length sc, .int .i64 x.a.op, .int .i64 x.a.width, .int .u64 x.a.val, .string x.a.name, .slice aa x.a.args.length ac, .int .i64 x.b.op, .int .i64 x.b.width, .int .u64 x.b.val, .string x.b.name, .slice ba x.b.args.length bc] 36)).heap.size (.slice (some ⟨wr.heap.size + 1, 0, none⟩) x.refs.length x.refs.length) (shRow l1.length x.refs 0)) := ho
               have cq1 := (st_block ((B3.out.block wr.heap.size (by have := z0.out; omega)).trans HNW.out)).1.2.1
               clear ho hg hv')
            | fail)
          clear cq1 i0 i1 i2 i3 i4 i5 i6 i7 i8 i9 i10 i11 i12 i13
          generalize wr.alloc (.cells #[.int .i64 x.kind, .slice ra x.refs.length rc, .int .i64 x.rule, .slice sa x.subs.length sc, .int .i64 x.a.op, .int .i64 x.a.width, .int .u64 x.a.val, .string x.a.name, .slice aa x.a.args.length ac, .int .i64 x.b.op, .int .i64 x.b.width, .int .u64 x.b.val, .string x.b.name, .slice ba x.b.args.length bc] 36) = V0 at *
          generalize wr.heap.size = Q at *
          go_loopw [41] (fun i wr => ∃ j : Nat, j ≤ x.refs.length ∧ i = .int .i64 j ∧ Hid (Own (Kd.int .i64) 3 NoS wr V0.heap.size (.slice (some ⟨Q + 1, 0, none⟩) x.refs.length x.refs.length) (shRow l1.length x.refs j)) ∧ Hid (Below V0.heap.size V0 wr)) (fun i _ => x.refs.length - (intOf i).toNat)
          case atStart => exact ⟨0, by omega, rfl, HR3.out, B3.out⟩
          case round =>
            obtain ⟨j, hj, rfl, HO2, HB2⟩ := hrel
            by_cases hlt2 : j < x.refs.length
            · obtain ⟨b2, o2, rfl, _, _, hc⟩ := (hr1.out.refs.frame (Same.below HB2.out)).vals (by omega) 0
              have d := hc j hlt2
              rw [getD_at x.refs hlt2] at d
              have HMS := Lib.hid (shRow_succ l1.length x.refs hlt2)
              have HML : Hid ((shRow l1.length x.refs j).length = x.refs.length) := shRow_length l1.length x.refs hj
              generalize x.refs[j] = r at *
              obtain ⟨hat, hfr⟩ := HO2.out.at HML.out
              have u2 := hat j (by rw [HML.out]; exact hlt2)
              have u3 := hfr j
              have HSET := Lib.hid (fun v => HO2.out.set HML.out j hlt2 v)
              clear hc hat hfr
              go_wp2
              go_roundw
              case rel =>
                refine ⟨j + 1, by omega, by go_num, ?_, HB2.out.setCell (by show V0.heap.size ≤ Q + 1; have := z0.out; omega) _⟩
                show Own _ _ _ _ _ _ _
                rw [← HMS.out]
                exact HSET.out (wrap64 (r + l1.length))
              case measure => simp [intOf]; omega
            · obtain rfl : j = x.refs.length := by omega
              have BW := Lib.hid (below_then BW0.out BW0.out.size HB2.out)
              have hr2 := Lib.hid (hr1.out.frame (Same.below HB2.out))
              obtain ⟨i0, i1, i2, i3, i4, i5, i6, i7, i8, i9, i10, i11, i12, i13⟩ := st_flat ((HB2.out.block Q (by have := z0.out; omega)).trans HNW.out)
              have HO3 : Hid (Own (Kd.int .i64) 3 NoS wr V0.heap.size (.slice (some ⟨Q + 1, 0, none⟩) x.refs.length x.refs.length) (shiftS l1.length x).refs) := by
                have := HO2.out
                unfold shRow at this
                rw [List.take_length, Nat.sub_self, List.replicate_zero, List.append_nil] at this
                exact this
              have RR' : Hid (Rd (Kd.int .i64) (fun b => V0.heap.size ≤ b) wr (some ⟨Q + 1, 0, none⟩) x.refs.length (shiftS l1.length x).refs) := (Own.rd' HO3.out).mono (S' := fun b => V0.heap.size ≤ b) fun b _ hb => by rcases hb with hb | hb; exact hb.elim; exact hb
              have HML : Hid ((shiftS l1.length x).refs.length = x.refs.length) := by show _ = _; simp [shiftS]
              clear HO2 HO3
              go_wp2_with (first
                | (go_at_call 36
                   refine (proof_clone_n S2 x ⟨ra, rc, sa, sc, aa, ac, ba, bc⟩ (some ⟨Q + 1, 0, none⟩) x.refs.length x.refs.length (shiftS l1.length x).refs HML.out wr hr2.out hlx.out V0.heap.size HB2.out.size RR'.out).mono ?_
                   rintro e w4 ⟨p', rfl, k4, b4⟩
                   have BV4 := Lib.hid (below_both HB2.out b4)
                   have B4 := Lib.hid (below_both BW.out b4)
                   have O4 := Lib.hid (OV.out.below BV4.out)
                   have K4 : Hid (kSt.K (fun b => w.heap.size ≤ b ∧ some b ≠ (Value.slice av2 (l1.length + k) cv2).ownBlock) w4 (stCells (shiftS l1.length x) p') (shiftS l1.length x)) := kSt.mono (fun b _ hb => ⟨by have hb' : V0.heap.size ≤ b := hb; have := BW0.out.size; omega, fun e => by have := (HLOW.out b e.symm).2; have hb' : V0.heap.size ≤ b := hb; have := z0.out; omega⟩) k4
                   clear k4 b4)
                | (at_builtin
                   refine wpList_append_ev _ rfl _ _ 27 rfl _ _ rfl rfl _ (run_app1 w4 infoSt rfl _ O4.out 36 (stCells (shiftS l1.length x) p') (shiftS l1.length x) K4.out (by omega) (by omega) B4.out.size) ?_
                   rintro n2 w5 ⟨ow5, g5, v5, _⟩
                   have O5 : Hid (Own kSt 36 (fun b => w.heap.size ≤ b) w5 w.heap.size n2 (joinK l1 l2 k ++ [shiftS l1.length x])) := ow5
                   have B5 := Lib.hid (B4.out.grown g5 B4.out.size (fun k hk => (HLOW.out k hk).1))
                   clear ow5 g5 v5)
                | fail)
              go_roundw
              case rel =>
                refine ⟨k + 1, by omega, by go_num, ?_, B5.out⟩
                show Own _ _ _ _ _ _ _
                rw [HX.out]
                exact O5.out
              case measure => simp [intOf]; omega
        · obtain rfl : k = l2.length := by omega
          have HF := HO.out
          rw [joinK_all] at HF
          have HF' := Lib.hid HF
          clear HF
          go_wp2
          go_ret
          exact ⟨_, rfl, HF'.out, HB.out⟩
end Go.Proofs.Sat
