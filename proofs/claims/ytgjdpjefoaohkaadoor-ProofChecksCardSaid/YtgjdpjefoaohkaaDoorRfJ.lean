/- The walk of the reference's Join. -/
import Derived.Test.YtgjdpjefoaohkaaDoorPrK
import Derived.Test.YtgjdpjefoaohkaaDoorRfT
set_option linter.unusedVariables false
set_option linter.unusedSimpArgs false
namespace Go.Proofs.Sat
open Go Go.RowKit
/-- append of one, the world's size told. -/
theorem run_app1_at {P : Program} {α : Type} {d : Kd α} (H : Nat) (w : World) (hH : w.heap.size = H) {t e : TypeId} {z : Value} {size bytes : Nat} (I : ElemInfo P t e z size bytes) (hd : d.sz = size) (ty : TypeId) {S : Nat → Prop} {base : Nat} {v : Value} {xs : List α} (hown : Own d e S w base v xs)
    (t0 : TypeId) (cs : List Value) (x : α) (hk : d.K (fun b => S b ∧ some b ≠ v.ownBlock) w cs x) (hb : (xs.length + 1) * bytes ≤ 140737488355328) (h63 : xs.length + 1 ≤ 9223372036854775807) (hbase : base ≤ w.heap.size) :
    ∃ v' w', (Builtin.append_ #[t, t] ty #[v, .slice (some ⟨H, 0, none⟩) 1 1]).run P (w.alloc (.cells cs.toArray t0)) = .ok v' w' ∧ Own d e S w' base v' (xs ++ [x]) ∧ w.grownBy w' v.ownBlock ∧
      (v'.ownBlock = v.ownBlock ∨ ∀ k, v'.ownBlock = some k → w.heap.size ≤ k) ∧ ∃ a c, v' = .slice a (xs.length + 1) c := by
  subst hH
  exact run_app1 w I hd ty hown t0 cs x hk hb h63 hbase
set_option maxRecDepth 20000 in
set_option maxHeartbeats 2000000 in
theorem ref34_Join (S1 S2 : Nat → Prop) (a1 a2 : Option Addr) (c1 c2 : Nat) (l1 l2 : List St) (w : World) (h1 : Rd kSt S1 w a1 c1 l1) (h2 : Rd kSt S2 w a2 c2 l2) (hL1 : ∀ x ∈ l1, Lite x) (hL2 : ∀ x ∈ l2, Lite x) (hn1 : l1.length ≤ 65536) (hn2 : l2.length ≤ 65536) :
    Calls Tryd.prog 22 #[.slice a1 l1.length c1, .slice a2 l2.length c2] w fun e w' => ∃ v, e = .returned v ∧ Own kSt 36 (fun _ => True) w' w.heap.size v (joinL l1 l2) ∧ Below w.heap.size w w' := by
  have hl1 := h1.le
  have hl2 := h2.le
  go_enter Tryd.func22, Tryd.ntmps22
  go_wp2_with (first
    | (at_builtin; refine wpList_append_ev _ rfl _ _ 27 rfl _ _ rfl rfl _ (run_app_rd w infoSt rfl _ (Own.nil kSt 36 (fun _ => True) w w.heap.size) a1 c1 l1.length l1 rfl h1 (fun cs x hk => kSt.mono (fun b _ _ => ⟨trivial, fun e => by cases e⟩) hk) (by simp; omega) (by simp; omega) (Nat.le_refl _)) ?_; rintro n2 w1 ⟨ow, g1, v1⟩
       have O1 : Hid (Own kSt 36 (fun _ => True) w1 w.heap.size n2 (joinK l1 l2 0)) := by rw [joinK_zero]; exact ow
       have B1 := Lib.hid ((Below.refl w.heap.size w).grown g1 (Nat.le_refl _) (fun k hk => by cases hk))
       clear ow g1 v1)
    | fail)
  go_loopw [5, 6] (fun v i wr => ∃ k : Nat, k ≤ l2.length ∧ i = .int .i64 k ∧ Hid (Own kSt 36 (fun _ => True) wr w.heap.size v (joinK l1 l2 k)) ∧ Hid (Below w.heap.size w wr)) (fun _ i _ => l2.length - (intOf i).toNat)
  case atStart => exact ⟨0, by omega, rfl, O1.out, B1.out⟩
  case round =>
    obtain ⟨k, hk, rfl, HO, HB⟩ := hrel
    obtain ⟨av, cv, hv⟩ := HO.out.form
    have hjl := joinK_length l1 l2 hk
    rw [hjl] at hv
    subst hv
    by_cases hlt : k < l2.length
    · obtain ⟨b, o, p, rfl, hbl, hr, IN⟩ := st_elem h2 hlt
      have HX := Lib.hid (joinK_succ l1 l2 hlt)
      have hlx := Lib.hid (hL2 _ (List.getElem_mem hlt))
      generalize l2[k] = x at *
      obtain ⟨ra, rc, sa, sc, aa, ac, ba, bc⟩ := p
      obtain ⟨i0, i1, i2, i3, i4, i5, i6, i7, i8, i9, i10, i11, i12, i13⟩ := IN.frame (HB.out.block _ hbl)
      have hrl := hlx.out.r
      have hr0 := Lib.hid (hr.mono (S' := fun b => b < w.heap.size) fun b hb _ => hb)
      dsimp only at *
      clear hr IN
      have HNW := Lib.hid (heap_alloc_new wr (.cells #[.int .i64 x.kind, .slice ra x.refs.length rc, .int .i64 x.rule, .slice sa x.subs.length sc, .int .i64 x.a.op, .int .i64 x.a.width, .int .u64 x.a.val, .string x.a.name, .slice aa x.a.args.length ac, .int .i64 x.b.op, .int .i64 x.b.width, .int .u64 x.b.val, .string x.b.name, .slice ba x.b.args.length bc] 36))
      have S0 := Lib.hid (Same.alloc (fun _ => True) wr (.cells #[.int .i64 x.kind, .slice ra x.refs.length rc, .int .i64 x.rule, .slice sa x.subs.length sc, .int .i64 x.a.op, .int .i64 x.a.width, .int .u64 x.a.val, .string x.a.name, .slice aa x.a.args.length ac, .int .i64 x.b.op, .int .i64 x.b.width, .int .u64 x.b.val, .string x.b.name, .slice ba x.b.args.length bc] 36))
      have BW0 := Lib.hid (below_alloc HB.out (.cells #[.int .i64 x.kind, .slice ra x.refs.length rc, .int .i64 x.rule, .slice sa x.subs.length sc, .int .i64 x.a.op, .int .i64 x.a.width, .int .u64 x.a.val, .string x.a.name, .slice aa x.a.args.length ac, .int .i64 x.b.op, .int .i64 x.b.width, .int .u64 x.b.val, .string x.b.name, .slice ba x.b.args.length bc] 36))
      have z0 : Hid (wr.heap.size + 1 = (wr.alloc (.cells #[.int .i64 x.kind, .slice ra x.refs.length rc, .int .i64 x.rule, .slice sa x.subs.length sc, .int .i64 x.a.op, .int .i64 x.a.width, .int .u64 x.a.val, .string x.a.name, .slice aa x.a.args.length ac, .int .i64 x.b.op, .int .i64 x.b.width, .int .u64 x.b.val, .string x.b.name, .slice ba x.b.args.length bc] 36)).heap.size) := by show _ = _; simp
      have zw : Hid (w.heap.size ≤ wr.heap.size) := HB.out.size
      have OV := Lib.hid (HO.out.alloc (.cells #[.int .i64 x.kind, .slice ra x.refs.length rc, .int .i64 x.rule, .slice sa x.subs.length sc, .int .i64 x.a.op, .int .i64 x.a.width, .int .u64 x.a.val, .string x.a.name, .slice aa x.a.args.length ac, .int .i64 x.b.op, .int .i64 x.b.width, .int .u64 x.b.val, .string x.b.name, .slice ba x.b.args.length bc] 36))
      have hlow : ∀ q, (Value.slice av (l1.length + k) cv).ownBlock = some q → w.heap.size ≤ q ∧ q < wr.heap.size := HO.out.lt
      have HLOW := Lib.hid hlow
      have HOQ0 : Hid (∀ W, Below (wr.alloc (.cells #[.int .i64 x.kind, .slice ra x.refs.length rc, .int .i64 x.rule, .slice sa x.subs.length sc, .int .i64 x.a.op, .int .i64 x.a.width, .int .u64 x.a.val, .string x.a.name, .slice aa x.a.args.length ac, .int .i64 x.b.op, .int .i64 x.b.width, .int .u64 x.b.val, .string x.b.name, .slice ba x.b.args.length bc] 36)).heap.size (wr.alloc (.cells #[.int .i64 x.kind, .slice ra x.refs.length rc, .int .i64 x.rule, .slice sa x.subs.length sc, .int .i64 x.a.op, .int .i64 x.a.width, .int .u64 x.a.val, .string x.a.name, .slice aa x.a.args.length ac, .int .i64 x.b.op, .int .i64 x.b.width, .int .u64 x.b.val, .string x.b.name, .slice ba x.b.args.length bc] 36)) W → Own kSt 36 (fun b => b < wr.heap.size) W w.heap.size (.slice av (l1.length + k) cv) (joinK l1 l2 k)) := fun W hW => ((HO.out.mono (fun b hb _ => hb) (Nat.le_refl _)).alloc (.cells #[.int .i64 x.kind, .slice ra x.refs.length rc, .int .i64 x.rule, .slice sa x.subs.length sc, .int .i64 x.a.op, .int .i64 x.a.width, .int .u64 x.a.val, .string x.a.name, .slice aa x.a.args.length ac, .int .i64 x.b.op, .int .i64 x.b.width, .int .u64 x.b.val, .string x.b.name, .slice ba x.b.args.length bc] 36)).below hW
      have hr1 := Lib.hid (hr0.out.frame (Same.below BW0.out))
      clear hlow
      go_wp2_with fail
      clear i0 i1 i2 i3 i4 i5 i6 i7 i8 i9 i10 i11 i12 i13
      generalize wr.alloc (.cells #[.int .i64 x.kind, .slice ra x.refs.length rc, .int .i64 x.rule, .slice sa x.subs.length sc, .int .i64 x.a.op, .int .i64 x.a.width, .int .u64 x.a.val, .string x.a.name, .slice aa x.a.args.length ac, .int .i64 x.b.op, .int .i64 x.b.width, .int .u64 x.b.val, .string x.b.name, .slice ba x.b.args.length bc] 36) = V0 at *
      generalize wr.heap.size = Q at *
      go_loopw [8, 9] (fun v i wr => ∃ j : Nat, j ≤ x.refs.length ∧ i = .int .i64 j ∧ Hid (Own (Kd.int .i64) 3 NoS wr V0.heap.size v ((x.refs.take j).map (fun r => wrap64 (r + (l1.length : Int))))) ∧ Hid (Below V0.heap.size V0 wr)) (fun _ i _ => x.refs.length - (intOf i).toNat)
      case atStart => exact ⟨0, by omega, rfl, Own.nil _ _ _ _ _, Below.refl _ _⟩
      case round =>
        obtain ⟨j, hj, rfl, HO2, HB2⟩ := hrel
        have HQ : Hid (wr.heap[Q]? = _) := (HB2.out.block Q (by have := z0.out; omega)).trans HNW.out
        have hq1 := (st_block HQ.out).1.2.1
        by_cases hlt2 : j < x.refs.length
        · obtain ⟨b2, o2, rfl, _, _, hc⟩ := (hr1.out.refs.frame (Same.below HB2.out)).vals (by omega) 0
          have d := hc j hlt2
          rw [getD_at x.refs hlt2] at d
          have HT : Hid ((x.refs.take (j + 1)).map (fun r => wrap64 (r + (l1.length : Int))) = (x.refs.take j).map (fun r => wrap64 (r + (l1.length : Int))) ++ [wrap64 (x.refs[j] + (l1.length : Int))]) := by
            show _ = _
            rw [List.take_succ_eq_append_getElem hlt2, List.map_append]
            rfl
          generalize x.refs[j] = r at *
          have hlk : ((x.refs.take j).map (fun r => wrap64 (r + (l1.length : Int)))).length ≤ 1099511627776 := by rw [List.length_map, List.length_take]; omega
          clear hc
          go_wp2_with (first
            | (at_builtin; refine wpList_append_ev _ rfl _ _ 28 rfl _ _ rfl rfl _ (run_app1 wr infoInt rfl _ HO2.out 3 [.int .i64 _] _ rfl (by omega) (by omega) HB2.out.size) ?_; rintro n2 w2 ⟨ow2, g2, v2, _⟩
               have B2 := Lib.hid (HB2.out.grown g2 HB2.out.size (fun k hk => (HO2.out.lt k hk).1))
               have O2 := Lib.hid ow2
               clear ow2 g2 v2)
            | fail)
          go_roundw
          case rel =>
            refine ⟨j + 1, by omega, by go_num, ?_, B2.out⟩
            show Own _ _ _ _ _ _ _
            rw [HT.out]
            exact O2.out
          case measure => simp [intOf]; omega
        · obtain rfl : j = x.refs.length := by omega
          have hO := HO2.out
          rw [List.take_length] at hO
          obtain ⟨a9, c9, e9, r9⟩ := Own.rd (xs := (shiftS l1.length x).refs) hO
          have hml : (shiftS l1.length x).refs.length = x.refs.length := by simp [shiftS]
          have HML := Lib.hid hml
          rw [hml] at e9
          subst e9
          have hqf := (st_block HQ.out).2.2.2 1
          have HQ2 : Hid ((wr.setCell ⟨Q, 1, none⟩ (.slice a9 x.refs.length c9)).heap[Q]? = some (.cells #[.int .i64 x.kind, .slice a9 x.refs.length c9, .int .i64 x.rule, .slice sa x.subs.length sc, .int .i64 x.a.op, .int .i64 x.a.width, .int .u64 x.a.val, .string x.a.name, .slice aa x.a.args.length ac, .int .i64 x.b.op, .int .i64 x.b.width, .int .u64 x.b.val, .string x.b.name, .slice ba x.b.args.length bc] 36 (0, 0))) := by
            simp [Hid, World.setCell, Array.getElem?_modify, HQ.out]
          have F2 : Far Q wr (wr.setCell ⟨Q, 1, none⟩ (.slice a9 x.refs.length c9)) := (Far.refl Q wr).setCell _
          have B2 := Lib.hid (((below_then BW0.out BW0.out.size HB2.out)).trans (F2.below zw.out))
          have O2 : Hid (Own kSt 36 (fun _ => True) (wr.setCell ⟨Q, 1, none⟩ (.slice a9 x.refs.length c9)) w.heap.size (.slice av (l1.length + k) cv) (joinK l1 l2 k)) := by
            have hlt' : ∀ q, (Value.slice av (l1.length + k) cv).ownBlock = some q → q < Q := fun q hq => (HLOW.out q hq).2
            have HOQ : Own kSt 36 (fun b => b < Q) wr w.heap.size (.slice av (l1.length + k) cv) (joinK l1 l2 k) := HOQ0.out _ HB2.out
            exact (HOQ.same (F2.same fun b hb => by
              rcases hb with hb | hb
              · have hb' : b < Q := hb; omega
              · have := hlt' b hb.symm; omega)).mono (fun _ _ _ => trivial) (Nat.le_refl _)
          have K2 : Hid (kSt.K (fun b => True ∧ some b ≠ (Value.slice av (l1.length + k) cv).ownBlock) (wr.setCell ⟨Q, 1, none⟩ (.slice a9 x.refs.length c9)) (stCells (shiftS l1.length x) ⟨a9, c9, sa, sc, aa, ac, ba, bc⟩) (shiftS l1.length x)) := by
            have h2 := (hr1.out.frame (Same.below HB2.out)).frame (F2.same fun b hb => by have hb' : b < w.heap.size := hb; have := zw.out; omega)
            have hlo : ∀ b, b < w.heap.size → True ∧ some b ≠ (Value.slice av (l1.length + k) cv).ownBlock := fun b hb => ⟨trivial, fun e => by have := (HLOW.out b e.symm).1; omega⟩
            refine ⟨⟨a9, c9, sa, sc, aa, ac, ba, bc⟩, rfl, ?_, h2.subs.mono fun b _ hb => hlo b hb, h2.a.mono fun b _ hb => hlo b hb, h2.b.mono fun b _ hb => hlo b hb⟩
            refine (((r9.mono (S' := fun b => V0.heap.size ≤ b) fun b _ hb => by rcases hb with hb | hb; exact hb.elim; exact hb)).frame (F2.same fun b hb => by have hb' : V0.heap.size ≤ b := hb; have := z0.out; omega)).mono fun b _ hb => ⟨trivial, fun e => by have := (HLOW.out b e.symm).2; have hb' : V0.heap.size ≤ b := hb; have := z0.out; omega⟩
          have hcs : Hid (stCells (shiftS l1.length x) ⟨a9, c9, sa, sc, aa, ac, ba, bc⟩ = [.int .i64 x.kind, .slice a9 x.refs.length c9, .int .i64 x.rule, .slice sa x.subs.length sc, .int .i64 x.a.op, .int .i64 x.a.width, .int .u64 x.a.val, .string x.a.name, .slice aa x.a.args.length ac, .int .i64 x.b.op, .int .i64 x.b.width, .int .u64 x.b.val, .string x.b.name, .slice ba x.b.args.length bc]) := by
            show ([_, Value.slice a9 (shiftS l1.length x).refs.length c9, _, _, _, _, _, _, _, _, _, _, _, _] : List Value) = [_, Value.slice a9 x.refs.length c9, _, _, _, _, _, _, _, _, _, _, _, _]
            rw [HML.out]
            rfl
          rw [hcs.out] at K2
          obtain ⟨⟨s0, s1, s2, s3⟩, ⟨q0, q1, q2, q3, q4⟩, ⟨t0, t1, t2, t3, t4⟩, -⟩ := st_block HQ2.out
          clear hO hml r9 F2
          go_wp2_with (first
            | (at_builtin
               refine wpList_append_ev _ rfl _ _ 27 rfl _ _ rfl rfl _ (run_app1_at wr.heap.size (wr.setCell ⟨Q, 1, none⟩ (.slice a9 x.refs.length c9)) (by simp [World.setCell]) infoSt rfl _ O2.out 36 [.int .i64 x.kind, .slice a9 x.refs.length c9, .int .i64 x.rule, .slice sa x.subs.length sc, .int .i64 x.a.op, .int .i64 x.a.width, .int .u64 x.a.val, .string x.a.name, .slice aa x.a.args.length ac, .int .i64 x.b.op, .int .i64 x.b.width, .int .u64 x.b.val, .string x.b.name, .slice ba x.b.args.length bc] (shiftS l1.length x) K2.out (by omega) (by omega) B2.out.size) ?_
               rintro n2 w5 ⟨ow5, g5, v5, _⟩
               have O5 : Hid (Own kSt 36 (fun _ => True) w5 w.heap.size n2 (joinK l1 l2 k ++ [shiftS l1.length x])) := ow5
               have B5 := Lib.hid (B2.out.grown g5 B2.out.size (fun k hk => (HLOW.out k hk).1))
               clear ow5 g5 v5)
            | fail)
          go_roundw
          case rel =>
            refine ⟨k + 1, by omega, by go_num, ?_, B5.out⟩
            show Own _ _ _ _ _ _ _
            rw [HX.out]
            exact O5.out
          case measure => simp [intOf]; omega
    · obtain rfl : k = l2.length := by omega
      have HF := HO.out
      rw [joinK_all] at HF
      have HF' := Lib.hid HF
      clear HF
      go_wp2
      go_ret
      exact ⟨_, rfl, HF'.out, HB.out⟩
end Go.Proofs.Sat
