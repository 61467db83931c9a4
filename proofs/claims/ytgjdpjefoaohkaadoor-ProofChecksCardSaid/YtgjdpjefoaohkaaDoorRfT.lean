/- The walks of the reference's moved and Trim. -/
import Derived.Test.YtgjdpjefoaohkaaDoorRfN
import Derived.Test.YtgjdpjefoaohkaaDoorPrI
set_option linter.unusedVariables false
set_option linter.unusedSimpArgs false
namespace Go.Proofs.Sat
open Go Go.RowKit
set_option maxRecDepth 20000 in
set_option maxHeartbeats 2000000 in
theorem ref34_moved (S S2 : Nat → Prop) (x : St) (p : StAt) (na : Option Addr) (nc : Nat) (N : List Int) (w : World) (h : StRd S w x p) (hN : Rd (Kd.int .i64) S2 w na nc N) (hr : x.refs.length ≤ 1099511627776) :
    Calls Tryd.prog 38 #[stVal x p, .slice na N.length nc] w fun e w' => ∃ ra' rc', e = .returned (stVal (movedS N x) ⟨ra', rc', p.sa, p.sc, p.aa, p.ac, p.ba, p.bc⟩) ∧ Rd (Kd.int .i64) (fun b => w.heap.size ≤ b) w' ra' rc' (movedS N x).refs ∧ Below w.heap.size w w' := by
  obtain ⟨ra, rc, sa, sc, aa, ac, ba, bc⟩ := p
  have HR := Lib.hid h.refs
  dsimp only at HR
  clear h
  unfold stVal
  go_enter Tryd.func38, Tryd.ntmps38
  go_wp2_with fail
  have BW := Lib.hid (below_alloc (below_alloc (Below.refl w.heap.size w) (.cells #[.int .i64 x.kind, .slice ra x.refs.length rc, .int .i64 x.rule, .slice sa x.subs.length sc, .int .i64 x.a.op, .int .i64 x.a.width, .int .u64 x.a.val, .string x.a.name, .slice aa x.a.args.length ac, .int .i64 x.b.op, .int .i64 x.b.width, .int .u64 x.b.val, .string x.b.name, .slice ba x.b.args.length bc] 36)) (.cells #[.int .i64 0, .slice none 0 0, .int .i64 0, .slice none 0 0, .int .i64 0, .int .i64 0, .int .u64 0, .string ⟨#[]⟩, .slice none 0 0, .int .i64 0, .int .i64 0, .int .u64 0, .string ⟨#[]⟩, .slice none 0 0] 36))
  go_loopw [5, 6] (fun v i wr => ∃ k : Nat, k ≤ x.refs.length ∧ i = .int .i64 k ∧ Hid (Own (Kd.int .i64) 3 NoS wr (w.heap.size + 2) v ((x.refs.take k).map fun r => ((N.countP fun y => decide (y < r) : Nat) : Int))) ∧ Hid (Below w.heap.size w wr) ∧ w.heap.size + 2 ≤ wr.heap.size ∧
    Hid (wr.heap[w.heap.size]? = some (.cells #[.int .i64 x.kind, .slice ra x.refs.length rc, .int .i64 x.rule, .slice sa x.subs.length sc, .int .i64 x.a.op, .int .i64 x.a.width, .int .u64 x.a.val, .string x.a.name, .slice aa x.a.args.length ac, .int .i64 x.b.op, .int .i64 x.b.width, .int .u64 x.b.val, .string x.b.name, .slice ba x.b.args.length bc] 36 (0, 0))) ∧ Hid (wr.heap[w.heap.size + 1]? = some (.cells #[.int .i64 0, .slice none 0 0, .int .i64 0, .slice none 0 0, .int .i64 0, .int .i64 0, .int .u64 0, .string ⟨#[]⟩, .slice none 0 0, .int .i64 0, .int .i64 0, .int .u64 0, .string ⟨#[]⟩, .slice none 0 0] 36 (0, 0)))) (fun _ i _ => x.refs.length - (intOf i).toNat)
  case atStart => exact ⟨0, by omega, rfl, Own.nil _ _ _ _ _, BW.out, by simp, block_alloc (heap_alloc_new w _) _, block_at1 w _ _⟩
  case round =>
    obtain ⟨k, hk, rfl, HO, HB, hz, HK, HZ⟩ := hrel
    obtain ⟨⟨s0, s1, s2, s3⟩, ⟨a0, a1, a2, a3, a4⟩, ⟨b0, b1, b2, b3, b4⟩, sf⟩ := st_block HK.out
    by_cases hlt : k < x.refs.length
    · obtain ⟨b, o, rfl, _, _, hc⟩ := (HR.out.frame (Same.below HB.out)).vals (by omega) 0
      have d := hc k hlt
      rw [getD_at x.refs hlt] at d
      have HT : Hid ((x.refs.take (k + 1)).map (fun r => ((N.countP fun y => decide (y < r) : Nat) : Int)) = (x.refs.take k).map (fun r => ((N.countP fun y => decide (y < r) : Nat) : Int)) ++ [((N.countP fun y => decide (y < x.refs[k]) : Nat) : Int)]) := by
        show _ = _
        rw [List.take_succ_eq_append_getElem hlt, List.map_append]
        rfl
      have hN' := Lib.hid (hN.frame (Same.below HB.out))
      generalize x.refs[k] = r at *
      have hlk : ((x.refs.take k).map (fun r => ((N.countP fun y => decide (y < r) : Nat) : Int))).length ≤ 1099511627776 := by rw [List.length_map, List.length_take]; omega
      have BX := Lib.hid (ref03_Index S2 na nc N r wr hN'.out)
      clear hc s0 s2 s3 a0 a1 a2 a3 a4 b0 b1 b2 b3 b4
      generalize (N.countP fun y => decide (y < r)) = cnt at *
      go_wp2_with (first
        | (go_at_call 53; refine BX.out.mono ?_; rintro e w1 ⟨rfl, d1⟩
           have O1 := Lib.hid (HO.out.drawn d1)
           have B1 := Lib.hid (HB.out.trans (d1.below _))
           have z1 : Hid (w.heap.size + 2 ≤ w1.heap.size) := by rw [d1.size]; exact hz
           have K1 := Lib.hid (d1.heap HK.out)
           have Z1 := Lib.hid (d1.heap HZ.out)
           clear d1)
        | (at_builtin; refine wpList_append_ev _ rfl _ _ 28 rfl _ _ rfl rfl _ (run_app1 w1 infoInt rfl _ O1.out 3 [.int .i64 _] _ rfl (by omega) (by omega) z1.out) ?_; rintro n2 w2 ⟨ow2, g2, v2, _⟩
           have hlow := fun k hk => (O1.out.lt k hk).1
           have B2 := Lib.hid (B1.out.grown g2 B1.out.size (fun k hk => by have := hlow k hk; omega))
           have z2 : Hid (w.heap.size + 2 ≤ w2.heap.size) := Nat.le_trans z1.out g2.size
           have K2 := Lib.hid (block_grown g2 K1.out (fun e => by have := hlow _ e.symm; omega))
           have Z2 := Lib.hid (block_grown g2 Z1.out (fun e => by have := hlow _ e.symm; omega))
           have O2 := Lib.hid ow2
           clear ow2 g2 v2)
        | fail)
      go_roundw
      case rel =>
        refine ⟨k + 1, by omega, by go_num, ?_, B2.out, z2.out, K2.out, Z2.out⟩
        show Own _ _ _ _ _ _ _
        rw [HT.out]
        exact O2.out
      case measure => simp [intOf]; omega
    · obtain rfl : k = x.refs.length := by omega
      obtain ⟨⟨r0, r1, r2, r3⟩, ⟨q0, q1, q2, q3, q4⟩, ⟨t0, t1, t2, t3, t4⟩, tf⟩ := st_block HZ.out
      have hO := HO.out
      rw [List.take_length] at hO
      obtain ⟨a9, c9, e9, r9⟩ := Own.rd (xs := (movedS N x).refs) hO
      have hml : (movedS N x).refs.length = x.refs.length := by simp [movedS]
      rw [hml] at e9
      subst e9
      have RR := Lib.hid r9
      have HML := Lib.hid hml
      clear r9 hO hml
      have FIN : Hid (∀ W, Far (w.heap.size + 1) (wr.setCell ⟨w.heap.size, 1, none⟩ (.slice a9 x.refs.length c9)) W → ∃ ra' rc', Ending.returned (.agg #[.int .i64 x.kind, .slice a9 x.refs.length c9, .int .i64 x.rule, .slice sa x.subs.length sc, .int .i64 x.a.op, .int .i64 x.a.width, .int .u64 x.a.val, .string x.a.name, .slice aa x.a.args.length ac, .int .i64 x.b.op, .int .i64 x.b.width, .int .u64 x.b.val, .string x.b.name, .slice ba x.b.args.length bc]) = .returned (stVal (movedS N x) ⟨ra', rc', sa, sc, aa, ac, ba, bc⟩) ∧ Rd (Kd.int .i64) (fun b => w.heap.size ≤ b) W ra' rc' (movedS N x).refs ∧ Below w.heap.size w W) := fun W F => by
        refine ⟨a9, c9, ?_, ?_, (HB.out.setCell (p := ⟨w.heap.size, 1, none⟩) (Nat.le_refl _) _).trans (F.below (by omega))⟩
        · show Ending.returned (.agg #[_, .slice a9 x.refs.length c9, _, _, _, _, _, _, _, _, _, _, _, _]) = .returned (.agg #[_, .slice a9 (movedS N x).refs.length c9, _, _, _, _, _, _, _, _, _, _, _, _])
          rw [HML.out]
          rfl
        · refine (((RR.out.mono (S' := fun b => w.heap.size + 2 ≤ b) fun b _ hb => ?_).frame (Same.setCell wr _ (fun b hb => by show b ≠ w.heap.size; omega))).frame (F.same fun b hb => by omega)).mono fun b _ hb => by omega
          rcases hb with hb | hb
          · exact hb.elim
          · exact hb
      have sf1 := sf 1
      clear sf
      go_wp2
      refine bodyPost_ret_block (cs := #[.int .i64 x.kind, .slice a9 x.refs.length c9, .int .i64 x.rule, .slice sa x.subs.length sc, .int .i64 x.a.op, .int .i64 x.a.width, .int .u64 x.a.val, .string x.a.name, .slice aa x.a.args.length ac, .int .i64 x.b.op, .int .i64 x.b.width, .int .u64 x.b.val, .string x.b.name, .slice ba x.b.args.length bc]) (t0 := 36) (w.heap.size + 1) (0, 0) _ rfl rfl (by simp [World.setCell, Array.getElem?_modify, HZ.out]) Tryd.underlying36 rfl (by kernel_rfl) rfl ?_
      refine FIN.out _ ?_
      with_reducible repeat (first | exact Far.refl _ _ | refine Far.setCell ?_ _ | refine Far.drew ?_)
end Go.Proofs.Sat
