/- The walks of the reference's Light (terms and proofs). -/
import Derived.Test.YtgjdpjefoaohkaaDoorPrI
import Derived.Deep.RegionHeld3
set_option linter.unusedVariables false
set_option linter.unusedSimpArgs false
namespace Go.Proofs.Sat
open Go Go.RowKit
theorem tm_block {w : World} {g : Nat} {t : TypeId} {v0 v1 v2 v3 v4 : Value} (h : w.heap[g]? = some (.cells #[v0, v1, v2, v3, v4] t (0, 0))) :
    w.cell? ⟨g, 0, none⟩ = some v0 ∧ w.cell? ⟨g, 1, none⟩ = some v1 ∧ w.cell? ⟨g, 2, none⟩ = some v2 ∧ w.cell? ⟨g, 3, none⟩ = some v3 ∧ w.cell? ⟨g, 4, none⟩ = some v4 ∧ ∀ i, w.frozen? ⟨g, i, none⟩ = false := by
  refine ⟨?_, ?_, ?_, ?_, ?_, fun i => frozen_of_block h⟩ <;> simp [World.cell?, h]
/-- The end of a function of two results, the first a struct in memory, the block known whole. -/
theorem bodyPost_ret_block2 {P : Program} {fn : Func} {R : Ending → World → Prop} {a : Act} {w : World} {r s : Tmp} {t t0 : TypeId} {cs : Array Value} {v : Value} (g : Nat) (fr : Nat × Nat) (d : TypeDesc)
    (hres : fn.results = #[.cell r t, .tmp s]) (ha : a.tmps.getD r undef = .pointer (some ⟨g, 0, none⟩)) (hv : a.tmps.getD s undef = v) (hg : w.heap[g]? = some (.cells cs t0 fr))
    (hu : P.underlying t = some d) (hd : (match d with | .struct _ | .array _ _ => true | _ => false) = true) (hi : (P.info? t).map (·.size) = some cs.size)
    (hdef : a.defers = []) (h : R (.returned (.tuple #[.agg cs, v])) w) : bodyPost P fn R .ret a w := by
  refine bodyPost_ret ?_ hdef h
  have := run_loadVar_row (P := P) w g t0 t cs fr d hg hu hd hi
  have ha' : a.tmps[r]?.getD undef = .pointer (some ⟨g, 0, none⟩) := by simpa using ha
  have hv' : a.tmps[s]?.getD undef = v := by simpa using hv
  simp [results, hres, ha', hv', asAddr, this]
set_option maxHeartbeats 1000000 in
theorem ref06_Light (S : Nat → Prop) (x : Tm) (a : Option Addr) (c : Nat) (w : World) (h : Rd kT S w a c x.args) :
    Calls Tryd.prog 33 #[tmVal x a c, .int .i64 20, .int .i64 60] w fun e w' => ∃ (y : Tm) (a' : Option Addr) (c' : Nat) (b : Bool), e = .returned (.tuple #[tmVal y a' c', .bool b]) ∧ (b = true → Few 60 x) ∧ Below w.heap.size w w' := by
  have hB := Lib.hid ((Below.refl w.heap.size w).alloc (Nat.le_refl _) (.cells #[.int .i64 x.op, .int .i64 x.width, .int .u64 x.val, .string x.name, .slice a x.args.length c] 34))
  have CC := Lib.hid (fun W h => ref06_count _ x (Nat.le_refl _) S a c W 20 60 h (by omega) (by omega) (by omega) (by omega))
  unfold tmVal
  go_enter Tryd.func33, Tryd.ntmps33
  go_wp2_with fail
  refine (CC.out _ (h.frame ((Same.alloc _ w (.cells #[.int .i64 x.op, .int .i64 x.width, .int .u64 x.val, .string x.name, .slice a x.args.length c] 34)).trans (Same.alloc _ _ (.cells #[.int .i64 0, .int .i64 0, .int .u64 0, .string ⟨#[]⟩, .slice none 0 0] 34))))).mono ?_
  rintro e w1 ⟨v, rfl, hv1, hv2, hf, b1⟩
  have hF := Lib.hid fun (h : 0 ≤ v) => (hf h).2
  have KX : Hid (w1.heap[w.heap.size]? = _) := block_below b1 (block_alloc (heap_alloc_new w (.cells #[.int .i64 x.op, .int .i64 x.width, .int .u64 x.val, .string x.name, .slice a x.args.length c] 34)) (.cells #[.int .i64 0, .int .i64 0, .int .u64 0, .string ⟨#[]⟩, .slice none 0 0] 34))
  have KZ : Hid (w1.heap[w.heap.size + 1]? = _) := block_below b1 (block_at1 w (.cells #[.int .i64 x.op, .int .i64 x.width, .int .u64 x.val, .string x.name, .slice a x.args.length c] 34) (.cells #[.int .i64 0, .int .i64 0, .int .u64 0, .string ⟨#[]⟩, .slice none 0 0] 34))
  have B1 := Lib.hid (below_both (below_alloc (below_alloc (Below.refl w.heap.size w) (.cells #[.int .i64 x.op, .int .i64 x.width, .int .u64 x.val, .string x.name, .slice a x.args.length c] 34)) (.cells #[.int .i64 0, .int .i64 0, .int .u64 0, .string ⟨#[]⟩, .slice none 0 0] 34)) b1)
  clear b1 hf
  obtain ⟨e0, e1, e2, e3, e4, ef⟩ := tm_block KX.out
  obtain ⟨f0, f1, f2, f3, f4, ff⟩ := tm_block KZ.out
  by_cases hn : v < 0
  · go_wp2
    refine bodyPost_ret_block2 (cs := #[.int .i64 0, .int .i64 0, .int .u64 0, .string ⟨#[]⟩, .slice none 0 0]) (t0 := 34) (v := .bool false) (w.heap.size + 1) (0, 0) _ rfl rfl rfl (by simp [World.setCell, Array.getElem?_modify, KZ.out]) Tryd.underlying34 rfl (by kernel_rfl) rfl ?_
    refine ⟨.mk 0 0 0 ⟨#[]⟩ [], none, 0, false, rfl, (fun h => by cases h), B1.out.trans (Far.below (g := w.heap.size + 1) ?_ (by omega))⟩
    with_reducible repeat (first | exact Far.refl _ _ | refine Far.setCell ?_ _ | refine Far.drew ?_)
  · go_wp2
    refine bodyPost_ret_block2 (cs := #[.int .i64 x.op, .int .i64 x.width, .int .u64 x.val, .string x.name, .slice a x.args.length c]) (t0 := 34) (v := .bool true) (w.heap.size + 1) (0, 0) _ rfl rfl rfl (by simp [World.setCell, Array.getElem?_modify, KZ.out]) Tryd.underlying34 rfl (by kernel_rfl) rfl ?_
    refine ⟨x, a, c, true, rfl, fun _ => hF.out (by omega), B1.out.trans (Far.below (g := w.heap.size + 1) ?_ (by omega))⟩
    with_reducible repeat (first | exact Far.refl _ _ | refine Far.setCell ?_ _ | refine Far.drew ?_)
set_option maxRecDepth 20000 in
set_option maxHeartbeats 2000000 in
theorem ref34_Light (S : Nat → Prop) (a : Option Addr) (c : Nat) (l : List St) (w : World) (h : Rd kSt S w a c l) :
    Calls Tryd.prog 14 #[.slice a l.length c, .int .i64 60] w fun e w' => ∃ b : Bool, e = .returned (.bool b) ∧ (b = true → l.length ≤ 60 ∧ ∀ x ∈ l, Lite x ∧ x.refs.length ≤ 16) ∧ Below w.heap.size w w' := by
  have hl := h.le
  go_enter Tryd.func14, Tryd.ntmps14
  by_cases h60 : 60 < l.length
  · go_wp2
    go_ret
    exact ⟨false, rfl, (fun h => by cases h), Below.refl _ _⟩
  have t0 : decide ((60 : Int) < (l.length : Int)) = false := by simp; omega
  go_wp2
  go_loopw [5] (fun i wr => ∃ j : Nat, j ≤ l.length ∧ i = .int .i64 j ∧ Hid (∀ i (h : i < l.length), i < j → Lite l[i] ∧ l[i].refs.length ≤ 16) ∧ Hid (Below w.heap.size w wr)) (fun i _ => l.length - (intOf i).toNat)
  case atStart => exact ⟨0, by omega, rfl, fun i h hi => by omega, Below.refl _ _⟩
  case round =>
    obtain ⟨j, hj, rfl, hv, HB⟩ := hrel
    by_cases hlt : j < l.length
    · obtain ⟨b, o, p, rfl, hbl, hr, IN⟩ := st_elem h hlt
      generalize hx : l[j] = x at *
      obtain ⟨ra, rc, sa, sc, aa, ac, ba, bc⟩ := p
      have hrl := hr.refs.le
      have hsl := hr.subs.le
      have HR := Lib.hid hr
      have HIN := Lib.hid IN
      have hbl' := Lib.hid hbl
      obtain ⟨i0, i1, i2, i3, i4, i5, i6, i7, i8, i9, i10, i11, i12, i13⟩ := IN.frame (HB.out.block _ hbl)
      dsimp only at *
      clear hr IN
      go_wp2_with (first
        | (go_at_call 33
           first
           | (with_reducible refine gate_a #[tmVal x.a aa ac, .int .i64 20, .int .i64 60] rfl ?_
              refine (ref06_Light S x.a aa ac wr (HR.out.a.frame (Same.below HB.out))).mono ?_
              rintro e w2 ⟨ya, pa, qa, ba1, rfl, hfa, b2⟩
              have HFA := Lib.hid hfa
              have B2 := Lib.hid (below_both HB.out b2)
              have ka := fun ob => HIN.out.frame ((Below.heap_alloc w2 ob b (Nat.lt_of_lt_of_le hbl'.out B2.out.size)).trans (B2.out.block _ hbl'.out))
              have k9 := fun ob => (ka ob).c9
              have k10 := fun ob => (ka ob).c10
              have k11 := fun ob => (ka ob).c11
              have k12 := fun ob => (ka ob).c12
              have k13 := fun ob => (ka ob).c13
              dsimp only at k9 k10 k11 k12 k13
              clear ka
              clear hfa b2)
           | (with_reducible refine gate_a #[tmVal x.b ba bc, .int .i64 20, .int .i64 60] rfl ?_
              refine (ref06_Light S x.b ba bc _ ((HR.out.b.frame (Same.below B2.out)).frame (Same.alloc _ _ _))).mono ?_
              rintro e w3 ⟨yb, pb, qb, bb1, rfl, hfb, b3⟩
              have HFB := Lib.hid hfb
              have B3 := Lib.hid (below_both (below_alloc B2.out _) b3)
              have kb := fun ob => HIN.out.frame ((Below.heap_alloc w3 ob b (Nat.lt_of_lt_of_le hbl'.out B3.out.size)).trans (B3.out.block _ hbl'.out))
              have m1 := fun ob => (kb ob).c1
              have m3 := fun ob => (kb ob).c3
              dsimp only at m1 m3
              clear hfb b3 kb k9 k10 k11 k12 k13 i0 i1 i2 i3 i4 i5 i6 i7 i8 i9 i10 i11 i12 i13))
        | fail)
      all_goals first
        | (go_ret; first | exact ⟨false, rfl, (fun h => by cases h), by first | exact below_alloc B3.out _ | exact below_drewN (below_alloc B3.out _) 1 | exact below_drewN (below_alloc B3.out _) 2⟩ | exact .inl ⟨rfl, by first | exact below_alloc B3.out _ | exact below_drewN (below_alloc B3.out _) 1 | exact below_drewN (below_alloc B3.out _) 2⟩)
        | skip
      all_goals
        have hsb : x.subs.length ≤ 16 := by omega
        have hrb : x.refs.length ≤ 16 := by omega
        have hA1 := Lib.hid (HFA.out (by assumption))
        have hB1 := Lib.hid (HFB.out (by assumption))
        clear m1 m3
        go_loopw [10] (fun i wr => ∃ k : Nat, k ≤ x.subs.length ∧ i = .int .i64 k ∧ Hid (∀ i (h : i < x.subs.length), i < k → Few 60 x.subs[i].term) ∧ Hid (Below w.heap.size w wr)) (fun i _ => x.subs.length - (intOf i).toNat)
        case atStart => exact ⟨0, by omega, rfl, fun i h hi => by omega, by first | exact below_alloc B3.out _ | exact below_drewN (below_alloc B3.out _) 1 | exact below_drewN (below_alloc B3.out _) 2⟩
        case round =>
          obtain ⟨k, hk, rfl, hv2, HB4⟩ := hrel
          have n3 := (HIN.out.frame (HB4.out.block _ hbl'.out)).c3
          dsimp only at n3
          by_cases hlt2 : k < x.subs.length
          · obtain ⟨b2, o2, a', c', rfl, hb2, hr2, ⟨e0, e1, e2, e3, e4, e5⟩⟩ := sb_elem (HR.out.subs.frame (Same.below HB4.out)) hlt2
            have hr2' := Lib.hid hr2
            have hb2' := Lib.hid hb2
            have E0 := Lib.hid e0
            generalize hy : x.subs[k] = y at *
            have HY := Lib.hid hy
            clear hr2 hy e0
            go_wp2_with (first
              | (go_at_call 33
                 refine (ref06_Light S y.term a' c' wr hr2'.out).mono ?_
                 rintro e w5 ⟨yc, pc, qc, bc1, rfl, hfc, b5⟩
                 have HFC := Lib.hid hfc
                 have B5 := Lib.hid (below_both HB4.out b5)
                 have q3 := fun ob => (HIN.out.frame ((Below.heap_alloc w5 ob b (Nat.lt_of_lt_of_le hbl'.out B5.out.size)).trans (B5.out.block _ hbl'.out))).c3
                 have q0 : ∀ ob, (w5.alloc ob).cell? ⟨b2, o2 + k * 6, none⟩ = some (.string y.name) := fun ob => (World.cell?_of_block ((Below.heap_alloc w5 ob b2 (Nat.lt_of_lt_of_le hb2'.out b5.size)).trans (b5.block _ hb2'.out))).trans E0.out
                 dsimp only at q3
                 clear hfc b5 n3 e1 e2 e3 e4 e5)
              | fail)
            all_goals first
              | (go_ret; first | exact ⟨false, rfl, (fun h => by cases h), by first | exact below_alloc B5.out _ | exact below_drewN (below_alloc B5.out _) 1 | exact below_drewN (below_alloc B5.out _) 2⟩ | exact .inl ⟨rfl, by first | exact below_alloc B5.out _ | exact below_drewN (below_alloc B5.out _) 1 | exact below_drewN (below_alloc B5.out _) 2⟩)
              | (go_roundw
                 case rel =>
                   refine ⟨k + 1, by omega, by go_num, fun i hi hik => ?_, by first | exact below_alloc B5.out _ | exact below_drewN (below_alloc B5.out _) 1 | exact below_drewN (below_alloc B5.out _) 2⟩
                   rcases Nat.lt_or_ge i k with h' | h'
                   · exact hv2.out i hi h'
                   · obtain rfl : i = k := by omega
                     rw [HY.out]
                     exact HFC.out (by assumption)
                 case measure => simp [intOf]; omega)
          · have HL : Hid (Lite x ∧ x.refs.length ≤ 16) := ⟨⟨hA1.out, hB1.out, fun s hs => by
              obtain ⟨i, hi, rfl⟩ := List.getElem_of_mem hs
              exact hv2.out i hi (by omega), by omega, by omega⟩, hrb⟩
            go_wp2
            go_roundw
            case rel =>
              refine ⟨j + 1, by omega, by go_num, fun i hi hij => ?_, HB4.out⟩
              rcases Nat.lt_or_ge i j with h' | h'
              · exact hv.out i hi h'
              · obtain rfl : i = j := by omega
                rw [hx]
                exact HL.out
            case measure => simp [intOf]; omega
    · go_wp2
      go_ret
      have hall : l.length ≤ 60 ∧ ∀ x ∈ l, Lite x ∧ x.refs.length ≤ 16 := ⟨by omega, fun x hx => by
        obtain ⟨i, hi, rfl⟩ := List.getElem_of_mem hx
        exact hv.out i hi (by omega)⟩
      first
      | exact ⟨true, rfl, fun _ => hall, HB.out⟩
      | exact .inr ⟨rfl, hall, HB.out⟩
end Go.Proofs.Sat
