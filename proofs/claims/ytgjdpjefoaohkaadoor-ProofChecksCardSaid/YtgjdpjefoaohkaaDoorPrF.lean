/- The walk of proof.clone. -/
import Derived.Test.YtgjdpjefoaohkaaDoorPrE0
import Derived.Test.YtgjdpjefoaohkaaDoorShelf
import Derived.Deep.RegionLaw
set_option linter.unusedVariables false
set_option linter.unusedSimpArgs false
namespace Go.Proofs.Sat
open Go Go.RowKit
theorem infoSb : ElemInfo Tryd.prog 29 57 (.agg #[.string ⟨#[]⟩, .int .i64 0, .int .i64 0, .int .u64 0, .string ⟨#[]⟩, .slice none 0 0]) 6 80 := ⟨Tryd.underlying29, by kernel_rfl, rfl, by decide⟩
/-- slices.Clone at []int. -/
theorem sl_Clone (S : Nat → Prop) (a : Option Addr) (c : Nat) (l : List Int) (w : World) (h : Rd (Kd.int .i64) S w a c l) (hb : l.length ≤ 1099511627776) :
    Calls Tryd.prog 37 #[.slice a l.length c] w fun e w' => ∃ v, e = .returned v ∧ Own (Kd.int .i64) 3 NoS w' w.heap.size v l ∧ Below w.heap.size w w' := by
  rcases Nat.eq_zero_or_pos l.length with h0 | hp
  · obtain rfl := List.eq_nil_of_length_eq_zero h0
    cases a with
    | none =>
      refine (Tryd.slices_Clone_int_nil 0 c w).mono ?_
      rintro e w' ⟨rfl, rfl⟩
      exact ⟨_, rfl, Own.nil _ _ _ _ _, Below.refl _ _⟩
    | some a =>
      refine (Tryd.slices_Clone_int_zero a c w).mono ?_
      rintro e w' ⟨v, rfl, ho, _, hb⟩
      exact ⟨v, rfl, ⟨[], ho, .nil⟩, hb⟩
  · obtain ⟨b, o, rfl, _, _, hc⟩ := h.vals hp 0
    refine (Tryd.slices_Clone_int b o l.length c l w (Nat.le_refl _) (by omega) hc).mono ?_
    rintro e w' ⟨v, rfl, ho, _, hb⟩
    rw [List.take_length] at ho
    exact ⟨v, rfl, ⟨l.map (Value.int .i64), ho, elems_vals l⟩, hb⟩
theorem term_Copy' (x : Tm) (hf : Few 60 x) (S : Nat → Prop) (a : Option Addr) (c : Nat) (w : World) (h : Rd kT S w a c x.args) :
    Calls Tryd.prog 52 #[tmVal x a c] w fun e w' => ∃ a' c', e = .returned (tmVal x a' c') ∧ Rd kT (fun b => w.heap.size ≤ b) w' a' c' x.args ∧ Below w.heap.size w w' := term_Copy _ x (Nat.le_refl _) hf S a c w h
/-- A step's block: its cells, and that they may be written. -/
theorem st_block {w : World} {g : Nat} {t : TypeId} {v0 v1 v2 v3 v4 v5 v6 v7 v8 v9 v10 v11 v12 v13 : Value} (h : w.heap[g]? = some (.cells #[v0, v1, v2, v3, v4, v5, v6, v7, v8, v9, v10, v11, v12, v13] t (0, 0))) :
    (w.cell? ⟨g, 0, none⟩ = some v0 ∧ w.cell? ⟨g, 1, none⟩ = some v1 ∧ w.cell? ⟨g, 2, none⟩ = some v2 ∧ w.cell? ⟨g, 3, none⟩ = some v3) ∧
    (w.cell? ⟨g, 4, none⟩ = some v4 ∧ w.cell? ⟨g, 5, none⟩ = some v5 ∧ w.cell? ⟨g, 6, none⟩ = some v6 ∧ w.cell? ⟨g, 7, none⟩ = some v7 ∧ w.cell? ⟨g, 8, none⟩ = some v8) ∧
    (w.cell? ⟨g, 9, none⟩ = some v9 ∧ w.cell? ⟨g, 10, none⟩ = some v10 ∧ w.cell? ⟨g, 11, none⟩ = some v11 ∧ w.cell? ⟨g, 12, none⟩ = some v12 ∧ w.cell? ⟨g, 13, none⟩ = some v13) ∧ ∀ i, w.frozen? ⟨g, i, none⟩ = false := by
  refine ⟨⟨?_, ?_, ?_, ?_⟩, ⟨?_, ?_, ?_, ?_, ?_⟩, ⟨?_, ?_, ?_, ?_, ?_⟩, fun i => frozen_of_block h⟩ <;> simp [World.cell?, h]
theorem sb_block {w : World} {g : Nat} {t : TypeId} {v0 v1 v2 v3 v4 v5 : Value} (h : w.heap[g]? = some (.cells #[v0, v1, v2, v3, v4, v5] t (0, 0))) :
    w.cell? ⟨g, 0, none⟩ = some v0 ∧ w.cell? ⟨g, 1, none⟩ = some v1 ∧ w.cell? ⟨g, 2, none⟩ = some v2 ∧ w.cell? ⟨g, 3, none⟩ = some v3 ∧ w.cell? ⟨g, 4, none⟩ = some v4 ∧ w.cell? ⟨g, 5, none⟩ = some v5 := by
  refine ⟨?_, ?_, ?_, ?_, ?_, ?_⟩ <;> simp [World.cell?, h]
theorem gate_a {P : Program} {f : Nat} {args : Array Value} {w : World} {Q : Ending → World → Prop} (args' : Array Value) (_ : args = args') (k : Calls P f args w Q) : Calls P f args w Q := k
/-- Worlds that differ in one block alone. -/
def Far (g : Nat) (w w' : World) : Prop := w'.os = w.os ∧ w'.tape = w.tape ∧ w'.output = w.output ∧ w'.heap.size = w.heap.size ∧ ∀ b, b ≠ g → w'.heap[b]? = w.heap[b]?
theorem Far.refl (g : Nat) (w : World) : Far g w w := ⟨rfl, rfl, rfl, rfl, fun _ _ => rfl⟩
theorem Far.setCell {g i : Nat} {w w' : World} (h : Far g w w') (v : Value) : Far g w (w'.setCell ⟨g, i, none⟩ v) :=
  ⟨h.1, h.2.1, h.2.2.1, by simpa [World.setCell] using h.2.2.2.1, fun b hb => (Below.heap_setCell w' _ v b hb).trans (h.2.2.2.2 b hb)⟩
theorem Far.drew {g : Nat} {w w' : World} (h : Far g w w') : Far g w w'.drew := h
theorem Far.below {g : Nat} {w w' : World} (h : Far g w w') {B : Nat} (hB : B ≤ g) : Below B w w' := ⟨h.1, h.2.1, h.2.2.1, by rw [h.2.2.2.1]; exact Nat.le_refl _, fun b hb => h.2.2.2.2 b (by omega)⟩
theorem Far.same {g : Nat} {w w' : World} (h : Far g w w') {S : Nat → Prop} (hS : ∀ b, S b → b ≠ g) : Same S w w' := ⟨by rw [h.2.2.2.1]; exact Nat.le_refl _, fun b hb _ => h.2.2.2.2 b (hS b hb)⟩
theorem ex_world {w : World} {P : World → Prop} (h : ∀ w', w' = w → P w') : ∃ w', w' = w ∧ P w' := ⟨w, rfl, h w rfl⟩
set_option maxRecDepth 20000 in
set_option maxHeartbeats 2000000 in
theorem proof_clone (S : Nat → Prop) (x : St) (p : StAt) (fa : Option Addr) (fc : Nat) (rs : List Int) (w : World) (h : StRd S w x p) (hfa : Few 60 x.a) (hfb : Few 60 x.b) (hfs : ∀ s ∈ x.subs, Few 60 s.term) (hsn : x.subs.length ≤ 1099511627776) :
    Calls Tryd.prog 36 #[stVal x p, .slice fa rs.length fc] w fun e w' => ∃ p', e = .returned (stVal { x with refs := rs } p') ∧ p'.ra = fa ∧ p'.rc = fc ∧ Rd kSb (fun b => w.heap.size ≤ b) w' p'.sa p'.sc x.subs ∧ Rd kT (fun b => w.heap.size ≤ b) w' p'.aa p'.ac x.a.args ∧ Rd kT (fun b => w.heap.size ≤ b) w' p'.ba p'.bc x.b.args ∧ Below w.heap.size w w' := by
  obtain ⟨ra, rc, sa, sc, aa, ac, ba, bc⟩ := p
  have hA := Lib.hid h.a
  have hB := Lib.hid h.b
  have hS := Lib.hid h.subs
  dsimp only at hA hB hS
  unfold stVal
  have CA := Lib.hid (fun W hr => term_Copy' x.a hfa S aa ac W hr)
  have CB := Lib.hid (fun W hr => term_Copy' x.b hfb S ba bc W hr)
  go_enter Tryd.func36, Tryd.ntmps36
  go_wp2_with fail
  have BK : Hid (((w.alloc (.cells #[.int .i64 x.kind, .slice fa rs.length fc, .int .i64 x.rule, .slice sa x.subs.length sc, .int .i64 x.a.op, .int .i64 x.a.width, .int .u64 x.a.val, .string x.a.name, .slice aa x.a.args.length ac, .int .i64 x.b.op, .int .i64 x.b.width, .int .u64 x.b.val, .string x.b.name, .slice ba x.b.args.length bc] 36)).alloc
      (.cells #[.int .i64 0, .slice none 0 0, .int .i64 0, .slice none 0 0, .int .i64 0, .int .i64 0, .int .u64 0, .string ⟨#[]⟩, .slice none 0 0, .int .i64 0, .int .i64 0, .int .u64 0, .string ⟨#[]⟩, .slice none 0 0] 36)).heap[w.heap.size]? = some (.cells #[.int .i64 x.kind, .slice fa rs.length fc, .int .i64 x.rule, .slice sa x.subs.length sc, .int .i64 x.a.op, .int .i64 x.a.width, .int .u64 x.a.val, .string x.a.name, .slice aa x.a.args.length ac, .int .i64 x.b.op, .int .i64 x.b.width, .int .u64 x.b.val, .string x.b.name, .slice ba x.b.args.length bc] 36 (0, 0))) := block_alloc (heap_alloc_new w _) _
  have BR : Hid (((w.alloc (.cells #[.int .i64 x.kind, .slice fa rs.length fc, .int .i64 x.rule, .slice sa x.subs.length sc, .int .i64 x.a.op, .int .i64 x.a.width, .int .u64 x.a.val, .string x.a.name, .slice aa x.a.args.length ac, .int .i64 x.b.op, .int .i64 x.b.width, .int .u64 x.b.val, .string x.b.name, .slice ba x.b.args.length bc] 36)).alloc
      (.cells #[.int .i64 0, .slice none 0 0, .int .i64 0, .slice none 0 0, .int .i64 0, .int .i64 0, .int .u64 0, .string ⟨#[]⟩, .slice none 0 0, .int .i64 0, .int .i64 0, .int .u64 0, .string ⟨#[]⟩, .slice none 0 0] 36)).heap[w.heap.size + 1]? = some (.cells #[.int .i64 0, .slice none 0 0, .int .i64 0, .slice none 0 0, .int .i64 0, .int .i64 0, .int .u64 0, .string ⟨#[]⟩, .slice none 0 0, .int .i64 0, .int .i64 0, .int .u64 0, .string ⟨#[]⟩, .slice none 0 0] 36 (0, 0))) := block_at1 w _ _
  have BW := Lib.hid (below_alloc (below_alloc (Below.refl w.heap.size w) (.cells #[.int .i64 x.kind, .slice fa rs.length fc, .int .i64 x.rule, .slice sa x.subs.length sc, .int .i64 x.a.op, .int .i64 x.a.width, .int .u64 x.a.val, .string x.a.name, .slice aa x.a.args.length ac, .int .i64 x.b.op, .int .i64 x.b.width, .int .u64 x.b.val, .string x.b.name, .slice ba x.b.args.length bc] 36))
      (.cells #[.int .i64 0, .slice none 0 0, .int .i64 0, .slice none 0 0, .int .i64 0, .int .i64 0, .int .u64 0, .string ⟨#[]⟩, .slice none 0 0, .int .i64 0, .int .i64 0, .int .u64 0, .string ⟨#[]⟩, .slice none 0 0] 36))
  have ZW : Hid (w.heap.size + 2 = ((w.alloc (.cells #[.int .i64 x.kind, .slice fa rs.length fc, .int .i64 x.rule, .slice sa x.subs.length sc, .int .i64 x.a.op, .int .i64 x.a.width, .int .u64 x.a.val, .string x.a.name, .slice aa x.a.args.length ac, .int .i64 x.b.op, .int .i64 x.b.width, .int .u64 x.b.val, .string x.b.name, .slice ba x.b.args.length bc] 36)).alloc
      (.cells #[.int .i64 0, .slice none 0 0, .int .i64 0, .slice none 0 0, .int .i64 0, .int .i64 0, .int .u64 0, .string ⟨#[]⟩, .slice none 0 0, .int .i64 0, .int .i64 0, .int .u64 0, .string ⟨#[]⟩, .slice none 0 0] 36)).heap.size) := by show _ = _; simp
  generalize (w.alloc (.cells #[.int .i64 x.kind, .slice fa rs.length fc, .int .i64 x.rule, .slice sa x.subs.length sc, .int .i64 x.a.op, .int .i64 x.a.width, .int .u64 x.a.val, .string x.a.name, .slice aa x.a.args.length ac, .int .i64 x.b.op, .int .i64 x.b.width, .int .u64 x.b.val, .string x.b.name, .slice ba x.b.args.length bc] 36)).alloc
      (.cells #[.int .i64 0, .slice none 0 0, .int .i64 0, .slice none 0 0, .int .i64 0, .int .i64 0, .int .u64 0, .string ⟨#[]⟩, .slice none 0 0, .int .i64 0, .int .i64 0, .int .u64 0, .string ⟨#[]⟩, .slice none 0 0] 36) = W0 at *
  obtain ⟨⟨s0, s1, s2, s3⟩, ⟨a0, a1, a2, a3, a4⟩, ⟨b0, b1, b2, b3, b4⟩, sf⟩ := st_block BK.out
  refine Code.wp_mono (Q := fun e a W3 => match e with | .normal => (∃ aA cA aB cB, a = ⟨#[.agg #[.int .i64 x.kind, .slice ra x.refs.length rc, .int .i64 x.rule, .slice sa x.subs.length sc, .int .i64 x.a.op, .int .i64 x.a.width, .int .u64 x.a.val, .string x.a.name, .slice aa x.a.args.length ac, .int .i64 x.b.op, .int .i64 x.b.width, .int .u64 x.b.val, .string x.b.name, .slice ba x.b.args.length bc], .slice fa rs.length fc, .pointer (some ⟨w.heap.size, 0, none⟩), undef, .pointer (some ⟨w.heap.size + 1, 0, none⟩), undef, undef, undef, .slice fa rs.length fc, .pointer (some ⟨w.heap.size, 1, none⟩), .pointer (some ⟨w.heap.size, 4, none⟩), tmVal x.a aa ac, tmVal x.a aA cA, .pointer (some ⟨w.heap.size, 9, none⟩), tmVal x.b ba bc, tmVal x.b aB cB, .pointer (some ⟨w.heap.size, 4, none⟩), .pointer (some ⟨w.heap.size, 9, none⟩), undef, undef, undef, undef, undef, undef, undef, undef, undef, undef, undef, undef, undef, undef, undef, undef, undef, undef, undef, undef, undef, undef], []⟩ ∧ ∃ W, W = W3 ∧ Hid (W.heap[w.heap.size]? = some (.cells #[.int .i64 x.kind, .slice fa rs.length fc, .int .i64 x.rule, .slice sa x.subs.length sc, .int .i64 x.a.op, .int .i64 x.a.width, .int .u64 x.a.val, .string x.a.name, .slice aA x.a.args.length cA, .int .i64 x.b.op, .int .i64 x.b.width, .int .u64 x.b.val, .string x.b.name, .slice aB x.b.args.length cB] 36 (0, 0))) ∧ Hid (W.heap[w.heap.size + 1]? = some (.cells #[.int .i64 0, .slice none 0 0, .int .i64 0, .slice none 0 0, .int .i64 0, .int .i64 0, .int .u64 0, .string ⟨#[]⟩, .slice none 0 0, .int .i64 0, .int .i64 0, .int .u64 0, .string ⟨#[]⟩, .slice none 0 0] 36 (0, 0))) ∧ Hid (Below w.heap.size w W) ∧ Hid (w.heap.size + 2 ≤ W.heap.size) ∧
    Hid (Rd kT (fun b => W0.heap.size ≤ b) W aA cA x.a.args) ∧ Hid (Rd kT (fun b => W0.heap.size ≤ b) W aB cB x.b.args)) | _ => False) ?hq ?wp
  case wp =>
    clear s0 s1 s2 s3
    go_region_law (first
      | (go_simp; go_at_call 52
         first
         | (
            with_reducible refine gate_a #[tmVal x.a aa ac] rfl ?_
            first
            | (
              refine (CA.out _ (hA.out.frame (((Same.below BW.out).trans (Same.below B1.out)).trans ?_))).mono ?_
              (first | exact Same.drewN _ _ _ | exact Same.refl _ _)
              rintro e w2 ⟨aA, cA, rfl, r4, b4⟩
              have b5 : Below w1.heap.size w1 w2 := by first | exact b4 | exact below_both (below_drewN (Below.refl w1.heap.size w1) _) b4
              have B2 : Hid (Below W0.heap.size W0 w2) := below_both B1.out b5
              have RA2 : Hid (Rd kT (fun b => W0.heap.size ≤ b) w2 aA cA x.a.args) := r4.mono (fun b _ hb => Nat.le_trans B1.out.size hb)
              have RB2 := Lib.hid (RB1.out.frame (Same.below b5))
              have K2 : Hid (w2.heap[w.heap.size]? = _) := (B2.out.block w.heap.size (by have := ZW.out; omega)).trans BK.out
              obtain ⟨-, ⟨a20, a21, a22, a23, a24⟩, ⟨b20, b21, b22, b23, b24⟩, sf2⟩ := st_block K2.out
              clear r4 b4 b5)
            | (
              refine (CA.out _ (hA.out.frame ((Same.below BW.out).trans ?_))).mono ?_
              (first | exact Same.drewN _ _ _ | exact Same.refl _ _)
              rintro e w1 ⟨aA, cA, rfl, r3, b3⟩
              have B1 : Hid (Below W0.heap.size W0 w1) := by first | exact b3 | exact below_both (below_drewN (Below.refl W0.heap.size W0) _) b3
              have RA1 : Hid (Rd kT (fun b => W0.heap.size ≤ b) w1 aA cA x.a.args) := r3
              have K1 : Hid (w1.heap[w.heap.size]? = _) := (B1.out.block w.heap.size (by have := ZW.out; omega)).trans BK.out
              obtain ⟨-, ⟨a10, a11, a12, a13, a14⟩, ⟨b10, b11, b12, b13, b14⟩, sf1⟩ := st_block K1.out
              clear r3 b3))
         | (
            with_reducible refine gate_a #[tmVal x.b ba bc] rfl ?_
            first
            | (
              refine (CB.out _ (hB.out.frame (((Same.below BW.out).trans (Same.below B1.out)).trans ?_))).mono ?_
              (first | exact Same.drewN _ _ _ | exact Same.refl _ _)
              rintro e w2 ⟨aB, cB, rfl, r4, b4⟩
              have b5 : Below w1.heap.size w1 w2 := by first | exact b4 | exact below_both (below_drewN (Below.refl w1.heap.size w1) _) b4
              have B2 : Hid (Below W0.heap.size W0 w2) := below_both B1.out b5
              have RB2 : Hid (Rd kT (fun b => W0.heap.size ≤ b) w2 aB cB x.b.args) := r4.mono (fun b _ hb => Nat.le_trans B1.out.size hb)
              have RA2 := Lib.hid (RA1.out.frame (Same.below b5))
              have K2 : Hid (w2.heap[w.heap.size]? = _) := (B2.out.block w.heap.size (by have := ZW.out; omega)).trans BK.out
              obtain ⟨-, ⟨a20, a21, a22, a23, a24⟩, ⟨b20, b21, b22, b23, b24⟩, sf2⟩ := st_block K2.out
              clear r4 b4 b5)
            | (
              refine (CB.out _ (hB.out.frame ((Same.below BW.out).trans ?_))).mono ?_
              (first | exact Same.drewN _ _ _ | exact Same.refl _ _)
              rintro e w1 ⟨aB, cB, rfl, r3, b3⟩
              have B1 : Hid (Below W0.heap.size W0 w1) := by first | exact b3 | exact below_both (below_drewN (Below.refl W0.heap.size W0) _) b3
              have RB1 : Hid (Rd kT (fun b => W0.heap.size ≤ b) w1 aB cB x.b.args) := r3
              have K1 : Hid (w1.heap[w.heap.size]? = _) := (B1.out.block w.heap.size (by have := ZW.out; omega)).trans BK.out
              obtain ⟨-, ⟨a10, a11, a12, a13, a14⟩, ⟨b10, b11, b12, b13, b14⟩, sf1⟩ := st_block K1.out
              clear r3 b3)))
      | fail)
    all_goals
      refine ⟨aA, cA, aB, cB, rfl, ex_world fun W3 hW3 => ?_⟩
      have F3 : Far w.heap.size w2 W3 := by rw [hW3]; with_reducible repeat (first | exact Far.refl _ _ | refine Far.setCell ?_ _ | refine Far.drew ?_)
      have SM : Same (fun b => W0.heap.size ≤ b) w2 W3 := F3.same fun b hb => by have := ZW.out; omega
      refine ⟨?_, ((F3.2.2.2.2 _ (by omega)).trans (B2.out.block (w.heap.size + 1) (by have := ZW.out; omega))).trans BR.out, (below_then (B := w.heap.size) BW.out BW.out.size B2.out).trans (F3.below (Nat.le_refl _)), ?_, RA2.out.frame SM, RB2.out.frame SM⟩
      · rw [hW3]; simp [Hid, World.setCell, Array.getElem?_modify, K2.out]
      · have := F3.2.2.2.1
        have := B2.out.size
        have := ZW.out
        show _ ≤ _
        omega
  intro e a W3' hpost
  cases e <;> first | (cases hpost; done) | skip
  obtain ⟨aA, cA, aB, cB, rfl, W3, rfl, K3, BR3, B3, Z3, RA3, RB3⟩ := hpost
  try simp only [Exit.then, Exit.inBlock]
  obtain ⟨⟨-, -, -, s33⟩, -, -, sf3⟩ := st_block K3.out
  have sf33 := sf3 3
  clear a0 a1 a2 a3 a4 b0 b1 b2 b3 b4 sf sf3 BK BR
  go_wp2
  have hsl : x.subs.length ≤ 1099511627776 := hsn
  have z3 : w.heap.size + 2 ≤ W3.heap.size := Z3.out
  go_loopw [23] (fun i wr => ∃ (k : Nat) (v : Value), k ≤ x.subs.length ∧ i = .int .i64 k ∧ Hid (Own kSb 57 (fun b => W3.heap.size ≤ b) wr W3.heap.size v (x.subs.take k)) ∧ Hid (Below w.heap.size w wr) ∧ W3.heap.size ≤ wr.heap.size ∧
    Hid (wr.heap[w.heap.size]? = some (.cells #[.int .i64 x.kind, .slice fa rs.length fc, .int .i64 x.rule, v, .int .i64 x.a.op, .int .i64 x.a.width, .int .u64 x.a.val, .string x.a.name, .slice aA x.a.args.length cA, .int .i64 x.b.op, .int .i64 x.b.width, .int .u64 x.b.val, .string x.b.name, .slice aB x.b.args.length cB] 36 (0, 0))) ∧ Hid (Same (fun b => w.heap.size + 1 ≤ b ∧ b < W3.heap.size) W3 wr)) (fun i _ => x.subs.length - (intOf i).toNat)
  case atStart =>
    refine ⟨0, .slice none 0 0, by omega, rfl, Own.nil _ _ _ _ _, B3.out.setCell (p := ⟨w.heap.size, 3, none⟩) (Nat.le_refl _) _, by simp [World.setCell], ?_, Same.setCell W3 _ (fun b hb => by show b ≠ w.heap.size; omega)⟩
    simp [Hid, World.setCell, Array.getElem?_modify, K3.out]
  case round =>
    obtain ⟨k, v, hk, rfl, HO, HB, hz, HK, HSM⟩ := hrel
    obtain ⟨av, cv, hv⟩ := HO.out.form
    rw [List.length_take, Nat.min_eq_left hk] at hv
    subst hv
    by_cases hlt : k < x.subs.length
    · obtain ⟨b, o, a', c', rfl, hb, hr, ⟨e0, e1, e2, e3, e4, e5⟩⟩ := sb_elem (hS.out.frame (Same.below HB.out)) hlt
      have hfy := hfs _ (List.getElem_mem hlt)
      have hr' := Lib.hid hr
      clear hr
      have HY : Hid (x.subs.take (k + 1) = x.subs.take k ++ [x.subs[k]]) := List.take_succ_eq_append_getElem hlt
      generalize x.subs[k] = y at *
      have CT := Lib.hid (fun W hr => term_Copy' y.term hfy S a' c' W hr)
      go_wp2_with fail
      have HNW : Hid ((wr.alloc (.cells #[.string y.name, .int .i64 y.term.op, .int .i64 y.term.width, .int .u64 y.term.val, .string y.term.name, .slice a' y.term.args.length c'] 57)).heap[wr.heap.size]? = some (.cells #[.string y.name, .int .i64 y.term.op, .int .i64 y.term.width, .int .u64 y.term.val, .string y.term.name, .slice a' y.term.args.length c'] 57 (0, 0))) := heap_alloc_new wr _
      have S0 := Lib.hid (Same.alloc (fun _ => True) wr (.cells #[.string y.name, .int .i64 y.term.op, .int .i64 y.term.width, .int .u64 y.term.val, .string y.term.name, .slice a' y.term.args.length c'] 57))
      have BW0 := Lib.hid (below_alloc HB.out (.cells #[.string y.name, .int .i64 y.term.op, .int .i64 y.term.width, .int .u64 y.term.val, .string y.term.name, .slice a' y.term.args.length c'] 57))
      have z0 : Hid (wr.heap.size + 1 = (wr.alloc (.cells #[.string y.name, .int .i64 y.term.op, .int .i64 y.term.width, .int .u64 y.term.val, .string y.term.name, .slice a' y.term.args.length c'] 57)).heap.size) := by show _ = _; simp
      clear e0 e1 e2 e3 e4 e5
      generalize wr.alloc (.cells #[.string y.name, .int .i64 y.term.op, .int .i64 y.term.width, .int .u64 y.term.val, .string y.term.name, .slice a' y.term.args.length c'] 57) = V0 at *
      have KV0 : Hid (V0.heap[w.heap.size]? = _) := (S0.out.2 w.heap.size trivial (by omega)).trans HK.out
      have c0 : V0.cell? ⟨w.heap.size, 3, none⟩ = some (.slice av k cv) := (st_block KV0.out).1.2.2.2
      obtain ⟨d0, d1, d2, d3, d4, d5⟩ := sb_block HNW.out
      go_region_law (first
        | (go_simp; go_at_call 52
           refine (CT.out _ ((hr'.out.frame (S0.out.mono fun _ _ => trivial)).frame (by first | exact Same.refl _ _ | exact Same.drewN _ _ _))).mono ?_
           rintro e w1 ⟨a3, c3, rfl, r3, b3⟩
           have B3' : Hid (Below V0.heap.size V0 w1) := by first | exact b3 | exact below_both (below_drewN (Below.refl V0.heap.size V0) _) b3
           have z1 : Hid (wr.heap.size < w1.heap.size) := by have := B3'.out.size; have := z0.out; show _ < _; omega
           have KV1 : Hid (w1.heap[w.heap.size]? = _) := (B3'.out.block w.heap.size (by have := z0.out; omega)).trans KV0.out
           have HN1 : Hid (w1.heap[wr.heap.size]? = _) := (B3'.out.block wr.heap.size (by have := z0.out; omega)).trans HNW.out
           have cO1 : w1.cell? ⟨w.heap.size, 3, none⟩ = some (.slice av k cv) := (st_block KV1.out).1.2.2.2
           have dn1 : w1.cell? ⟨wr.heap.size, 0, none⟩ = some (.string y.name) := (sb_block HN1.out).1
           have cO1a : ∀ ob : Obj, (w1.alloc ob).cell? ⟨w.heap.size, 3, none⟩ = some (.slice av k cv) := fun ob => (st_block (block_alloc KV1.out ob)).1.2.2.2
           have dn1a : ∀ ob : Obj, (w1.alloc ob).cell? ⟨wr.heap.size, 0, none⟩ = some (.string y.name) := fun ob => (sb_block (block_alloc HN1.out ob)).1
           have O1 := Lib.hid ((HO.out.same (S0.out.mono fun _ _ => trivial)).below B3'.out)
           have K1 : Hid (kSb.K (fun b => W3.heap.size ≤ b ∧ some b ≠ (Value.slice av k cv).ownBlock) w1 (.string y.name :: tmCells y.term a3 c3) y) := ⟨a3, c3, rfl, r3.mono (fun b _ hs => ⟨by have : V0.heap.size ≤ b := hs; have := z0.out; omega, fun e => by have := (HO.out.lt b e.symm).2; have : V0.heap.size ≤ b := hs; have := z0.out; omega⟩)⟩
           have B1' := Lib.hid (below_then BW0.out BW0.out.size B3'.out)
           clear r3 b3)
        | ((with_reducible refine gate_s (.tmp 28) (.tmp 35) rfl ?_)
           refine step_append_ev _ rfl (.tmp 28) (.tmp 35) 29 rfl _ _ rfl rfl _ (run_app1 w1 infoSb rfl _ O1.out 57 (.string y.name :: tmCells y.term a3 c3) y K1.out (by simp; omega) (by simp; omega) (by have := z1.out; omega)) ?_
           rintro n2 w2 ⟨ow2, g2, v2, ac2, cc2, rfl⟩
           have O2 : Hid (Own kSb 57 (fun b => W3.heap.size ≤ b) w2 W3.heap.size (.slice ac2 (k + 1) cc2) (x.subs.take k ++ [y])) := by have ht := ow2; rw [List.length_take, Nat.min_eq_left hk] at ht; exact ht
           have KV2 : Hid (w2.heap[w.heap.size]? = _) := block_grown g2 KV1.out (fun e => by have := (HO.out.lt _ e.symm).1; omega)
           have cO2 : w2.cell? ⟨w.heap.size, 3, none⟩ = some (.slice av k cv) := (st_block KV2.out).1.2.2.2
           have fO2 : w2.frozen? ⟨w.heap.size, 3, none⟩ = false := (st_block KV2.out).2.2.2 3
           have B2 := Lib.hid (B1'.out.grown g2 B1'.out.size (fun k hk => by have := (HO.out.lt k hk).1; omega))
           have z2 : Hid (W3.heap.size ≤ w2.heap.size) := by have := g2.size; have := z1.out; show _ ≤ _; omega
           have S2 : Hid (Same (fun b => w.heap.size + 1 ≤ b ∧ b < W3.heap.size) W3 w2) := ((HSM.out.trans (S0.out.mono fun _ _ => trivial)).trans (Same.below B3'.out)).trans (Same.grown g2 fun b hb e => by have := (HO.out.lt b e.symm).1; omega)
           clear ow2 g2 v2)
        | fail)
      all_goals
        have FIN : Hid (∀ W, Far w.heap.size w2 W → W.heap[w.heap.size]? = some (.cells #[.int .i64 x.kind, .slice fa rs.length fc, .int .i64 x.rule, .slice ac2 (k + 1) cc2, .int .i64 x.a.op, .int .i64 x.a.width, .int .u64 x.a.val, .string x.a.name, .slice aA x.a.args.length cA, .int .i64 x.b.op, .int .i64 x.b.width, .int .u64 x.b.val, .string x.b.name, .slice aB x.b.args.length cB] 36 (0, 0)) → Hid (Own kSb 57 (fun b => W3.heap.size ≤ b) W W3.heap.size (.slice ac2 (k + 1) cc2) (x.subs.take (k + 1))) ∧ Hid (Below w.heap.size w W) ∧ W3.heap.size ≤ W.heap.size ∧
            Hid (W.heap[w.heap.size]? = some (.cells #[.int .i64 x.kind, .slice fa rs.length fc, .int .i64 x.rule, .slice ac2 (k + 1) cc2, .int .i64 x.a.op, .int .i64 x.a.width, .int .u64 x.a.val, .string x.a.name, .slice aA x.a.args.length cA, .int .i64 x.b.op, .int .i64 x.b.width, .int .u64 x.b.val, .string x.b.name, .slice aB x.b.args.length cB] 36 (0, 0))) ∧ Hid (Same (fun b => w.heap.size + 1 ≤ b ∧ b < W3.heap.size) W3 W)) := fun W F hW => by
          refine ⟨?_, B2.out.trans (F.below (Nat.le_refl _)), by have := F.2.2.2.1; have := z2.out; omega, hW, S2.out.trans (F.same fun b hb => by omega)⟩
          rw [HY.out]
          exact O2.out.same (F.same fun b hb => by
            rcases hb with hb | hb
            · omega
            · have := (O2.out.lt b hb.symm).1; omega)
        go_wp2
        go_roundw
        case rel =>
          refine ⟨k + 1, .slice ac2 (k + 1) cc2, by omega, by go_num, FIN.out _ ?_ ?_⟩
          · with_reducible repeat (first | exact Far.refl _ _ | refine Far.setCell ?_ _ | refine Far.drew ?_)
          · simp [World.setCell, Array.getElem?_modify, KV2.out]
        case measure => simp [intOf]; omega
    · obtain rfl : k = x.subs.length := by omega
      obtain ⟨⟨s0, s1, s2, s3⟩, ⟨a0, a1, a2, a3, a4⟩, ⟨b0, b1, b2, b3, b4⟩, -⟩ := st_block HK.out
      have HBR : Hid (wr.heap[w.heap.size + 1]? = _) := (HSM.out.2 (w.heap.size + 1) (by omega) (by omega)).trans BR3.out
      obtain ⟨⟨r0, r1, r2, r3⟩, ⟨q0, q1, q2, q3, q4⟩, ⟨t0, t1, t2, t3, t4⟩, tf⟩ := st_block HBR.out
      have HO' := HO.out
      rw [List.take_length] at HO'
      obtain ⟨a9, c9, e9, r9⟩ := HO'.rd
      cases e9
      have RS := Lib.hid r9
      clear r9 HO'
      have FIN : Hid (∀ W, Far (w.heap.size + 1) wr W → ∃ p', Ending.returned (.agg #[.int .i64 x.kind, .slice fa rs.length fc, .int .i64 x.rule, .slice av x.subs.length cv, .int .i64 x.a.op, .int .i64 x.a.width, .int .u64 x.a.val, .string x.a.name, .slice aA x.a.args.length cA, .int .i64 x.b.op, .int .i64 x.b.width, .int .u64 x.b.val, .string x.b.name, .slice aB x.b.args.length cB]) = .returned (stVal { x with refs := rs } p') ∧ p'.ra = fa ∧ p'.rc = fc ∧ Rd kSb (fun b => w.heap.size ≤ b) W p'.sa p'.sc x.subs ∧ Rd kT (fun b => w.heap.size ≤ b) W p'.aa p'.ac x.a.args ∧ Rd kT (fun b => w.heap.size ≤ b) W p'.ba p'.bc x.b.args ∧ Below w.heap.size w W) := fun W F => by
        have hz3 := ZW.out
        refine ⟨⟨fa, fc, av, cv, aA, cA, aB, cB⟩, rfl, rfl, rfl, ?_, ?_, ?_, HB.out.trans (F.below (by omega))⟩
        · refine (RS.out.frame (F.same fun b hb => ?_)).mono fun b _ hb => ?_
          · rcases hb with hb | hb <;> (have hb' : W3.heap.size ≤ b := hb; omega)
          · rcases hb with hb | hb <;> (have hb' : W3.heap.size ≤ b := hb; omega)
        · exact (((RA3.out.mono (S' := fun b => w.heap.size + 2 ≤ b ∧ b < W3.heap.size) (fun b hlt hs => ⟨by have hs' : W0.heap.size ≤ b := hs; omega, hlt⟩)).frame (HSM.out.mono fun b hb => ⟨by omega, hb.2⟩)).frame (F.same fun b hb => by omega)).mono fun b _ hb => by omega
        · exact (((RB3.out.mono (S' := fun b => w.heap.size + 2 ≤ b ∧ b < W3.heap.size) (fun b hlt hs => ⟨by have hs' : W0.heap.size ≤ b := hs; omega, hlt⟩)).frame (HSM.out.mono fun b hb => ⟨by omega, hb.2⟩)).frame (F.same fun b hb => by omega)).mono fun b _ hb => by omega
      go_wp2
      refine bodyPost_ret_block (cs := #[.int .i64 x.kind, .slice fa rs.length fc, .int .i64 x.rule, .slice av x.subs.length cv, .int .i64 x.a.op, .int .i64 x.a.width, .int .u64 x.a.val, .string x.a.name, .slice aA x.a.args.length cA, .int .i64 x.b.op, .int .i64 x.b.width, .int .u64 x.b.val, .string x.b.name, .slice aB x.b.args.length cB]) (t0 := 36) (w.heap.size + 1) (0, 0) _ rfl rfl (by simp [World.setCell, Array.getElem?_modify, HBR.out]) Tryd.underlying36 rfl (by kernel_rfl) rfl ?_
      refine FIN.out _ ?_
      with_reducible repeat (first | exact Far.refl _ _ | refine Far.setCell ?_ _ | refine Far.drew ?_)
end Go.Proofs.Sat
