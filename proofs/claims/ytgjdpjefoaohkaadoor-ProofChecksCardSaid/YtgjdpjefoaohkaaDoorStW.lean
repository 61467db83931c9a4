/- Steps of proofs as data: what a step's fourteen cells say. No program stands in it. -/
import Derived.Test.YtgjdpjefoaohkaaDoorTmW
set_option linter.unusedVariables false
set_option linter.unusedSimpArgs false
namespace Go.Proofs.Sat
open Go Go.RowKit
structure Sb where
  name : ByteArray
  term : Tm
structure St where
  kind : Int
  refs : List Int
  rule : Int
  subs : List Sb
  a : Tm
  b : Tm
/-- A substitution's six cells. -/
def kSb : Kd Sb where
  sz := 6
  K S w cs x := ∃ a c, cs = .string x.name :: tmCells x.term a c ∧ Rd kT S w a c x.term.args
  len h := by obtain ⟨a, c, rfl, _⟩ := h; rfl
  one h := by obtain ⟨a, c, rfl, _⟩ := h; intro u hu; simp [tmCells] at hu; rcases hu with rfl | rfl | rfl | rfl | rfl | rfl <;> rfl
  frame hs h := by obtain ⟨a, c, e, h⟩ := h; exact ⟨a, c, e, h.frame hs⟩
  mono hS h := by obtain ⟨a, c, e, h⟩ := h; exact ⟨a, c, e, h.mono hS⟩
/-- Where a step leads: its slices' addresses and capacities. -/
structure StAt where
  ra : Option Addr
  rc : Nat
  sa : Option Addr
  sc : Nat
  aa : Option Addr
  ac : Nat
  ba : Option Addr
  bc : Nat
/-- What its slices say. -/
structure StRd (S : Nat → Prop) (w : World) (x : St) (p : StAt) : Prop where
  refs : Rd (Kd.int .i64) S w p.ra p.rc x.refs
  subs : Rd kSb S w p.sa p.sc x.subs
  a : Rd kT S w p.aa p.ac x.a.args
  b : Rd kT S w p.ba p.bc x.b.args
theorem StRd.frame {S : Nat → Prop} {w w' : World} {x : St} {p : StAt} (hs : Same S w w') (h : StRd S w x p) : StRd S w' x p := ⟨h.refs.frame hs, h.subs.frame hs, h.a.frame hs, h.b.frame hs⟩
theorem StRd.mono {S S' : Nat → Prop} {w : World} {x : St} {p : StAt} (hS : ∀ b, b < w.heap.size → S b → S' b) (h : StRd S w x p) : StRd S' w x p := ⟨h.refs.mono hS, h.subs.mono hS, h.a.mono hS, h.b.mono hS⟩
abbrev stCells (x : St) (p : StAt) : List Value := [.int .i64 x.kind, .slice p.ra x.refs.length p.rc, .int .i64 x.rule, .slice p.sa x.subs.length p.sc,
  .int .i64 x.a.op, .int .i64 x.a.width, .int .u64 x.a.val, .string x.a.name, .slice p.aa x.a.args.length p.ac,
  .int .i64 x.b.op, .int .i64 x.b.width, .int .u64 x.b.val, .string x.b.name, .slice p.ba x.b.args.length p.bc]
abbrev stVal (x : St) (p : StAt) : Value := .agg #[.int .i64 x.kind, .slice p.ra x.refs.length p.rc, .int .i64 x.rule, .slice p.sa x.subs.length p.sc,
  .int .i64 x.a.op, .int .i64 x.a.width, .int .u64 x.a.val, .string x.a.name, .slice p.aa x.a.args.length p.ac,
  .int .i64 x.b.op, .int .i64 x.b.width, .int .u64 x.b.val, .string x.b.name, .slice p.ba x.b.args.length p.bc]
/-- A step's fourteen cells. -/
def kSt : Kd St where
  sz := 14
  K S w cs x := ∃ p, cs = stCells x p ∧ StRd S w x p
  len h := by obtain ⟨p, rfl, _⟩ := h; rfl
  one h := by
    obtain ⟨p, rfl, _⟩ := h
    intro u hu
    simp [stCells] at hu
    rcases hu with rfl | rfl | rfl | rfl | rfl | rfl | rfl | rfl | rfl | rfl | rfl | rfl | rfl | rfl <;> rfl
  frame hs h := by obtain ⟨p, e, h⟩ := h; exact ⟨p, e, h.frame hs⟩
  mono hS h := by obtain ⟨p, e, h⟩ := h; exact ⟨p, e, h.mono hS⟩
/-- A step's cells at a place. -/
structure StIn (w : World) (b o : Nat) (x : St) (p : StAt) : Prop where
  c0 : w.cell? ⟨b, o, none⟩ = some (.int .i64 x.kind)
  c1 : w.cell? ⟨b, o + 1, none⟩ = some (.slice p.ra x.refs.length p.rc)
  c2 : w.cell? ⟨b, o + 2, none⟩ = some (.int .i64 x.rule)
  c3 : w.cell? ⟨b, o + 3, none⟩ = some (.slice p.sa x.subs.length p.sc)
  c4 : w.cell? ⟨b, o + 4, none⟩ = some (.int .i64 x.a.op)
  c5 : w.cell? ⟨b, o + 5, none⟩ = some (.int .i64 x.a.width)
  c6 : w.cell? ⟨b, o + 6, none⟩ = some (.int .u64 x.a.val)
  c7 : w.cell? ⟨b, o + 7, none⟩ = some (.string x.a.name)
  c8 : w.cell? ⟨b, o + 8, none⟩ = some (.slice p.aa x.a.args.length p.ac)
  c9 : w.cell? ⟨b, o + 9, none⟩ = some (.int .i64 x.b.op)
  c10 : w.cell? ⟨b, o + 10, none⟩ = some (.int .i64 x.b.width)
  c11 : w.cell? ⟨b, o + 11, none⟩ = some (.int .u64 x.b.val)
  c12 : w.cell? ⟨b, o + 12, none⟩ = some (.string x.b.name)
  c13 : w.cell? ⟨b, o + 13, none⟩ = some (.slice p.ba x.b.args.length p.bc)
theorem StIn.frame {w w' : World} {b o : Nat} {x : St} {p : StAt} (h : StIn w b o x p) (hb : w'.heap[b]? = w.heap[b]?) : StIn w' b o x p := by
  have e : ∀ i, w'.cell? ⟨b, i, none⟩ = w.cell? ⟨b, i, none⟩ := fun i => World.cell?_of_block hb
  exact ⟨(e _).trans h.c0, (e _).trans h.c1, (e _).trans h.c2, (e _).trans h.c3, (e _).trans h.c4, (e _).trans h.c5, (e _).trans h.c6, (e _).trans h.c7, (e _).trans h.c8, (e _).trans h.c9, (e _).trans h.c10, (e _).trans h.c11, (e _).trans h.c12, (e _).trans h.c13⟩
/-- An element of a row of steps. -/
theorem st_elem {S : Nat → Prop} {w : World} {a : Option Addr} {c : Nat} {l : List St} (h : Rd kSt S w a c l) {j : Nat} (hj : j < l.length) : ∃ b o p, a = some ⟨b, o, none⟩ ∧ b < w.heap.size ∧ StRd S w l[j] p ∧ StIn w b (o + j * 14) l[j] p := by
  obtain ⟨b, o, cs, rfl, _, hb, hk', hc⟩ := h.elem hj
  obtain ⟨p, rfl, hr⟩ := hk'
  exact ⟨b, o, p, rfl, hb, hr, ⟨hc 0 _ rfl, hc 1 _ rfl, hc 2 _ rfl, hc 3 _ rfl, hc 4 _ rfl, hc 5 _ rfl, hc 6 _ rfl, hc 7 _ rfl, hc 8 _ rfl, hc 9 _ rfl, hc 10 _ rfl, hc 11 _ rfl, hc 12 _ rfl, hc 13 _ rfl⟩⟩
/-- An element of a row of substitutions. -/
structure SbIn (w : World) (b o : Nat) (x : Sb) (a : Option Addr) (c : Nat) : Prop where
  c0 : w.cell? ⟨b, o, none⟩ = some (.string x.name)
  c1 : w.cell? ⟨b, o + 1, none⟩ = some (.int .i64 x.term.op)
  c2 : w.cell? ⟨b, o + 2, none⟩ = some (.int .i64 x.term.width)
  c3 : w.cell? ⟨b, o + 3, none⟩ = some (.int .u64 x.term.val)
  c4 : w.cell? ⟨b, o + 4, none⟩ = some (.string x.term.name)
  c5 : w.cell? ⟨b, o + 5, none⟩ = some (.slice a x.term.args.length c)
theorem SbIn.frame {w w' : World} {b o : Nat} {x : Sb} {a : Option Addr} {c : Nat} (h : SbIn w b o x a c) (hb : w'.heap[b]? = w.heap[b]?) : SbIn w' b o x a c := by
  have e : ∀ i, w'.cell? ⟨b, i, none⟩ = w.cell? ⟨b, i, none⟩ := fun i => World.cell?_of_block hb
  exact ⟨(e _).trans h.c0, (e _).trans h.c1, (e _).trans h.c2, (e _).trans h.c3, (e _).trans h.c4, (e _).trans h.c5⟩
theorem sb_elem {S : Nat → Prop} {w : World} {a : Option Addr} {c : Nat} {l : List Sb} (h : Rd kSb S w a c l) {j : Nat} (hj : j < l.length) : ∃ b o a' c', a = some ⟨b, o, none⟩ ∧ b < w.heap.size ∧ Rd kT S w a' c' l[j].term.args ∧ SbIn w b (o + j * 6) l[j] a' c' := by
  obtain ⟨b, o, cs, rfl, _, hb, hk', hc⟩ := h.elem hj
  obtain ⟨a', c', rfl, hr⟩ := hk'
  exact ⟨b, o, a', c', rfl, hb, hr, ⟨hc 0 _ rfl, hc 1 _ rfl, hc 2 _ rfl, hc 3 _ rfl, hc 4 _ rfl, hc 5 _ rfl⟩⟩
end Go.Proofs.Sat
