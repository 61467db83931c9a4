/- Base, Ops, Ops2, one after the other. -/
import Derived.WalkKit
import Derived.KernelRfl
import Derived.OwnWalk
import Derived.Below
import Derived.Deep.Draws
import Derived.Lib.Hide
import Derived.Maps.AppendAt
import Derived.Deep.AppendLies
import Derived.RegionTactic
import Derived.Laws.Rows
import Derived.Laws.CopyOwn
import Derived.Laws.MakeOwn
import Derived.Laws.IdiomCopy
import Derived.Test.YtiepphjpfjfkmaaDoorProg
import Derived.Deep.QuietTactic
import Derived.BigQuiet
import Derived.Deep.LoopGhost
import Derived.Deep.RegionLaw
import Derived.Deep.RegionHeld3
set_option linter.unusedVariables false
set_option linter.unusedSimpArgs false
/- Plain words of ours for the walks: what a value's cells say (kinds), rows that a call reads or owns, and how they live on while memory grows. No program stands in it. -/
namespace Go.Proofs.Sat
open Go Go.RowKit

/-! ### Worlds -/
/-- A world that differs by draws alone. -/
def Drawn (w w' : World) : Prop := ∃ n, w' = w.drewN n
theorem Drawn.refl (w : World) : Drawn w w := ⟨0, rfl⟩
theorem Drawn.step {w w' : World} (h : Drawn w w') (n : Nat) : Drawn w (w'.drewN n) := by
  obtain ⟨m, rfl⟩ := h
  exact ⟨m + n, World.drewN_drewN ..⟩
theorem Drawn.trans {w w1 w2 : World} (h : Drawn w w1) (k : Drawn w1 w2) : Drawn w w2 := by
  obtain ⟨m, rfl⟩ := h
  obtain ⟨n, rfl⟩ := k
  exact ⟨m + n, World.drewN_drewN ..⟩
theorem Drawn.of (w : World) (n : Nat) : Drawn w (w.drewN n) := ⟨n, rfl⟩
theorem Drawn.drew {w w' : World} (h : Drawn w w') : Drawn w w'.drew := h.step 1
theorem Drawn.below {w w' : World} (h : Drawn w w') (B : Nat) : Below B w w' := by
  obtain ⟨n, rfl⟩ := h
  exact ⟨rfl, rfl, rfl, Nat.le_refl _, fun _ _ => rfl⟩
theorem Drawn.cell {w w' : World} (h : Drawn w w') {a : Addr} {o : Option Value} (hc : w.cell? a = o) : w'.cell? a = o := by obtain ⟨n, rfl⟩ := h; exact hc
theorem Drawn.frozen {w w' : World} (h : Drawn w w') {a : Addr} {b : Bool} (hc : w.frozen? a = b) : w'.frozen? a = b := by obtain ⟨n, rfl⟩ := h; exact hc
theorem Drawn.heap {w w' : World} (h : Drawn w w') {g : Nat} {o : Option Obj} (hc : w.heap[g]? = o) : w'.heap[g]? = o := by obtain ⟨n, rfl⟩ := h; exact hc
theorem Drawn.size {w w' : World} (h : Drawn w w') : w'.heap.size = w.heap.size := by obtain ⟨n, rfl⟩ := h; rfl
theorem below_drewN {B : Nat} {w W : World} (h : Below B w W) (n : Nat) : Below B w (W.drewN n) := ⟨h.os, h.tape, h.output, h.size, h.block⟩
theorem below_alloc {w W : World} (h : Below w.heap.size w W) (o : Obj) : Below w.heap.size w (W.alloc o) := h.alloc h.size o
theorem below_then {B : Nat} {w w1 w2 : World} (h : Below B w w1) (hB : B ≤ w1.heap.size) (k : Below w1.heap.size w1 w2) : Below B w w2 :=
  h.trans ⟨k.os, k.tape, k.output, k.size, fun i hi => k.block i (Nat.lt_of_lt_of_le hi hB)⟩
theorem below_both {w w1 w2 : World} (h : Below w.heap.size w w1) (k : Below w1.heap.size w1 w2) : Below w.heap.size w w2 := below_then h h.size k

theorem cell_of_block {w : World} {g : Nat} {v : Value} {t : TypeId} {fr : Nat × Nat} (h : w.heap[g]? = some (.cells #[v] t fr)) : w.cell? ⟨g, 0, none⟩ = some v := by simp [World.cell?, h]
theorem frozen_of_block {w : World} {g o : Nat} {c : Array Value} {t : TypeId} (h : w.heap[g]? = some (.cells c t (0, 0))) : w.frozen? ⟨g, o, none⟩ = false := by simp [World.frozen?, h]
theorem block_set {w : World} {g : Nat} {v u : Value} {t : TypeId} {fr : Nat × Nat} (h : w.heap[g]? = some (.cells #[v] t fr)) : (w.setCell ⟨g, 0, none⟩ u).heap[g]? = some (.cells #[u] t fr) := by
  simp [World.setCell, Array.getElem?_modify, h]
theorem block_alloc {w : World} {g : Nat} {ob : Obj} (h : w.heap[g]? = some ob) (o : Obj) : (w.alloc o).heap[g]? = some ob := (Below.heap_alloc w o g (Array.getElem?_eq_some_iff.1 h).1).trans h
theorem block_grown {w w' : World} {row : Option Nat} {g : Nat} {ob : Obj} (hg : w.grownBy w' row) (h : w.heap[g]? = some ob) (hne : some g ≠ row) : w'.heap[g]? = some ob := (hg.block g (Array.getElem?_eq_some_iff.1 h).1 hne).trans h
theorem block_below {w w' : World} {g : Nat} {ob : Obj} (hb : Below w.heap.size w w') (h : w.heap[g]? = some ob) : w'.heap[g]? = some ob := (hb.block g (Array.getElem?_eq_some_iff.1 h).1).trans h
theorem block_far {w : World} {g : Nat} {ob : Obj} (h : w.heap[g]? = some ob) {p : Addr} (u : Value) (hne : g ≠ p.block) : (w.setCell p u).heap[g]? = some ob := (Below.heap_setCell w p u g hne).trans h

/-- The blocks that S names (as far as there are such) hold what they held. -/
def Same (S : Nat → Prop) (w w' : World) : Prop := w.heap.size ≤ w'.heap.size ∧ ∀ b, S b → b < w.heap.size → w'.heap[b]? = w.heap[b]?
theorem Same.refl (S : Nat → Prop) (w : World) : Same S w w := ⟨Nat.le_refl _, fun _ _ _ => rfl⟩
theorem Same.drewN (S : Nat → Prop) (w : World) (n : Nat) : Same S w (w.drewN n) := ⟨Nat.le_refl _, fun _ _ _ => rfl⟩
theorem Same.drawn (S : Nat → Prop) {w w' : World} (h : Drawn w w') : Same S w w' := by
  obtain ⟨n, rfl⟩ := h
  exact Same.drewN S w n
theorem Same.below {S : Nat → Prop} {w w' : World} (h : Below w.heap.size w w') : Same S w w' := ⟨h.size, fun b _ hb => h.block b hb⟩
theorem Same.grown {S : Nat → Prop} {w w' : World} {row : Option Nat} (h : w.grownBy w' row) (hS : ∀ b, S b → some b ≠ row) : Same S w w' :=
  ⟨h.size, fun b hs hb => h.block b hb (hS b hs)⟩
theorem Same.alloc (S : Nat → Prop) (w : World) (o : Obj) : Same S w (w.alloc o) := ⟨by simp, fun b _ hb => Below.heap_alloc w o b hb⟩
theorem Same.setCell {S : Nat → Prop} (w : World) {p : Addr} (u : Value) (hS : ∀ b, S b → b ≠ p.block) : Same S w (w.setCell p u) :=
  ⟨by simp [World.setCell], fun b hs _ => Below.heap_setCell w p u b (hS b hs)⟩
theorem Same.mono {S S' : Nat → Prop} {w w' : World} (h : Same S' w w') (hS : ∀ b, S b → S' b) : Same S w w' := ⟨h.1, fun b hs hb => h.2 b (hS b hs) hb⟩
theorem Same.trans {S : Nat → Prop} {w w1 w2 : World} (h : Same S w w1) (k : Same S w1 w2) : Same S w w2 :=
  ⟨Nat.le_trans h.1 k.1, fun b hs hb => (k.2 b hs (Nat.lt_of_lt_of_le hb h.1)).trans (h.2 b hs hb)⟩

/-! ### Kinds -/
/-- No block. -/
abbrev NoS : Nat → Prop := fun _ => False
/-- What a value's cells say. S: the blocks that it may lead to. -/
structure Kd (α : Type) where
  sz : Nat
  K : (Nat → Prop) → World → List Value → α → Prop
  len : ∀ {S w cs x}, K S w cs x → cs.length = sz
  one : ∀ {S w cs x}, K S w cs x → ∀ u ∈ cs, u.oneCell' = true
  frame : ∀ {S w w' cs x}, Same S w w' → K S w cs x → K S w' cs x
  mono : ∀ {S S' : Nat → Prop} {w cs x}, (∀ b, b < w.heap.size → S b → S' b) → K S w cs x → K S' w cs x
/-- Values of one cell that lead nowhere. -/
def Kd.flat {α : Type} (enc : α → List Value) (n : Nat) (hn : ∀ x, (enc x).length = n) (h1 : ∀ x, ∀ u ∈ enc x, u.oneCell' = true) : Kd α where
  sz := n
  K _ _ cs x := cs = enc x
  len h := by subst h; exact hn _
  one h := by subst h; exact h1 _
  frame _ h := h
  mono _ h := h
/-- Values of one cell. -/
def Kd.val {α : Type} (enc : α → Value) (h1 : ∀ x, (enc x).oneCell' = true) : Kd α := Kd.flat (fun x => [enc x]) 1 (fun _ => rfl) (fun x u hu => by simp at hu; subst hu; exact h1 x)
abbrev Kd.int (k : IntKind) : Kd Int := Kd.val (fun x => .int k x) (fun _ => rfl)
abbrev Kd.bool : Kd Bool := Kd.val (fun x => .bool x) (fun _ => rfl)
abbrev Kd.str : Kd ByteArray := Kd.val (fun x => .string x) (fun _ => rfl)
/-- One behind the other. -/
def Kd.pair {α β : Type} (a : Kd α) (b : Kd β) : Kd (α × β) where
  sz := a.sz + b.sz
  K S w cs x := ∃ c1 c2, cs = c1 ++ c2 ∧ a.K S w c1 x.1 ∧ b.K S w c2 x.2
  len h := by obtain ⟨c1, c2, rfl, h1, h2⟩ := h; simp [a.len h1, b.len h2]
  one h := by
    obtain ⟨c1, c2, rfl, h1, h2⟩ := h
    intro u hu
    rcases List.mem_append.1 hu with hu | hu
    · exact a.one h1 u hu
    · exact b.one h2 u hu
  frame hs h := by obtain ⟨c1, c2, e, h1, h2⟩ := h; exact ⟨c1, c2, e, a.frame hs h1, b.frame hs h2⟩
  mono hS h := by obtain ⟨c1, c2, e, h1, h2⟩ := h; exact ⟨c1, c2, e, a.mono hS h1, b.mono hS h2⟩
/-- A Lean structure by its fields. -/
def Kd.iso {α β : Type} (d : Kd α) (f : β → α) : Kd β where
  sz := d.sz
  K S w cs x := d.K S w cs (f x)
  len h := d.len h
  one h := d.one h
  frame hs h := d.frame hs h
  mono hS h := d.mono hS h

/-- A row of elements at a place: what its cells say. -/
def Row {α : Type} (d : Kd α) (S : Nat → Prop) (w : World) (b o : Nat) (l : List α) : Prop :=
  S b ∧ b < w.heap.size ∧ ∀ j (hj : j < l.length), ∃ cs, d.K S w cs l[j] ∧ ∀ i u, cs[i]? = some u → w.cell? ⟨b, o + j * d.sz + i, none⟩ = some u
/-- A slice that is read: address, length (that of the list), capacity. -/
def Rd {α : Type} (d : Kd α) (S : Nat → Prop) (w : World) (a : Option Addr) (c : Nat) (l : List α) : Prop :=
  l.length ≤ c ∧ c ≤ 9223372036854775807 ∧ (0 < l.length → ∃ b o, a = some ⟨b, o, none⟩ ∧ Row d S w b o l)
theorem Row.frame {α : Type} {d : Kd α} {S : Nat → Prop} {w w' : World} {b o : Nat} {l : List α} (hs : Same S w w') (h : Row d S w b o l) : Row d S w' b o l := by
  obtain ⟨hb, hlt, h⟩ := h
  refine ⟨hb, Nat.lt_of_lt_of_le hlt hs.1, fun j hj => ?_⟩
  obtain ⟨cs, hk, hc⟩ := h j hj
  exact ⟨cs, d.frame hs hk, fun i u hu => (World.cell?_of_block (w := w) (hs.2 b hb hlt)).trans (hc i u hu)⟩
theorem Row.mono {α : Type} {d : Kd α} {S S' : Nat → Prop} {w : World} {b o : Nat} {l : List α} (hS : ∀ b, b < w.heap.size → S b → S' b) (h : Row d S w b o l) : Row d S' w b o l := by
  obtain ⟨hb, hlt, h⟩ := h
  refine ⟨hS _ hlt hb, hlt, fun j hj => ?_⟩
  obtain ⟨cs, hk, hc⟩ := h j hj
  exact ⟨cs, d.mono hS hk, hc⟩
theorem Rd.frame {α : Type} {d : Kd α} {S : Nat → Prop} {w w' : World} {a : Option Addr} {c : Nat} {l : List α} (hs : Same S w w') (h : Rd d S w a c l) : Rd d S w' a c l :=
  ⟨h.1, h.2.1, fun hp => by obtain ⟨b, o, e, hr⟩ := h.2.2 hp; exact ⟨b, o, e, hr.frame hs⟩⟩
theorem Rd.mono {α : Type} {d : Kd α} {S S' : Nat → Prop} {w : World} {a : Option Addr} {c : Nat} {l : List α} (hS : ∀ b, b < w.heap.size → S b → S' b) (h : Rd d S w a c l) : Rd d S' w a c l :=
  ⟨h.1, h.2.1, fun hp => by obtain ⟨b, o, e, hr⟩ := h.2.2 hp; exact ⟨b, o, e, hr.mono hS⟩⟩
theorem Rd.le {α : Type} {d : Kd α} {S : Nat → Prop} {w : World} {a : Option Addr} {c : Nat} {l : List α} (h : Rd d S w a c l) : l.length ≤ 9223372036854775807 := Nat.le_trans h.1 h.2.1
theorem Rd.nil {α : Type} (d : Kd α) (S : Nat → Prop) (w : World) (a : Option Addr) (c : Nat) (hc : c ≤ 9223372036854775807) : Rd d S w a c [] := ⟨by simp, hc, fun h => by simp at h⟩
/-- A slice as a kind. -/
def Kd.slice {α : Type} (d : Kd α) : Kd (List α) where
  sz := 1
  K S w cs l := ∃ a c, cs = [.slice a l.length c] ∧ Rd d S w a c l
  len h := by obtain ⟨a, c, rfl, _⟩ := h; rfl
  one h := by obtain ⟨a, c, rfl, _⟩ := h; intro u hu; simp at hu; subst hu; rfl
  frame hs h := by obtain ⟨a, c, e, h⟩ := h; exact ⟨a, c, e, h.frame hs⟩
  mono hS h := by obtain ⟨a, c, e, h⟩ := h; exact ⟨a, c, e, h.mono hS⟩

/-! Elements, cuts -/
section
variable {α : Type} {d : Kd α} {S : Nat → Prop} {w : World} {a : Option Addr} {c : Nat} {l : List α}
/-- Element j: its cells. -/
theorem Rd.elem (h : Rd d S w a c l) {j : Nat} (hj : j < l.length) : ∃ b o cs, a = some ⟨b, o, none⟩ ∧ S b ∧ b < w.heap.size ∧ d.K S w cs l[j] ∧ ∀ i u, cs[i]? = some u → w.cell? ⟨b, o + j * d.sz + i, none⟩ = some u := by
  obtain ⟨b, o, e, hb, hlt, hr⟩ := h.2.2 (by omega)
  obtain ⟨cs, hk, hc⟩ := hr j hj
  exact ⟨b, o, cs, e, hb, hlt, hk, hc⟩
theorem Rd.take (h : Rd d S w a c l) (n : Nat) (hn : n ≤ l.length) : Rd d S w a c (l.take n) := by
  refine ⟨by simp; have := h.1; omega, h.2.1, fun hp => ?_⟩
  have hp' : 0 < l.length := by simp at hp; omega
  obtain ⟨b, o, e, hb, hlt, hr⟩ := h.2.2 hp'
  refine ⟨b, o, e, hb, hlt, fun j hj => ?_⟩
  simp at hj
  obtain ⟨cs, hk, hc⟩ := hr j (by omega)
  exact ⟨cs, by simpa using hk, hc⟩
theorem Row.drop {b o : Nat} (h : Row d S w b o l) (n : Nat) : Row d S w b (o + n * d.sz) (l.drop n) := by
  obtain ⟨hb, hlt, hr⟩ := h
  refine ⟨hb, hlt, fun j hj => ?_⟩
  simp at hj
  obtain ⟨cs, hk, hc⟩ := hr (n + j) (by omega)
  refine ⟨cs, by simpa using hk, fun i u hu => ?_⟩
  have := hc i u hu
  rw [Nat.add_mul] at this
  rw [show o + n * d.sz + j * d.sz + i = o + (n * d.sz + j * d.sz) + i from by omega]
  exact this
end
/-! Elements of one cell -/
/-- A slice whose elements are of one cell: the form that the library's contracts ask. -/
theorem Rd.vals {α : Type} {enc : α → Value} {h1 : ∀ x, (enc x).oneCell' = true} {S : Nat → Prop} {w : World} {a : Option Addr} {c : Nat} {l : List α} (h : Rd (Kd.val enc h1) S w a c l) (hp : 0 < l.length) (d : α) :
    ∃ b o, a = some ⟨b, o, none⟩ ∧ S b ∧ b < w.heap.size ∧ ∀ j, j < l.length → w.cell? ⟨b, o + j, none⟩ = some (enc (l.getD j d)) := by
  obtain ⟨b, o, e, hb, hlt, hr⟩ := h.2.2 hp
  refine ⟨b, o, e, hb, hlt, fun j hj => ?_⟩
  obtain ⟨cs, hk, hc⟩ := hr j hj
  have hk' : cs = [enc l[j]] := hk
  subst hk'
  have := hc 0 (enc l[j]) (by simp)
  simp [Kd.val, Kd.flat] at this
  simp [hj, this]
theorem Rd.of_vals {α : Type} {enc : α → Value} {h1 : ∀ x, (enc x).oneCell' = true} {S : Nat → Prop} {w : World} {b o c : Nat} {l : List α} (d : α) (hc1 : l.length ≤ c) (hc2 : c ≤ 9223372036854775807) (hb : 0 < l.length → S b ∧ b < w.heap.size)
    (h : ∀ j, j < l.length → w.cell? ⟨b, o + j, none⟩ = some (enc (l.getD j d))) : Rd (Kd.val enc h1) S w (some ⟨b, o, none⟩) c l := by
  refine ⟨hc1, hc2, fun hp => ⟨b, o, rfl, (hb hp).1, (hb hp).2, fun j hj => ⟨[enc l[j]], rfl, fun i u hu => ?_⟩⟩⟩
  have hi : i = 0 := by
    rcases Nat.eq_zero_or_pos i with h | h
    · exact h
    · rw [List.getElem?_eq_none (by simp; omega)] at hu; cases hu
  subst hi
  simp at hu
  subst hu
  have := h j hj
  simp [hj] at this
  simpa [Kd.val, Kd.flat] using this
/-! ### Rows of the call's own -/
/-- What the elements' cells say, one element behind the other. -/
inductive Elems {α : Type} (d : Kd α) (S : Nat → Prop) (w : World) : List Value → List α → Prop where
  | nil : Elems d S w [] []
  | cons {c cs x xs} : d.K S w c x → Elems d S w cs xs → Elems d S w (c ++ cs) (x :: xs)
section
variable {α : Type} {d : Kd α} {S : Nat → Prop} {w : World}
theorem Elems.frame {w' : World} {cs : List Value} {xs : List α} (hs : Same S w w') (h : Elems d S w cs xs) : Elems d S w' cs xs := by
  induction h with
  | nil => exact .nil
  | cons hk _ ih => exact .cons (d.frame hs hk) ih
theorem Elems.mono {S' : Nat → Prop} {cs : List Value} {xs : List α} (hS : ∀ b, b < w.heap.size → S b → S' b) (h : Elems d S w cs xs) : Elems d S' w cs xs := by
  induction h with
  | nil => exact .nil
  | cons hk _ ih => exact .cons (d.mono hS hk) ih
theorem Elems.append {cs cs' : List Value} {xs xs' : List α} (h : Elems d S w cs xs) (h' : Elems d S w cs' xs') : Elems d S w (cs ++ cs') (xs ++ xs') := by
  induction h with
  | nil => simpa using h'
  | cons hk _ ih => rw [List.append_assoc]; exact .cons hk ih
theorem Elems.single {c : List Value} {x : α} (h : d.K S w c x) : Elems d S w c [x] := by simpa using Elems.cons h Elems.nil
theorem Elems.length {cs : List Value} {xs : List α} (h : Elems d S w cs xs) : cs.length = xs.length * d.sz := by
  induction h with
  | nil => simp
  | cons hk _ ih => simp [d.len hk, ih, Nat.add_mul]; omega
theorem Elems.one {cs : List Value} {xs : List α} (h : Elems d S w cs xs) : ∀ u ∈ cs, u.oneCell' = true := by
  induction h with
  | nil => simp
  | cons hk _ ih =>
    intro u hu
    rcases List.mem_append.1 hu with hu | hu
    · exact d.one hk u hu
    · exact ih u hu
theorem Elems.get {cs : List Value} {xs : List α} (h : Elems d S w cs xs) : ∀ j (hj : j < xs.length), ∃ c, d.K S w c xs[j] ∧ ∀ i u, c[i]? = some u → cs[j * d.sz + i]? = some u := by
  induction h with
  | nil => intro j hj; simp at hj
  | @cons c cs x xs hk _ ih =>
    intro j hj
    have hl := d.len hk
    cases j with
    | zero =>
      refine ⟨c, hk, fun i u hu => ?_⟩
      have hi : i < c.length := (List.getElem?_eq_some_iff.1 hu).1
      rw [Nat.zero_mul, Nat.zero_add, List.getElem?_append_left hi]
      exact hu
    | succ j =>
      obtain ⟨c', hk', hc'⟩ := ih j (by simpa using hj)
      refine ⟨c', by simpa using hk', fun i u hu => ?_⟩
      rw [List.getElem?_append_right (by rw [Nat.add_mul]; omega), show (j + 1) * d.sz + i - c.length = j * d.sz + i from by rw [Nat.add_mul]; omega]
      exact hc' i u hu
end
theorem elems_vals {α : Type} {enc : α → Value} {h1 : ∀ x, (enc x).oneCell' = true} {S : Nat → Prop} {w : World} (l : List α) : Elems (Kd.val enc h1) S w (l.map enc) l := by
  induction l with
  | nil => exact .nil
  | cons x l ih => exact Elems.cons (c := [enc x]) rfl ih
theorem elems_vals_eq {α : Type} {enc : α → Value} {h1 : ∀ x, (enc x).oneCell' = true} {S : Nat → Prop} {w : World} {cs : List Value} {l : List α} (h : Elems (Kd.val enc h1) S w cs l) : cs = l.map enc := by
  induction h with
  | nil => rfl
  | cons hk _ ih =>
    have hk' : _ = [enc _] := hk
    subst hk'
    simp [ih]

/-- A row of elements (type e) of the call's own, in blocks from base on; what the elements lead to lies in S and is not this row. -/
def Own {α : Type} (d : Kd α) (e : TypeId) (S : Nat → Prop) (w : World) (base : Nat) (v : Value) (xs : List α) : Prop :=
  ∃ cs, w.ownsRow base e d.sz v xs.length cs ∧ Elems d (fun b => S b ∧ some b ≠ v.ownBlock) w cs xs
section
variable {α : Type} {d : Kd α} {e : TypeId} {S : Nat → Prop} {w : World} {base : Nat} {v : Value} {xs : List α}
theorem Own.nil (d : Kd α) (e : TypeId) (S : Nat → Prop) (w : World) (base : Nat) : Own d e S w base (.slice none 0 0) [] := ⟨[], World.ownsRow_nil .., .nil⟩
theorem Own.lt (h : Own d e S w base v xs) : ∀ k, v.ownBlock = some k → base ≤ k ∧ k < w.heap.size := by
  obtain ⟨cs, ho, _⟩ := h
  exact ho.lt
theorem Own.same {w' : World} (hs : Same (fun b => S b ∨ some b = v.ownBlock) w w') (h : Own d e S w base v xs) : Own d e S w' base v xs := by
  obtain ⟨cs, ho, he⟩ := h
  refine ⟨cs, ⟨ho.1, ?_⟩, he.frame (hs.mono fun b hb => .inl hb.1)⟩
  rcases ho.2 with hn | ⟨g, cap, cur, rfl, hb, hg, rest⟩
  · exact .inl hn
  · refine .inr ⟨g, cap, cur, rfl, hb, ?_, rest⟩
    rw [hs.2 g (.inr rfl) (Array.getElem?_eq_some_iff.1 hg).1]
    exact hg
theorem Own.below {w' : World} (h : Own d e S w base v xs) (hb : Below w.heap.size w w') : Own d e S w' base v xs := h.same (Same.below hb)
theorem Own.drewN (h : Own d e S w base v xs) (n : Nat) : Own d e S (w.drewN n) base v xs := h.same (Same.drewN _ _ _)
theorem Own.drew (h : Own d e S w base v xs) : Own d e S w.drew base v xs := h.drewN 1
theorem Own.alloc (h : Own d e S w base v xs) (o : Obj) : Own d e S (w.alloc o) base v xs := h.same (Same.alloc _ _ _)
theorem Own.drawn {w' : World} (h : Own d e S w base v xs) (hb : Drawn w w') : Own d e S w' base v xs := h.same (Same.drawn _ hb)
theorem Own.mono {S' : Nat → Prop} {base' : Nat} (hS : ∀ b, b < w.heap.size → S b → S' b) (hB : base' ≤ base) (h : Own d e S w base v xs) : Own d e S' w base' v xs := by
  obtain ⟨cs, ho, he⟩ := h
  refine ⟨cs, ⟨ho.1, ?_⟩, he.mono fun b hb hs => ⟨hS b hb hs.1, hs.2⟩⟩
  rcases ho.2 with hn | ⟨g, cap, cur, rfl, hb, rest⟩
  · exact .inl hn
  · exact .inr ⟨g, cap, cur, rfl, Nat.le_trans hB hb, rest⟩
theorem Own.form (h : Own d e S w base v xs) : ∃ a c, v = .slice a xs.length c := by
  obtain ⟨cs, ho, _⟩ := h
  rcases ho.2 with ⟨rfl, h0⟩ | ⟨g, cap, cur, rfl, _⟩
  · exact ⟨none, 0, by rw [h0]⟩
  · exact ⟨_, cap, rfl⟩
/-- What is owned reads. -/
theorem Own.rd (h : Own d e S w base v xs) : ∃ a c, v = .slice a xs.length c ∧ Rd d (fun b => S b ∨ base ≤ b) w a c xs := by
  obtain ⟨cs, ho, he⟩ := h
  rcases ho.2 with ⟨rfl, h0⟩ | ⟨g, cap, cur, rfl, hb, hg, h1, h2, h3, h4⟩
  · exact ⟨none, 0, by rw [h0], by omega, by omega, fun hp => by omega⟩
  · refine ⟨_, cap, rfl, h1, by simpa [maxLen] using h2, fun hp => ⟨g, 0, rfl, .inr hb, (Array.getElem?_eq_some_iff.1 hg).1, fun j hj => ?_⟩⟩
    obtain ⟨c, hk, hc⟩ := he.get j hj
    refine ⟨c, d.mono (fun b _ hb => .inl hb.1) hk, fun i u hu => ?_⟩
    have hu' := hc i u hu
    have hcell := ho.cells (g := g) rfl _ u hu'
    rw [show (⟨g, 0, none⟩ : Addr).add (j * d.sz + i) = ⟨g, 0 + j * d.sz + i, none⟩ from by unfold Addr.add; split <;> simp_all] at hcell
    exact hcell
theorem Own.kind (h : Own d e S w base v xs) : (Kd.slice d).K (fun b => S b ∨ base ≤ b) w [v] xs := by
  obtain ⟨a, c, rfl, hr⟩ := h.rd
  exact ⟨a, c, rfl, hr⟩
/-- What an append leaves. -/
theorem Own.appended {w' : World} {v' : Value} {cs news : List Value} {ys : List α}
    (ho : w'.ownsRow base e d.sz v' (xs.length + ys.length) (cs ++ news)) (hg : w.grownBy w' v.ownBlock)
    (he : Elems d (fun b => S b ∧ some b ≠ v.ownBlock) w cs xs) (hn : Elems d (fun b => S b ∧ some b ≠ v.ownBlock) w news ys)
    (hv : v'.ownBlock = v.ownBlock ∨ ∀ k, v'.ownBlock = some k → w.heap.size ≤ k) (hlt : ∀ b, S b → b < w.heap.size) : Own d e S w' base v' (xs ++ ys) := by
  have hs : Same (fun b => S b ∧ some b ≠ v.ownBlock) w w' := Same.grown hg fun b hb => hb.2
  have hall := (he.append hn).frame hs
  refine ⟨cs ++ news, by simpa using ho, hall.mono fun b _ hb => ⟨hb.1, ?_⟩⟩
  rcases hv with hv | hv
  · rw [hv]; exact hb.2
  · intro e
    have := hv b e.symm
    have := hlt b hb.1
    omega
end
theorem ret_bool {a b : Bool} (h : a = b) : Ending.returned (.bool a) = .returned (.bool b) := by rw [h]
theorem ret_int {k : IntKind} {a b : Int} (h : a = b) : Ending.returned (.int k a) = .returned (.int k b) := by rw [h]
theorem val_any {α : Type} {enc : α → Value} {h1 : ∀ x, (enc x).oneCell' = true} {S S' : Nat → Prop} {w : World} : ∀ cs x, (Kd.val enc h1).K S w cs x → (Kd.val enc h1).K S' w cs x := fun _ _ h => h
theorem Rd.lt {α : Type} {d : Kd α} {S : Nat → Prop} {w : World} {a : Option Addr} {c : Nat} {l : List α} (h : Rd d S w a c l) : Rd d (fun b => b < w.heap.size) w a c l := h.mono fun _ hb _ => hb
theorem same_since {α : Type} {d : Kd α} {e : TypeId} {S : Nat → Prop} {w w' : World} {H : Nat} {v : Value} {xs : List α} (ho : Own d e S w H v xs) (hg : w.grownBy w' v.ownBlock) : Same (fun b => b < H) w w' :=
  Same.grown hg fun b hb e => by have := (ho.lt b e.symm).1; omega
end Go.Proofs.Sat
/- Laws of ours for the walks: append, make and copy over rows of a call's own, in the words of Base. No program stands in it. -/
namespace Go.Proofs.Sat
open Go Go.RowKit
section
variable {P : Program} {α : Type} {d : Kd α}

theorem add_plain (g o j : Nat) : (⟨g, o, none⟩ : Addr).add j = ⟨g, o + j, none⟩ := by unfold Addr.add; split <;> simp_all

/-- What is told of an element type. -/
structure ElemInfo (P : Program) (t e : TypeId) (z : Value) (size bytes : Nat) : Prop where
  ht : P.underlying t = some (.slice e)
  hi : (P.info? e).map (fun i => (i.zero, i.size, i.bytes)) = some (some z, size, bytes)
  hz : z.cells.size = size
  hs : 0 < size

/-- append(v, ys...): the new cells lie at ad. -/
theorem run_app (w : World) {t e : TypeId} {z : Value} {size bytes : Nat} (I : ElemInfo P t e z size bytes) (hd : d.sz = size) (ty : TypeId) {S : Nat → Prop} {base : Nat} {v : Value} {xs : List α} (hown : Own d e S w base v xs)
    (ad : Addr) (m c : Nat) (news : List Value) (ys : List α) (hm : ys.length = m) (hn : Elems d (fun b => S b ∧ some b ≠ v.ownBlock) w news ys) (hnews : ∀ j u, news[j]? = some u → w.cell? (ad.add j) = some u)
    (hb : (xs.length + m) * bytes ≤ 140737488355328) (h63 : xs.length + m ≤ 9223372036854775807) (hbase : base ≤ w.heap.size) :
    ∃ v' w', (Builtin.append_ #[t, t] ty #[v, .slice (some ad) m c]).run P w = .ok v' w' ∧ Own d e S w' base v' (xs ++ ys) ∧ w.grownBy w' v.ownBlock ∧ (v'.ownBlock = v.ownBlock ∨ v'.ownBlock = some w.heap.size) := by
  obtain ⟨cs, ho, he⟩ := hown
  obtain ⟨i, hi, h1, h2, h3⟩ := info_parts I.hi
  subst hd
  have hl : news.length = m * d.sz := by rw [hn.length, hm]
  obtain ⟨v', w', hr, hown', hg, _, hv⟩ := run_append_own_at (P := P) w base t ty e i z d.sz bytes I.ht hi h1 h2 h3 I.hz I.hs v xs.length cs ho ad m c news hl hnews hn.one (by simpa [maxLen] using h63) hb hbase
  refine ⟨v', w', hr, ?_, hg, hv⟩
  have hs : Same (fun b => (S b ∧ some b ≠ v.ownBlock) ∧ b < w.heap.size) w w' := Same.grown hg fun b hb => hb.1.2
  have hall := ((he.append hn).mono (S' := fun b => (S b ∧ some b ≠ v.ownBlock) ∧ b < w.heap.size) fun b hb h => ⟨h, hb⟩).frame hs
  refine ⟨cs ++ news, by simpa [hm] using hown', hall.mono fun b _ hb => ⟨hb.1.1, ?_⟩⟩
  rcases hv with hv | hv
  · rw [hv]; exact hb.1.2
  · rw [hv]; intro e; cases e; have := hb.2; omega
theorem new_cells (w : World) (cs : List Value) (t : TypeId) : ∀ j u, cs[j]? = some u → (w.alloc (.cells cs.toArray t)).cell? ((⟨w.heap.size, 0, none⟩ : Addr).add j) = some u := by
  intro j u hu
  rw [add_plain, Nat.zero_add, cell_of_row _ w.heap.size j cs.toArray t (0, 0) (heap_alloc_new w _)]
  simpa using hu
/-- append(v, x): the variadic's box has just been made. -/
theorem run_app1 (w : World) {t e : TypeId} {z : Value} {size bytes : Nat} (I : ElemInfo P t e z size bytes) (hd : d.sz = size) (ty : TypeId) {S : Nat → Prop} {base : Nat} {v : Value} {xs : List α} (hown : Own d e S w base v xs)
    (t0 : TypeId) (cs : List Value) (x : α) (hk : d.K (fun b => S b ∧ some b ≠ v.ownBlock) w cs x) (hb : (xs.length + 1) * bytes ≤ 140737488355328) (h63 : xs.length + 1 ≤ 9223372036854775807) (hbase : base ≤ w.heap.size) :
    ∃ v' w', (Builtin.append_ #[t, t] ty #[v, .slice (some ⟨w.heap.size, 0, none⟩) 1 1]).run P (w.alloc (.cells cs.toArray t0)) = .ok v' w' ∧ Own d e S w' base v' (xs ++ [x]) ∧ w.grownBy w' v.ownBlock ∧
      (v'.ownBlock = v.ownBlock ∨ ∀ k, v'.ownBlock = some k → w.heap.size ≤ k) ∧ ∃ a c, v' = .slice a (xs.length + 1) c := by
  obtain ⟨v', w', h1, h2, h3, h4⟩ := run_app (w.alloc (.cells cs.toArray t0)) I hd ty (hown.alloc _) ⟨w.heap.size, 0, none⟩ 1 1 cs [x] rfl (Elems.single (d.frame (Same.alloc _ _ _) hk)) (new_cells w cs t0) hb h63 (by simp; omega)
  refine ⟨v', w', h1, h2, (World.grownBy_alloc w _ _).trans h3, ?_, by simpa using h2.form⟩
  rcases h4 with h4 | h4
  · exact .inl h4
  · right; intro k hk; rw [h4] at hk; cases hk; simp
theorem run_append_nil_src (w : World) {t e : TypeId} {z : Value} {size bytes : Nat} (I : ElemInfo P t e z size bytes) (ty : TypeId) {S : Nat → Prop} {base : Nat} {v : Value} {xs : List α} (hown : Own d e S w base v xs) (c : Nat) :
    (Builtin.append_ #[t, t] ty #[v, .slice none 0 c]).run P w = .ok v w := by
  obtain ⟨cs, ho, he⟩ := hown
  obtain ⟨i, hi, h1, h2, h3⟩ := info_parts I.hi
  rcases ho.2 with ⟨rfl, h0⟩ | ⟨g, cap, cur, rfl, hb, hg, hle, _⟩
  · simp [Builtin.append_, run_underlying I.ht, sizeOf, typeInfo, hi, Builtin.lenOf, Builtin.firstCells, loadCells, loadCellsFrom]
  · simp [Builtin.append_, run_underlying I.ht, sizeOf, typeInfo, hi, Builtin.lenOf, Builtin.firstCells, loadCells, loadCellsFrom, hle, storeCells]
theorem row_cells {S : Nat → Prop} {w : World} {b o : Nat} {l : List α} (h : Row d S w b o l) : ∃ cs, Elems d S w cs l ∧ ∀ j u, cs[j]? = some u → w.cell? ⟨b, o + j, none⟩ = some u := by
  induction l generalizing o with
  | nil => exact ⟨[], .nil, fun j u hu => by simp at hu⟩
  | cons x l ih =>
    obtain ⟨c, hk, hc⟩ := h.2.2 0 (by simp)
    have h' := h.drop 1
    simp only [List.drop_one, List.tail_cons, Nat.one_mul] at h'
    obtain ⟨cs, he, hcs⟩ := ih h'
    have hl := d.len hk
    refine ⟨c ++ cs, .cons (by simpa using hk) he, fun j u hu => ?_⟩
    rcases Nat.lt_or_ge j c.length with hj | hj
    · rw [List.getElem?_append_left hj] at hu
      simpa using hc j u hu
    · rw [List.getElem?_append_right hj] at hu
      have := hcs _ u hu
      rw [show o + d.sz + (j - c.length) = o + j from by omega] at this
      exact this
/-- append(v, ys...), ys a slice that is read. -/
theorem run_app_rd (w : World) {t e : TypeId} {z : Value} {size bytes : Nat} (I : ElemInfo P t e z size bytes) (hd : d.sz = size) (ty : TypeId) {S Sy : Nat → Prop} {base : Nat} {v : Value} {xs : List α} (hown : Own d e S w base v xs)
    (sa : Option Addr) (c m : Nat) (ys : List α) (hm : ys.length = m) (hy : Rd d Sy w sa c ys) (hS : ∀ cs x, d.K Sy w cs x → d.K (fun b => S b ∧ some b ≠ v.ownBlock) w cs x)
    (hb : (xs.length + m) * bytes ≤ 140737488355328) (h63 : xs.length + m ≤ 9223372036854775807) (hbase : base ≤ w.heap.size) :
    ∃ v' w', (Builtin.append_ #[t, t] ty #[v, .slice sa m c]).run P w = .ok v' w' ∧ Own d e S w' base v' (xs ++ ys) ∧ w.grownBy w' v.ownBlock ∧ (v'.ownBlock = v.ownBlock ∨ v'.ownBlock = some w.heap.size) := by
  subst hm
  rcases Nat.eq_zero_or_pos ys.length with h0 | hp
  · obtain rfl : ys = [] := List.eq_nil_of_length_eq_zero h0
    cases sa with
    | none => exact ⟨v, w, run_append_nil_src w I ty hown c, by simpa using hown, World.grownBy.refl _ _, .inl rfl⟩
    | some ad => exact run_app w I hd ty hown ad 0 c [] [] rfl .nil (fun j u hu => by simp at hu) (by simpa using hb) (by simpa using h63) hbase
  · obtain ⟨b, o, rfl, hr⟩ := hy.2.2 hp
    obtain ⟨cs, he, hc⟩ := row_cells hr
    refine run_app w I hd ty hown ⟨b, o, none⟩ ys.length c cs ys rfl ?_ (fun j u hu => by rw [add_plain]; exact hc j u hu) hb h63 hbase
    clear hc hb h63 hy hp hr
    induction he with
    | nil => exact .nil
    | cons hk _ ih => exact .cons (hS _ _ hk) ih
end
section
variable {P : Program}
/-- A row of one-cell elements: its block. -/
theorem Own.block {α : Type} {enc : α → Value} {h1 : ∀ x, (enc x).oneCell' = true} {e : TypeId} {S : Nat → Prop} {w : World} {base : Nat} {v : Value} {xs : List α} (h : Own (Kd.val enc h1) e S w base v xs) :
    (v = .slice none 0 0 ∧ xs = []) ∨ ∃ g cap cur, v = .slice (some ⟨g, 0, none⟩) xs.length cap ∧ base ≤ g ∧ g < w.heap.size ∧ w.heap[g]? = some (.cells cur e (0, 0)) ∧ xs.length ≤ cap ∧ cap ≤ maxLen ∧ cur.size = cap ∧ cur.toList.take xs.length = xs.map enc := by
  obtain ⟨cs, ho, he⟩ := h
  have hcs := elems_vals_eq he
  subst hcs
  rcases ho.2 with ⟨rfl, h0⟩ | ⟨g, cap, cur, rfl, hb, hg, h2, h3, h4, h5⟩
  · exact .inl ⟨rfl, List.eq_nil_of_length_eq_zero h0⟩
  · exact .inr ⟨g, cap, cur, rfl, hb, (Array.getElem?_eq_some_iff.1 hg).1, hg, h2, h3, by simpa [Kd.val, Kd.flat] using h4, by simpa [Kd.val, Kd.flat] using h5⟩
theorem Own.of_block {α : Type} {enc : α → Value} {h1 : ∀ x, (enc x).oneCell' = true} {e : TypeId} (S : Nat → Prop) {w : World} {base g cap : Nat} {cur : Array Value} {xs : List α} (hb : base ≤ g) (hg : w.heap[g]? = some (.cells cur e (0, 0)))
    (h2 : xs.length ≤ cap) (h3 : cap ≤ maxLen) (h4 : cur.size = cap) (h5 : cur.toList.take xs.length = xs.map enc) : Own (Kd.val enc h1) e S w base (.slice (some ⟨g, 0, none⟩) xs.length cap) xs :=
  ⟨xs.map enc, ⟨by simp [Kd.val, Kd.flat], .inr ⟨g, cap, cur, rfl, hb, hg, h2, h3, by simpa [Kd.val, Kd.flat] using h4, by simpa [Kd.val, Kd.flat] using h5⟩⟩, elems_vals xs⟩
theorem madeCells_one (z : Value) (n : Nat) : (madeCells #[z] n).toList = List.replicate n z := by
  apply List.ext_getElem (by simp [madeCells])
  intro j h1 h2
  simp [madeCells, Nat.mod_one]
/-- make([]T, n), T of one cell. -/
theorem run_mk (w : World) {α : Type} {enc : α → Value} (h1 : ∀ x, (enc x).oneCell' = true) {t e : TypeId} {x0 : α} {bytes : Nat} (I : ElemInfo P t e (enc x0) 1 bytes) (S : Nat → Prop) {base : Nat} (kl kc : IntKind) (L C : Int) (n : Nat) (hL : L = n) (hC : C = n)
    (hb : bytes * n ≤ 281474976710656) (h63 : n ≤ 9223372036854775807) (hbase : base ≤ w.heap.size) :
    ∃ v' w', (Instr.makeSlice t (.int kl L) (.int kc C)).run P w = .ok v' w' ∧ Own (Kd.val enc h1) e S w' base v' (List.replicate n x0) ∧ w.grownBy w' none ∧ v' = .slice (some ⟨w.heap.size, 0, none⟩) n n := by
  obtain ⟨i, hi, h2, h3, h4⟩ := info_parts I.hi
  subst hL hC
  obtain ⟨w', hr, ho, hg⟩ := run_make_full (P := P) w base t e i _ 1 I.ht hi h2 h3 kl kc n (by rw [h4]; exact hb) (by simpa [maxLen] using h63) hbase
  refine ⟨_, w', hr, ?_, hg, rfl⟩
  have hc : (enc x0).cells = #[enc x0] := by
    have := h1 x0
    cases hv : enc x0 <;> simp_all [Value.cells, Value.oneCell']
  rw [hc, Nat.mul_one, madeCells_one] at ho
  rcases ho.2 with ⟨h, _⟩ | ⟨g, cap, cur, hv, hb', hg', q1, q2, q3, q4⟩
  · cases h
  · cases hv
    have := Own.of_block (enc := enc) (h1 := h1) (xs := List.replicate n x0) S hb' hg' (by simp) q2 (by simpa using q3) (by simpa using q4)
    simpa using this
/-- copy(v, ys), as long as v is. -/
theorem run_cp (w : World) {α : Type} {enc : α → Value} {h1 : ∀ x, (enc x).oneCell' = true} {t e t2 : TypeId} {z : Value} {bytes : Nat} (I : ElemInfo P t e z 1 bytes) (ty : TypeId) {S Sy : Nat → Prop} {base : Nat} {v : Value} {xs ys : List α} (hown : Own (Kd.val enc h1) e S w base v xs)
    (sa : Option Addr) (c : Nat) (hy : Rd (Kd.val enc h1) Sy w sa c ys) (hlen : ys.length = xs.length) :
    ∃ r w', (Builtin.copy_ #[t, t2] ty #[v, .slice sa ys.length c]).run P w = .ok r w' ∧ Own (Kd.val enc h1) e S w' base v ys ∧ w.grownBy w' v.ownBlock := by
  obtain ⟨i, hi, h2, h3, h4⟩ := info_parts I.hi
  have hsz : (P.info? e).map (·.size) = some 1 := by rw [hi]; simp [h3]
  rcases Nat.eq_zero_or_pos ys.length with h0 | hp
  · obtain rfl : ys = [] := List.eq_nil_of_length_eq_zero h0
    obtain rfl : xs = [] := List.eq_nil_of_length_eq_zero (by simpa using hlen.symm)
    obtain ⟨a, cc, rfl⟩ := hown.form
    have hrun := run_copy_none (P := P) w t t2 ty e a sa 0 cc 0 c I.ht hsz (by simp)
    exact ⟨_, w, hrun, hown, World.grownBy.refl _ _⟩
  · obtain ⟨b, o, rfl, _, _, hc⟩ := hy.vals hp (ys[0])
    rcases hown.block with ⟨_, rfl⟩ | ⟨g, cap, cur, rfl, hb, hlt, hg, q1, q2, q3, q4⟩
    · simp only [List.length_nil] at hlen; omega
    · have hrun := run_copy_row (P := P) w t t2 ty e g 0 xs.length cap ⟨b, o, none⟩ ys.length c cur e (ys.map enc) I.ht hsz hg (by simp [hlen]) (fun j u hu => by
        rw [add_plain]
        simp only [List.getElem?_map, Option.map_eq_some_iff] at hu
        obtain ⟨x, hx, rfl⟩ := hu
        have hj := (List.getElem?_eq_some_iff.1 hx).1
        rw [hc j hj, List.getD_eq_getElem?_getD, hx]; rfl) (by simp; omega) (fun u hu => by simp at hu; obtain ⟨x, _, rfl⟩ := hu; exact h1 x)
      refine ⟨_, _, hrun, ?_, ⟨rfl, rfl, rfl, by simp, fun k _ hk => setRow_other w g k _ (fun e => hk (by simp [Value.ownBlock, e]))⟩⟩
      have hgr := setRow_heap w g cur (cur.toList.take 0 ++ ys.map enc ++ cur.toList.drop (0 + (ys.map enc).length)).toArray e (0, 0) hg
      have := Own.of_block (enc := enc) (h1 := h1) (xs := ys) S hb hgr (by omega) q2 (by simp; omega) (by simp [← hlen])
      rw [← hlen]
      exact this
/-- 'xs[m:]'. -/
theorem cut_from {α : Type} (d : Kd α) {t e : TypeId} {z : Value} {size bytes : Nat} (I : ElemInfo P t e z size bytes) (hd : d.sz = size) (A : Option Addr) (n c m : Nat) (hm : m ≤ n) :
    ∃ A' : Option Addr, (∀ W : World, (Instr.slice t (.slice A n c) (some (.int .i64 (m : Int))) none none).run P W = .ok (.slice A' (n - m) (c - m)) W) ∧
      ∀ (S : Nat → Prop) (w : World) (l : List α), l.length = n → Rd d S w A c l → Rd d S w A' (c - m) (l.drop m) := by
  obtain ⟨i, hi, h2, h3, h4⟩ := info_parts I.hi
  refine ⟨if c = m then A else A.map (·.add (m * size)), fun W => ?_, fun S w l hl h => ?_⟩
  · have hel : P.elem t = e := by simp [Program.elem, I.ht]
    have hu : P.underlying t = some (.slice (P.elem t)) := by rw [hel]; exact I.ht
    rw [run_slice_l W t A n c hu .i64 (m : Int) (Int.natCast_nonneg _) (by omega), hel]
    simp [sizeOf, typeInfo, hi, h3, sliced, Result.andThen]
  · refine ⟨by rw [List.length_drop]; have := h.1; omega, by have := h.2.1; omega, fun hp => ?_⟩
    rw [List.length_drop] at hp
    obtain ⟨b, o, rfl, hr⟩ := h.2.2 (by omega)
    have := h.1
    rw [if_neg (by omega)]
    refine ⟨b, o + m * d.sz, ?_, hr.drop m⟩
    simp [add_plain, hd]
variable {ops : Array Oper} {rest : List Oper} {o : Oper} {a : Act} {Q : Exit → Act → World → Prop}
/-- Ahead of an arm: it fails at once at any other operation. -/
theorem gate_b {b : Builtin} {w : World} (s x : Operand) {tt : Array TypeId} (_ : o.op = .call { callee := .builtin b, args := #[s, x], argTypes := tt }) (k : wpList P ops Q (o :: rest) a w) : wpList P ops Q (o :: rest) a w := k
/-- append in a walk: behind 'at_builtin'. -/
theorem wpList_append_ev (w : World) (hgd : o.guard = none) (s x : Operand) (t : TypeId) (ho : o.op = .call { callee := .builtin .append, args := #[s, x], argTypes := #[t, t] }) (v u : Value) (hs : a.eval s = v) (hx : a.eval x = u) (Φ : Value → World → Prop)
    (hrun : ∃ v' w', (Builtin.append_ #[t, t] o.type #[v, u]).run P w = .ok v' w' ∧ Φ v' w') (h : ∀ v' w', Φ v' w' → wpList P ops Q rest (a.put o.dst v') w') : wpList P ops Q (o :: rest) a w := by
  obtain ⟨v', w', hr, hΦ⟩ := hrun
  refine wpList_plain hgd fun K hK => ?_
  unfold Oper.wp execOp
  simp only [ho, resolve, invoke, builtin, Sem.run_bind, Sem.run_pure, Result.andThen_ok, List.map_toArray, List.map_cons, List.map_nil, hs, hx, hr]
  exact hK _ _ (h v' w' hΦ)
theorem wpList_copy_ev (w : World) (hgd : o.guard = none) (s x : Operand) (t t2 : TypeId) (ho : o.op = .call { callee := .builtin .copy, args := #[s, x], argTypes := #[t, t2] }) (v u : Value) (hs : a.eval s = v) (hx : a.eval x = u) (Φ : Value → World → Prop)
    (hrun : ∃ v' w', (Builtin.copy_ #[t, t2] o.type #[v, u]).run P w = .ok v' w' ∧ Φ v' w') (h : ∀ v' w', Φ v' w' → wpList P ops Q rest (a.put o.dst v') w') : wpList P ops Q (o :: rest) a w := by
  obtain ⟨v', w', hr, hΦ⟩ := hrun
  refine wpList_plain hgd fun K hK => ?_
  unfold Oper.wp execOp
  simp only [ho, resolve, invoke, builtin, Sem.run_bind, Sem.run_pure, Result.andThen_ok, List.map_toArray, List.map_cons, List.map_nil, hs, hx, hr]
  exact hK _ _ (h v' w' hΦ)
theorem wpList_make_ev (w : World) (hgd : o.guard = none) (l c : Operand) (t : TypeId) (ho : o.op = .makeSlice t l c) (v u : Value) (hs : a.eval l = v) (hx : a.eval c = u) (Φ : Value → World → Prop)
    (hrun : ∃ v' w', (Instr.makeSlice t v u).run P w = .ok v' w' ∧ Φ v' w') (h : ∀ v' w', Φ v' w' → wpList P ops Q rest (a.put o.dst v') w') : wpList P ops Q (o :: rest) a w := by
  obtain ⟨v', w', hr, hΦ⟩ := hrun
  refine wpList_plain hgd fun K hK => ?_
  unfold Oper.wp
  simp [execOp, ho, hs, hx, hr, Result.andThen]
  exact hK _ _ (h v' w' hΦ)
/-- Ahead of an arm at a step of a region that draws its order: it fails at once at any other operation. -/
theorem gate_s {b : Builtin} {K : Act → World → Prop} {E : Prop} {w : World} (s x : Operand) {tt : Array TypeId} (_ : o.op = .call { callee := .builtin b, args := #[s, x], argTypes := tt })
    (k : if Region.wanted o (yielded ops a.tmps) = true then Oper.wp P o a w K Q else E) : if Region.wanted o (yielded ops a.tmps) = true then Oper.wp P o a w K Q else E := k
/-- append as a step of a region that draws its order (for go_region_held_law). -/
theorem step_append_ev {K : Act → World → Prop} {E : Prop} (w : World) (hgd : o.guard = none) (s x : Operand) (t : TypeId) (ho : o.op = .call { callee := .builtin .append, args := #[s, x], argTypes := #[t, t] }) (v u : Value) (hs : a.eval s = v) (hx : a.eval x = u) (Φ : Value → World → Prop)
    (hrun : ∃ v' w', (Builtin.append_ #[t, t] o.type #[v, u]).run P w = .ok v' w' ∧ Φ v' w') (h : ∀ v' w', Φ v' w' → K (a.put o.dst v') w') :
    if Region.wanted o (yielded ops a.tmps) = true then Oper.wp P o a w K Q else E := by
  have hw : Region.wanted o (yielded ops a.tmps) = true := by simp [Region.wanted, hgd]
  rw [if_pos hw]
  obtain ⟨v', w', hr, hΦ⟩ := hrun
  unfold Oper.wp execOp
  simp only [ho, resolve, invoke, builtin, Sem.run_bind, Sem.run_pure, Result.andThen_ok, List.map_toArray, List.map_cons, List.map_nil, hs, hx, hr]
  exact h v' w' hΦ
end
/-- The end of a function whose result is a struct in memory, the block known whole. -/
theorem bodyPost_ret_block {P : Program} {fn : Func} {R : Ending → World → Prop} {a : Act} {w : World} {r : Tmp} {t t0 : TypeId} {cs : Array Value} (g : Nat) (fr : Nat × Nat) (d : TypeDesc)
    (hres : fn.results = #[.cell r t]) (ha : a.tmps.getD r undef = .pointer (some ⟨g, 0, none⟩)) (hg : w.heap[g]? = some (.cells cs t0 fr))
    (hu : P.underlying t = some d) (hd : (match d with | .struct _ | .array _ _ => true | _ => false) = true) (hi : (P.info? t).map (·.size) = some cs.size)
    (hdef : a.defers = []) (h : R (.returned (.agg cs)) w) : bodyPost P fn R .ret a w := by
  refine bodyPost_ret ?_ hdef h
  have := run_loadVar_row (P := P) w g t0 t cs fr d hg hu hd hi
  have ha' : a.tmps[r]?.getD undef = .pointer (some ⟨g, 0, none⟩) := by simpa using ha
  simp [results, hres, ha', asAddr, this]
end Go.Proofs.Sat
/- More plain words of ours for the walks: rows written in place, worlds that differ in one block, appends whose world's size is told, ends of functions. -/
namespace Go.Proofs.Sat
open Go Go.RowKit
/-- A store into a row of one's own (one-cell elements). -/
theorem Own.set {α : Type} {enc : α → Value} {h1 : ∀ x, (enc x).oneCell' = true} {e : TypeId} {S : Nat → Prop} {w : World} {base g n c : Nat} {xs : List α} (h : Own (Kd.val enc h1) e S w base (.slice (some ⟨g, 0, none⟩) n c) xs) (hn : xs.length = n) (i : Nat) (hi : i < n) (y : α) :
    Own (Kd.val enc h1) e S (w.setCell ⟨g, i, none⟩ (enc y)) base (.slice (some ⟨g, 0, none⟩) n c) (xs.set i y) := by
  subst hn
  rcases h.block with ⟨h0, _⟩ | ⟨g', cap, cur, hv, hb, hlt, hg, q1, q2, q3, q4⟩
  · cases h0
  · cases hv
    have hz : cur.toList = xs.map enc ++ cur.toList.drop xs.length := by
      rw [← q4, List.take_append_drop]
    have := Own.of_block (enc := enc) (h1 := h1) (e := e) (w := w.setCell ⟨g, i, none⟩ (enc y)) (g := g) (cap := c) (cur := cur.setIfInBounds i (enc y)) (xs := xs.set i y) S hb (by simp [World.setCell, Array.getElem?_modify, hg]) (by simpa using q1) q2 (by simpa using q3) (by
      rw [Array.toList_setIfInBounds, List.length_set, List.map_set, ← q4, List.take_set])
    simpa using this
/-- The cells of a row of one's own (one-cell elements), and that they may be written. -/
theorem Own.at {α : Type} {enc : α → Value} {h1 : ∀ x, (enc x).oneCell' = true} {e : TypeId} {S : Nat → Prop} {w : World} {base g n c : Nat} {xs : List α} (h : Own (Kd.val enc h1) e S w base (.slice (some ⟨g, 0, none⟩) n c) xs) (hn : xs.length = n) :
    (∀ j (hj : j < xs.length), w.cell? ⟨g, j, none⟩ = some (enc xs[j])) ∧ (∀ j, w.frozen? ⟨g, j, none⟩ = false) := by
  subst hn
  rcases h.block with ⟨h0, _⟩ | ⟨g', cap, cur, hv, hb, hlt, hg, q1, q2, q3, q4⟩
  · cases h0
  · cases hv
    refine ⟨fun j hj => ?_, fun j => frozen_of_block hg⟩
    rw [cell_of_row _ _ j _ _ _ hg]
    have := congrArg (·[j]?) q4
    simpa [hj] using this
/-- Ahead of an arm for make: it fails at once at any other operation. -/
theorem gate_m {P : Program} {ops : Array Oper} {rest : List Oper} {o : Oper} {a : Act} {Q : Exit → Act → World → Prop} {w : World} (T : TypeId) (s x : Operand) (_ : o.op = .makeSlice T s x) (k : wpList P ops Q (o :: rest) a w) : wpList P ops Q (o :: rest) a w := k
theorem infoInt : ElemInfo Tryd.prog 29 3 (.int .i64 0) 1 8 := ⟨Tryd.underlying29, by kernel_rfl, rfl, by decide⟩
theorem block_at1 (w : World) (o1 o2 : Obj) : ((w.alloc o1).alloc o2).heap[w.heap.size + 1]? = some o2 := by
  have := heap_alloc_new (w.alloc o1) o2
  simpa using this
theorem block_at2 (w : World) (o1 o2 o3 : Obj) : (((w.alloc o1).alloc o2).alloc o3).heap[w.heap.size + 1 + 1]? = some o3 := by
  have := heap_alloc_new ((w.alloc o1).alloc o2) o3
  simpa using this
theorem gate_a {P : Program} {f : Nat} {args : Array Value} {w : World} {Q : Ending → World → Prop} (args' : Array Value) (_ : args = args') (k : Calls P f args w Q) : Calls P f args w Q := k
/-- Worlds that differ in one block alone. -/
def Far (g : Nat) (w w' : World) : Prop := w'.os = w.os ∧ w'.tape = w.tape ∧ w'.output = w.output ∧ w'.heap.size = w.heap.size ∧ ∀ b, b ≠ g → w'.heap[b]? = w.heap[b]?
theorem Far.refl (g : Nat) (w : World) : Far g w w := ⟨rfl, rfl, rfl, rfl, fun _ _ => rfl⟩
theorem Far.setCell {g i : Nat} {w w' : World} (h : Far g w w') (v : Value) : Far g w (w'.setCell ⟨g, i, none⟩ v) :=
  ⟨h.1, h.2.1, h.2.2.1, by simpa [World.setCell] using h.2.2.2.1, fun b hb => (Below.heap_setCell w' _ v b hb).trans (h.2.2.2.2 b hb)⟩
theorem Far.drew {g : Nat} {w w' : World} (h : Far g w w') : Far g w w'.drew := h
theorem Far.below {g : Nat} {w w' : World} (h : Far g w w') {B : Nat} (hB : B ≤ g) : Below B w w' := ⟨h.1, h.2.1, h.2.2.1, by rw [h.2.2.2.1]; exact Nat.le_refl _, fun b hb => h.2.2.2.2 b (by omega)⟩
theorem Far.same {g : Nat} {w w' : World} (h : Far g w w') {S : Nat → Prop} (hS : ∀ b, S b → b ≠ g) : Same S w w' := ⟨by rw [h.2.2.2.1]; exact Nat.le_refl _, fun b hb _ => h.2.2.2.2 b (hS b hb)⟩
theorem ex_world {w : World} {P : World → Prop} (h : ∀ w', w' = w → P w') : ∃ w', w' = w ∧ P w' := ⟨w, rfl, h w rfl⟩
/-- append of one, the world's size told. -/
theorem run_app1_at {P : Program} {α : Type} {d : Kd α} (H : Nat) (w : World) (hH : w.heap.size = H) {t e : TypeId} {z : Value} {size bytes : Nat} (I : ElemInfo P t e z size bytes) (hd : d.sz = size) (ty : TypeId) {S : Nat → Prop} {base : Nat} {v : Value} {xs : List α} (hown : Own d e S w base v xs)
    (t0 : TypeId) (cs : List Value) (x : α) (hk : d.K (fun b => S b ∧ some b ≠ v.ownBlock) w cs x) (hb : (xs.length + 1) * bytes ≤ 140737488355328) (h63 : xs.length + 1 ≤ 9223372036854775807) (hbase : base ≤ w.heap.size) :
    ∃ v' w', (Builtin.append_ #[t, t] ty #[v, .slice (some ⟨H, 0, none⟩) 1 1]).run P (w.alloc (.cells cs.toArray t0)) = .ok v' w' ∧ Own d e S w' base v' (xs ++ [x]) ∧ w.grownBy w' v.ownBlock ∧
      (v'.ownBlock = v.ownBlock ∨ ∀ k, v'.ownBlock = some k → w.heap.size ≤ k) ∧ ∃ a c, v' = .slice a (xs.length + 1) c := by
  subst hH
  exact run_app1 w I hd ty hown t0 cs x hk hb h63 hbase
/-- The end of a function of two results, the first a struct in memory, the block known whole. -/
theorem bodyPost_ret_block2 {P : Program} {fn : Func} {R : Ending → World → Prop} {a : Act} {w : World} {r s : Tmp} {t t0 : TypeId} {cs : Array Value} {v : Value} (g : Nat) (fr : Nat × Nat) (d : TypeDesc)
    (hres : fn.results = #[.cell r t, .tmp s]) (ha : a.tmps.getD r undef = .pointer (some ⟨g, 0, none⟩)) (hv : a.tmps.getD s undef = v) (hg : w.heap[g]? = some (.cells cs t0 fr))
    (hu : P.underlying t = some d) (hd : (match d with | .struct _ | .array _ _ => true | _ => false) = true) (hi : (P.info? t).map (·.size) = some cs.size)
    (hdef : a.defers = []) (h : R (.returned (.tuple #[.agg cs, v])) w) : bodyPost P fn R .ret a w := by
  refine bodyPost_ret ?_ hdef h
  have := run_loadVar_row (P := P) w g t0 t cs fr d hg hu hd hi
  have ha' : a.tmps[r]?.getD undef = .pointer (some ⟨g, 0, none⟩) := by simpa using ha
  have hv' : a.tmps[s]?.getD undef = v := by simpa using hv
  simp [results, hres, ha', hv', asAddr, this]
/-- A row out of a block that is known whole. -/
theorem rd_block {α : Type} {d : Kd α} {S : Nat → Prop} {w : World} {g : Nat} {t : TypeId} {fr : Nat × Nat} {cs : List Value} {xs : List α} (hg : w.heap[g]? = some (.cells cs.toArray t fr)) (he : Elems d S w cs xs) (hS : S g) (c : Nat) (h1 : xs.length ≤ c) (h2 : c ≤ 9223372036854775807) : Rd d S w (some ⟨g, 0, none⟩) c xs := by
  refine ⟨h1, h2, fun _ => ⟨g, 0, rfl, hS, (Array.getElem?_eq_some_iff.1 hg).1, fun j hj => ?_⟩⟩
  obtain ⟨c', hk, hc⟩ := he.get j hj
  refine ⟨c', hk, fun i u hu => ?_⟩
  have := hc i u hu
  rw [cell_of_row _ _ (0 + j * d.sz + i) _ _ _ hg]
  simpa using this
theorem Rd.lit {α : Type} {enc : α → Value} {h1 : ∀ x, (enc x).oneCell' = true} (w : World) (t : TypeId) (l : List α) (d : α) (hl : l.length ≤ 9223372036854775807) : Rd (Kd.val enc h1) (fun _ => True) (w.alloc (.cells (l.map enc).toArray t)) (some ⟨w.heap.size, 0, none⟩) l.length l :=
  Rd.of_vals d (by omega) hl (fun _ => ⟨trivial, by simp⟩) (fun j hj => by
    rw [cell_of_row _ _ (0 + j) _ _ _ (heap_alloc_new w _)]
    simp [hj])
theorem Own.rd' {α : Type} {d : Kd α} {e : TypeId} {S : Nat → Prop} {w : World} {base : Nat} {a : Option Addr} {n c : Nat} {xs : List α} (h : Own d e S w base (.slice a n c) xs) : Rd d (fun b => S b ∨ base ≤ b) w a c xs := by
  obtain ⟨a', c', e, hr⟩ := h.rd
  cases e
  exact hr
theorem getD_at (l : List Int) {k : Nat} (h : k < l.length) : l.getD k 0 = l[k] := by simp [h]
end Go.Proofs.Sat
