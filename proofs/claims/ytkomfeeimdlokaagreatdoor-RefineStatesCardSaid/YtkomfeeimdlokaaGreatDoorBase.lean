/- Plain words of ours for the walks: what a value's cells say (kinds), rows that a call reads or owns, and how they live on while memory grows. No program stands in it. -/
import Derived.WalkKit
import Derived.KernelRfl
import Derived.OwnWalk
import Derived.Below
import Derived.Deep.Draws
import Derived.Lib.Hide
set_option linter.unusedVariables false
set_option linter.unusedSimpArgs false
namespace Go.Proofs.Sat
open Go Go.RowKit

/-! ### Worlds -/
/-- A world that differs by draws alone. -/
def Drawn (w w' : World) : Prop := ∃ n, w' = w.drewN n
theorem Drawn.refl (w : World) : Drawn w w := ⟨0, rfl⟩
theorem Drawn.step {w w' : World} (h : Drawn w w') (n : Nat) : Drawn w (w'.drewN n) := by
  obtain ⟨m, rfl⟩ := h
  exact ⟨m + n, World.drewN_drewN ..⟩
theorem Drawn.trans {w w1 w2 : World} (h : Drawn w w1) (k : Drawn w1 w2) : Drawn w w2 := by
  obtain ⟨m, rfl⟩ := h
  obtain ⟨n, rfl⟩ := k
  exact ⟨m + n, World.drewN_drewN ..⟩
theorem Drawn.of (w : World) (n : Nat) : Drawn w (w.drewN n) := ⟨n, rfl⟩
theorem Drawn.drew {w w' : World} (h : Drawn w w') : Drawn w w'.drew := h.step 1
theorem Drawn.below {w w' : World} (h : Drawn w w') (B : Nat) : Below B w w' := by
  obtain ⟨n, rfl⟩ := h
  exact ⟨rfl, rfl, rfl, Nat.le_refl _, fun _ _ => rfl⟩
theorem Drawn.cell {w w' : World} (h : Drawn w w') {a : Addr} {o : Option Value} (hc : w.cell? a = o) : w'.cell? a = o := by obtain ⟨n, rfl⟩ := h; exact hc
theorem Drawn.frozen {w w' : World} (h : Drawn w w') {a : Addr} {b : Bool} (hc : w.frozen? a = b) : w'.frozen? a = b := by obtain ⟨n, rfl⟩ := h; exact hc
theorem Drawn.heap {w w' : World} (h : Drawn w w') {g : Nat} {o : Option Obj} (hc : w.heap[g]? = o) : w'.heap[g]? = o := by obtain ⟨n, rfl⟩ := h; exact hc
theorem Drawn.size {w w' : World} (h : Drawn w w') : w'.heap.size = w.heap.size := by obtain ⟨n, rfl⟩ := h; rfl
theorem below_drewN {B : Nat} {w W : World} (h : Below B w W) (n : Nat) : Below B w (W.drewN n) := ⟨h.os, h.tape, h.output, h.size, h.block⟩
theorem below_alloc {w W : World} (h : Below w.heap.size w W) (o : Obj) : Below w.heap.size w (W.alloc o) := h.alloc h.size o
theorem below_then {B : Nat} {w w1 w2 : World} (h : Below B w w1) (hB : B ≤ w1.heap.size) (k : Below w1.heap.size w1 w2) : Below B w w2 :=
  h.trans ⟨k.os, k.tape, k.output, k.size, fun i hi => k.block i (Nat.lt_of_lt_of_le hi hB)⟩
theorem below_both {w w1 w2 : World} (h : Below w.heap.size w w1) (k : Below w1.heap.size w1 w2) : Below w.heap.size w w2 := below_then h h.size k

theorem cell_of_block {w : World} {g : Nat} {v : Value} {t : TypeId} {fr : Nat × Nat} (h : w.heap[g]? = some (.cells #[v] t fr)) : w.cell? ⟨g, 0, none⟩ = some v := by simp [World.cell?, h]
theorem frozen_of_block {w : World} {g o : Nat} {c : Array Value} {t : TypeId} (h : w.heap[g]? = some (.cells c t (0, 0))) : w.frozen? ⟨g, o, none⟩ = false := by simp [World.frozen?, h]
theorem block_set {w : World} {g : Nat} {v u : Value} {t : TypeId} {fr : Nat × Nat} (h : w.heap[g]? = some (.cells #[v] t fr)) : (w.setCell ⟨g, 0, none⟩ u).heap[g]? = some (.cells #[u] t fr) := by
  simp [World.setCell, Array.getElem?_modify, h]
theorem block_alloc {w : World} {g : Nat} {ob : Obj} (h : w.heap[g]? = some ob) (o : Obj) : (w.alloc o).heap[g]? = some ob := (Below.heap_alloc w o g (Array.getElem?_eq_some_iff.1 h).1).trans h
theorem block_grown {w w' : World} {row : Option Nat} {g : Nat} {ob : Obj} (hg : w.grownBy w' row) (h : w.heap[g]? = some ob) (hne : some g ≠ row) : w'.heap[g]? = some ob := (hg.block g (Array.getElem?_eq_some_iff.1 h).1 hne).trans h
theorem block_below {w w' : World} {g : Nat} {ob : Obj} (hb : Below w.heap.size w w') (h : w.heap[g]? = some ob) : w'.heap[g]? = some ob := (hb.block g (Array.getElem?_eq_some_iff.1 h).1).trans h
theorem block_far {w : World} {g : Nat} {ob : Obj} (h : w.heap[g]? = some ob) {p : Addr} (u : Value) (hne : g ≠ p.block) : (w.setCell p u).heap[g]? = some ob := (Below.heap_setCell w p u g hne).trans h

/-- The blocks that S names (as far as there are such) hold what they held. -/
def Same (S : Nat → Prop) (w w' : World) : Prop := w.heap.size ≤ w'.heap.size ∧ ∀ b, S b → b < w.heap.size → w'.heap[b]? = w.heap[b]?
theorem Same.refl (S : Nat → Prop) (w : World) : Same S w w := ⟨Nat.le_refl _, fun _ _ _ => rfl⟩
theorem Same.drewN (S : Nat → Prop) (w : World) (n : Nat) : Same S w (w.drewN n) := ⟨Nat.le_refl _, fun _ _ _ => rfl⟩
theorem Same.drawn (S : Nat → Prop) {w w' : World} (h : Drawn w w') : Same S w w' := by
  obtain ⟨n, rfl⟩ := h
  exact Same.drewN S w n
theorem Same.below {S : Nat → Prop} {w w' : World} (h : Below w.heap.size w w') : Same S w w' := ⟨h.size, fun b _ hb => h.block b hb⟩
theorem Same.grown {S : Nat → Prop} {w w' : World} {row : Option Nat} (h : w.grownBy w' row) (hS : ∀ b, S b → some b ≠ row) : Same S w w' :=
  ⟨h.size, fun b hs hb => h.block b hb (hS b hs)⟩
theorem Same.alloc (S : Nat → Prop) (w : World) (o : Obj) : Same S w (w.alloc o) := ⟨by simp, fun b _ hb => Below.heap_alloc w o b hb⟩
theorem Same.setCell {S : Nat → Prop} (w : World) {p : Addr} (u : Value) (hS : ∀ b, S b → b ≠ p.block) : Same S w (w.setCell p u) :=
  ⟨by simp [World.setCell], fun b hs _ => Below.heap_setCell w p u b (hS b hs)⟩
theorem Same.mono {S S' : Nat → Prop} {w w' : World} (h : Same S' w w') (hS : ∀ b, S b → S' b) : Same S w w' := ⟨h.1, fun b hs hb => h.2 b (hS b hs) hb⟩
theorem Same.trans {S : Nat → Prop} {w w1 w2 : World} (h : Same S w w1) (k : Same S w1 w2) : Same S w w2 :=
  ⟨Nat.le_trans h.1 k.1, fun b hs hb => (k.2 b hs (Nat.lt_of_lt_of_le hb h.1)).trans (h.2 b hs hb)⟩

/-! ### Kinds -/
/-- No block. -/
abbrev NoS : Nat → Prop := fun _ => False
/-- What a value's cells say. S: the blocks that it may lead to. -/
structure Kd (α : Type) where
  sz : Nat
  K : (Nat → Prop) → World → List Value → α → Prop
  len : ∀ {S w cs x}, K S w cs x → cs.length = sz
  one : ∀ {S w cs x}, K S w cs x → ∀ u ∈ cs, u.oneCell' = true
  frame : ∀ {S w w' cs x}, Same S w w' → K S w cs x → K S w' cs x
  mono : ∀ {S S' : Nat → Prop} {w cs x}, (∀ b, b < w.heap.size → S b → S' b) → K S w cs x → K S' w cs x
/-- Values of one cell that lead nowhere. -/
def Kd.flat {α : Type} (enc : α → List Value) (n : Nat) (hn : ∀ x, (enc x).length = n) (h1 : ∀ x, ∀ u ∈ enc x, u.oneCell' = true) : Kd α where
  sz := n
  K _ _ cs x := cs = enc x
  len h := by subst h; exact hn _
  one h := by subst h; exact h1 _
  frame _ h := h
  mono _ h := h
/-- Values of one cell. -/
def Kd.val {α : Type} (enc : α → Value) (h1 : ∀ x, (enc x).oneCell' = true) : Kd α := Kd.flat (fun x => [enc x]) 1 (fun _ => rfl) (fun x u hu => by simp at hu; subst hu; exact h1 x)
abbrev Kd.int (k : IntKind) : Kd Int := Kd.val (fun x => .int k x) (fun _ => rfl)
abbrev Kd.bool : Kd Bool := Kd.val (fun x => .bool x) (fun _ => rfl)
abbrev Kd.str : Kd ByteArray := Kd.val (fun x => .string x) (fun _ => rfl)
/-- One behind the other. -/
def Kd.pair {α β : Type} (a : Kd α) (b : Kd β) : Kd (α × β) where
  sz := a.sz + b.sz
  K S w cs x := ∃ c1 c2, cs = c1 ++ c2 ∧ a.K S w c1 x.1 ∧ b.K S w c2 x.2
  len h := by obtain ⟨c1, c2, rfl, h1, h2⟩ := h; simp [a.len h1, b.len h2]
  one h := by
    obtain ⟨c1, c2, rfl, h1, h2⟩ := h
    intro u hu
    rcases List.mem_append.1 hu with hu | hu
    · exact a.one h1 u hu
    · exact b.one h2 u hu
  frame hs h := by obtain ⟨c1, c2, e, h1, h2⟩ := h; exact ⟨c1, c2, e, a.frame hs h1, b.frame hs h2⟩
  mono hS h := by obtain ⟨c1, c2, e, h1, h2⟩ := h; exact ⟨c1, c2, e, a.mono hS h1, b.mono hS h2⟩
/-- A Lean structure by its fields. -/
def Kd.iso {α β : Type} (d : Kd α) (f : β → α) : Kd β where
  sz := d.sz
  K S w cs x := d.K S w cs (f x)
  len h := d.len h
  one h := d.one h
  frame hs h := d.frame hs h
  mono hS h := d.mono hS h

/-- A row of elements at a place: what its cells say. -/
def Row {α : Type} (d : Kd α) (S : Nat → Prop) (w : World) (b o : Nat) (l : List α) : Prop :=
  S b ∧ b < w.heap.size ∧ ∀ j (hj : j < l.length), ∃ cs, d.K S w cs l[j] ∧ ∀ i u, cs[i]? = some u → w.cell? ⟨b, o + j * d.sz + i, none⟩ = some u
/-- A slice that is read: address, length (that of the list), capacity. -/
def Rd {α : Type} (d : Kd α) (S : Nat → Prop) (w : World) (a : Option Addr) (c : Nat) (l : List α) : Prop :=
  l.length ≤ c ∧ c ≤ 9223372036854775807 ∧ (0 < l.length → ∃ b o, a = some ⟨b, o, none⟩ ∧ Row d S w b o l)
theorem Row.frame {α : Type} {d : Kd α} {S : Nat → Prop} {w w' : World} {b o : Nat} {l : List α} (hs : Same S w w') (h : Row d S w b o l) : Row d S w' b o l := by
  obtain ⟨hb, hlt, h⟩ := h
  refine ⟨hb, Nat.lt_of_lt_of_le hlt hs.1, fun j hj => ?_⟩
  obtain ⟨cs, hk, hc⟩ := h j hj
  exact ⟨cs, d.frame hs hk, fun i u hu => (World.cell?_of_block (w := w) (hs.2 b hb hlt)).trans (hc i u hu)⟩
theorem Row.mono {α : Type} {d : Kd α} {S S' : Nat → Prop} {w : World} {b o : Nat} {l : List α} (hS : ∀ b, b < w.heap.size → S b → S' b) (h : Row d S w b o l) : Row d S' w b o l := by
  obtain ⟨hb, hlt, h⟩ := h
  refine ⟨hS _ hlt hb, hlt, fun j hj => ?_⟩
  obtain ⟨cs, hk, hc⟩ := h j hj
  exact ⟨cs, d.mono hS hk, hc⟩
theorem Rd.frame {α : Type} {d : Kd α} {S : Nat → Prop} {w w' : World} {a : Option Addr} {c : Nat} {l : List α} (hs : Same S w w') (h : Rd d S w a c l) : Rd d S w' a c l :=
  ⟨h.1, h.2.1, fun hp => by obtain ⟨b, o, e, hr⟩ := h.2.2 hp; exact ⟨b, o, e, hr.frame hs⟩⟩
theorem Rd.mono {α : Type} {d : Kd α} {S S' : Nat → Prop} {w : World} {a : Option Addr} {c : Nat} {l : List α} (hS : ∀ b, b < w.heap.size → S b → S' b) (h : Rd d S w a c l) : Rd d S' w a c l :=
  ⟨h.1, h.2.1, fun hp => by obtain ⟨b, o, e, hr⟩ := h.2.2 hp; exact ⟨b, o, e, hr.mono hS⟩⟩
theorem Rd.le {α : Type} {d : Kd α} {S : Nat → Prop} {w : World} {a : Option Addr} {c : Nat} {l : List α} (h : Rd d S w a c l) : l.length ≤ 9223372036854775807 := Nat.le_trans h.1 h.2.1
theorem Rd.nil {α : Type} (d : Kd α) (S : Nat → Prop) (w : World) (a : Option Addr) (c : Nat) (hc : c ≤ 9223372036854775807) : Rd d S w a c [] := ⟨by simp, hc, fun h => by simp at h⟩
/-- A slice as a kind. -/
def Kd.slice {α : Type} (d : Kd α) : Kd (List α) where
  sz := 1
  K S w cs l := ∃ a c, cs = [.slice a l.length c] ∧ Rd d S w a c l
  len h := by obtain ⟨a, c, rfl, _⟩ := h; rfl
  one h := by obtain ⟨a, c, rfl, _⟩ := h; intro u hu; simp at hu; subst hu; rfl
  frame hs h := by obtain ⟨a, c, e, h⟩ := h; exact ⟨a, c, e, h.frame hs⟩
  mono hS h := by obtain ⟨a, c, e, h⟩ := h; exact ⟨a, c, e, h.mono hS⟩

/-! Elements, cuts -/
section
variable {α : Type} {d : Kd α} {S : Nat → Prop} {w : World} {a : Option Addr} {c : Nat} {l : List α}
/-- Element j: its cells. -/
theorem Rd.elem (h : Rd d S w a c l) {j : Nat} (hj : j < l.length) : ∃ b o cs, a = some ⟨b, o, none⟩ ∧ S b ∧ b < w.heap.size ∧ d.K S w cs l[j] ∧ ∀ i u, cs[i]? = some u → w.cell? ⟨b, o + j * d.sz + i, none⟩ = some u := by
  obtain ⟨b, o, e, hb, hlt, hr⟩ := h.2.2 (by omega)
  obtain ⟨cs, hk, hc⟩ := hr j hj
  exact ⟨b, o, cs, e, hb, hlt, hk, hc⟩
theorem Rd.take (h : Rd d S w a c l) (n : Nat) (hn : n ≤ l.length) : Rd d S w a c (l.take n) := by
  refine ⟨by simp; have := h.1; omega, h.2.1, fun hp => ?_⟩
  have hp' : 0 < l.length := by simp at hp; omega
  obtain ⟨b, o, e, hb, hlt, hr⟩ := h.2.2 hp'
  refine ⟨b, o, e, hb, hlt, fun j hj => ?_⟩
  simp at hj
  obtain ⟨cs, hk, hc⟩ := hr j (by omega)
  exact ⟨cs, by simpa using hk, hc⟩
theorem Row.drop {b o : Nat} (h : Row d S w b o l) (n : Nat) : Row d S w b (o + n * d.sz) (l.drop n) := by
  obtain ⟨hb, hlt, hr⟩ := h
  refine ⟨hb, hlt, fun j hj => ?_⟩
  simp at hj
  obtain ⟨cs, hk, hc⟩ := hr (n + j) (by omega)
  refine ⟨cs, by simpa using hk, fun i u hu => ?_⟩
  have := hc i u hu
  rw [Nat.add_mul] at this
  rw [show o + n * d.sz + j * d.sz + i = o + (n * d.sz + j * d.sz) + i from by omega]
  exact this
end
/-! Elements of one cell -/
/-- A slice whose elements are of one cell: the form that the library's contracts ask. -/
theorem Rd.vals {α : Type} {enc : α → Value} {h1 : ∀ x, (enc x).oneCell' = true} {S : Nat → Prop} {w : World} {a : Option Addr} {c : Nat} {l : List α} (h : Rd (Kd.val enc h1) S w a c l) (hp : 0 < l.length) (d : α) :
    ∃ b o, a = some ⟨b, o, none⟩ ∧ S b ∧ b < w.heap.size ∧ ∀ j, j < l.length → w.cell? ⟨b, o + j, none⟩ = some (enc (l.getD j d)) := by
  obtain ⟨b, o, e, hb, hlt, hr⟩ := h.2.2 hp
  refine ⟨b, o, e, hb, hlt, fun j hj => ?_⟩
  obtain ⟨cs, hk, hc⟩ := hr j hj
  have hk' : cs = [enc l[j]] := hk
  subst hk'
  have := hc 0 (enc l[j]) (by simp)
  simp [Kd.val, Kd.flat] at this
  simp [hj, this]
theorem Rd.of_vals {α : Type} {enc : α → Value} {h1 : ∀ x, (enc x).oneCell' = true} {S : Nat → Prop} {w : World} {b o c : Nat} {l : List α} (d : α) (hc1 : l.length ≤ c) (hc2 : c ≤ 9223372036854775807) (hb : 0 < l.length → S b ∧ b < w.heap.size)
    (h : ∀ j, j < l.length → w.cell? ⟨b, o + j, none⟩ = some (enc (l.getD j d))) : Rd (Kd.val enc h1) S w (some ⟨b, o, none⟩) c l := by
  refine ⟨hc1, hc2, fun hp => ⟨b, o, rfl, (hb hp).1, (hb hp).2, fun j hj => ⟨[enc l[j]], rfl, fun i u hu => ?_⟩⟩⟩
  have hi : i = 0 := by
    rcases Nat.eq_zero_or_pos i with h | h
    · exact h
    · rw [List.getElem?_eq_none (by simp; omega)] at hu; cases hu
  subst hi
  simp at hu
  subst hu
  have := h j hj
  simp [hj] at this
  simpa [Kd.val, Kd.flat] using this
/-! ### Rows of the call's own -/
/-- What the elements' cells say, one element behind the other. -/
inductive Elems {α : Type} (d : Kd α) (S : Nat → Prop) (w : World) : List Value → List α → Prop where
  | nil : Elems d S w [] []
  | cons {c cs x xs} : d.K S w c x → Elems d S w cs xs → Elems d S w (c ++ cs) (x :: xs)
section
variable {α : Type} {d : Kd α} {S : Nat → Prop} {w : World}
theorem Elems.frame {w' : World} {cs : List Value} {xs : List α} (hs : Same S w w') (h : Elems d S w cs xs) : Elems d S w' cs xs := by
  induction h with
  | nil => exact .nil
  | cons hk _ ih => exact .cons (d.frame hs hk) ih
theorem Elems.mono {S' : Nat → Prop} {cs : List Value} {xs : List α} (hS : ∀ b, b < w.heap.size → S b → S' b) (h : Elems d S w cs xs) : Elems d S' w cs xs := by
  induction h with
  | nil => exact .nil
  | cons hk _ ih => exact .cons (d.mono hS hk) ih
theorem Elems.append {cs cs' : List Value} {xs xs' : List α} (h : Elems d S w cs xs) (h' : Elems d S w cs' xs') : Elems d S w (cs ++ cs') (xs ++ xs') := by
  induction h with
  | nil => simpa using h'
  | cons hk _ ih => rw [List.append_assoc]; exact .cons hk ih
theorem Elems.single {c : List Value} {x : α} (h : d.K S w c x) : Elems d S w c [x] := by simpa using Elems.cons h Elems.nil
theorem Elems.length {cs : List Value} {xs : List α} (h : Elems d S w cs xs) : cs.length = xs.length * d.sz := by
  induction h with
  | nil => simp
  | cons hk _ ih => simp [d.len hk, ih, Nat.add_mul]; omega
theorem Elems.one {cs : List Value} {xs : List α} (h : Elems d S w cs xs) : ∀ u ∈ cs, u.oneCell' = true := by
  induction h with
  | nil => simp
  | cons hk _ ih =>
    intro u hu
    rcases List.mem_append.1 hu with hu | hu
    · exact d.one hk u hu
    · exact ih u hu
theorem Elems.get {cs : List Value} {xs : List α} (h : Elems d S w cs xs) : ∀ j (hj : j < xs.length), ∃ c, d.K S w c xs[j] ∧ ∀ i u, c[i]? = some u → cs[j * d.sz + i]? = some u := by
  induction h with
  | nil => intro j hj; simp at hj
  | @cons c cs x xs hk _ ih =>
    intro j hj
    have hl := d.len hk
    cases j with
    | zero =>
      refine ⟨c, hk, fun i u hu => ?_⟩
      have hi : i < c.length := (List.getElem?_eq_some_iff.1 hu).1
      rw [Nat.zero_mul, Nat.zero_add, List.getElem?_append_left hi]
      exact hu
    | succ j =>
      obtain ⟨c', hk', hc'⟩ := ih j (by simpa using hj)
      refine ⟨c', by simpa using hk', fun i u hu => ?_⟩
      rw [List.getElem?_append_right (by rw [Nat.add_mul]; omega), show (j + 1) * d.sz + i - c.length = j * d.sz + i from by rw [Nat.add_mul]; omega]
      exact hc' i u hu
end
theorem elems_vals {α : Type} {enc : α → Value} {h1 : ∀ x, (enc x).oneCell' = true} {S : Nat → Prop} {w : World} (l : List α) : Elems (Kd.val enc h1) S w (l.map enc) l := by
  induction l with
  | nil => exact .nil
  | cons x l ih => exact Elems.cons (c := [enc x]) rfl ih
theorem elems_vals_eq {α : Type} {enc : α → Value} {h1 : ∀ x, (enc x).oneCell' = true} {S : Nat → Prop} {w : World} {cs : List Value} {l : List α} (h : Elems (Kd.val enc h1) S w cs l) : cs = l.map enc := by
  induction h with
  | nil => rfl
  | cons hk _ ih =>
    have hk' : _ = [enc _] := hk
    subst hk'
    simp [ih]

/-- A row of elements (type e) of the call's own, in blocks from base on; what the elements lead to lies in S and is not this row. -/
def Own {α : Type} (d : Kd α) (e : TypeId) (S : Nat → Prop) (w : World) (base : Nat) (v : Value) (xs : List α) : Prop :=
  ∃ cs, w.ownsRow base e d.sz v xs.length cs ∧ Elems d (fun b => S b ∧ some b ≠ v.ownBlock) w cs xs
section
variable {α : Type} {d : Kd α} {e : TypeId} {S : Nat → Prop} {w : World} {base : Nat} {v : Value} {xs : List α}
theorem Own.nil (d : Kd α) (e : TypeId) (S : Nat → Prop) (w : World) (base : Nat) : Own d e S w base (.slice none 0 0) [] := ⟨[], World.ownsRow_nil .., .nil⟩
theorem Own.lt (h : Own d e S w base v xs) : ∀ k, v.ownBlock = some k → base ≤ k ∧ k < w.heap.size := by
  obtain ⟨cs, ho, _⟩ := h
  exact ho.lt
theorem Own.same {w' : World} (hs : Same (fun b => S b ∨ some b = v.ownBlock) w w') (h : Own d e S w base v xs) : Own d e S w' base v xs := by
  obtain ⟨cs, ho, he⟩ := h
  refine ⟨cs, ⟨ho.1, ?_⟩, he.frame (hs.mono fun b hb => .inl hb.1)⟩
  rcases ho.2 with hn | ⟨g, cap, cur, rfl, hb, hg, rest⟩
  · exact .inl hn
  · refine .inr ⟨g, cap, cur, rfl, hb, ?_, rest⟩
    rw [hs.2 g (.inr rfl) (Array.getElem?_eq_some_iff.1 hg).1]
    exact hg
theorem Own.below {w' : World} (h : Own d e S w base v xs) (hb : Below w.heap.size w w') : Own d e S w' base v xs := h.same (Same.below hb)
theorem Own.drewN (h : Own d e S w base v xs) (n : Nat) : Own d e S (w.drewN n) base v xs := h.same (Same.drewN _ _ _)
theorem Own.drew (h : Own d e S w base v xs) : Own d e S w.drew base v xs := h.drewN 1
theorem Own.alloc (h : Own d e S w base v xs) (o : Obj) : Own d e S (w.alloc o) base v xs := h.same (Same.alloc _ _ _)
theorem Own.drawn {w' : World} (h : Own d e S w base v xs) (hb : Drawn w w') : Own d e S w' base v xs := h.same (Same.drawn _ hb)
theorem Own.mono {S' : Nat → Prop} {base' : Nat} (hS : ∀ b, b < w.heap.size → S b → S' b) (hB : base' ≤ base) (h : Own d e S w base v xs) : Own d e S' w base' v xs := by
  obtain ⟨cs, ho, he⟩ := h
  refine ⟨cs, ⟨ho.1, ?_⟩, he.mono fun b hb hs => ⟨hS b hb hs.1, hs.2⟩⟩
  rcases ho.2 with hn | ⟨g, cap, cur, rfl, hb, rest⟩
  · exact .inl hn
  · exact .inr ⟨g, cap, cur, rfl, Nat.le_trans hB hb, rest⟩
theorem Own.form (h : Own d e S w base v xs) : ∃ a c, v = .slice a xs.length c := by
  obtain ⟨cs, ho, _⟩ := h
  rcases ho.2 with ⟨rfl, h0⟩ | ⟨g, cap, cur, rfl, _⟩
  · exact ⟨none, 0, by rw [h0]⟩
  · exact ⟨_, cap, rfl⟩
/-- What is owned reads. -/
theorem Own.rd (h : Own d e S w base v xs) : ∃ a c, v = .slice a xs.length c ∧ Rd d (fun b => S b ∨ base ≤ b) w a c xs := by
  obtain ⟨cs, ho, he⟩ := h
  rcases ho.2 with ⟨rfl, h0⟩ | ⟨g, cap, cur, rfl, hb, hg, h1, h2, h3, h4⟩
  · exact ⟨none, 0, by rw [h0], by omega, by omega, fun hp => by omega⟩
  · refine ⟨_, cap, rfl, h1, by simpa [maxLen] using h2, fun hp => ⟨g, 0, rfl, .inr hb, (Array.getElem?_eq_some_iff.1 hg).1, fun j hj => ?_⟩⟩
    obtain ⟨c, hk, hc⟩ := he.get j hj
    refine ⟨c, d.mono (fun b _ hb => .inl hb.1) hk, fun i u hu => ?_⟩
    have hu' := hc i u hu
    have hcell := ho.cells (g := g) rfl _ u hu'
    rw [show (⟨g, 0, none⟩ : Addr).add (j * d.sz + i) = ⟨g, 0 + j * d.sz + i, none⟩ from by unfold Addr.add; split <;> simp_all] at hcell
    exact hcell
theorem Own.kind (h : Own d e S w base v xs) : (Kd.slice d).K (fun b => S b ∨ base ≤ b) w [v] xs := by
  obtain ⟨a, c, rfl, hr⟩ := h.rd
  exact ⟨a, c, rfl, hr⟩
/-- What an append leaves. -/
theorem Own.appended {w' : World} {v' : Value} {cs news : List Value} {ys : List α}
    (ho : w'.ownsRow base e d.sz v' (xs.length + ys.length) (cs ++ news)) (hg : w.grownBy w' v.ownBlock)
    (he : Elems d (fun b => S b ∧ some b ≠ v.ownBlock) w cs xs) (hn : Elems d (fun b => S b ∧ some b ≠ v.ownBlock) w news ys)
    (hv : v'.ownBlock = v.ownBlock ∨ ∀ k, v'.ownBlock = some k → w.heap.size ≤ k) (hlt : ∀ b, S b → b < w.heap.size) : Own d e S w' base v' (xs ++ ys) := by
  have hs : Same (fun b => S b ∧ some b ≠ v.ownBlock) w w' := Same.grown hg fun b hb => hb.2
  have hall := (he.append hn).frame hs
  refine ⟨cs ++ news, by simpa using ho, hall.mono fun b _ hb => ⟨hb.1, ?_⟩⟩
  rcases hv with hv | hv
  · rw [hv]; exact hb.2
  · intro e
    have := hv b e.symm
    have := hlt b hb.1
    omega
end
theorem ret_bool {a b : Bool} (h : a = b) : Ending.returned (.bool a) = .returned (.bool b) := by rw [h]
theorem ret_int {k : IntKind} {a b : Int} (h : a = b) : Ending.returned (.int k a) = .returned (.int k b) := by rw [h]
theorem val_any {α : Type} {enc : α → Value} {h1 : ∀ x, (enc x).oneCell' = true} {S S' : Nat → Prop} {w : World} : ∀ cs x, (Kd.val enc h1).K S w cs x → (Kd.val enc h1).K S' w cs x := fun _ _ h => h
theorem Rd.lt {α : Type} {d : Kd α} {S : Nat → Prop} {w : World} {a : Option Addr} {c : Nat} {l : List α} (h : Rd d S w a c l) : Rd d (fun b => b < w.heap.size) w a c l := h.mono fun _ hb _ => hb
theorem same_since {α : Type} {d : Kd α} {e : TypeId} {S : Nat → Prop} {w w' : World} {H : Nat} {v : Value} {xs : List α} (ho : Own d e S w H v xs) (hg : w.grownBy w' v.ownBlock) : Same (fun b => b < H) w w' :=
  Same.grown hg fun b hb e => by have := (ho.lt b e.symm).1; omega
end Go.Proofs.Sat
