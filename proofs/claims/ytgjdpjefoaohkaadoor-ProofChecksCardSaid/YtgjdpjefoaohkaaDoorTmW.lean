/- Terms as data: what a term's five cells say. No program stands in it. -/
import Derived.Test.YtgjdpjefoaohkaaDoorBase
import Derived.Test.YtgjdpjefoaohkaaDoorOps
import Derived.Laws.Strings
set_option linter.unusedVariables false
set_option linter.unusedSimpArgs false
namespace Go.Proofs.Sat
open Go Go.RowKit
/-- A term. -/
inductive Tm where
  | mk (op width val : Int) (name : ByteArray) (args : List Tm)
namespace Tm
def op : Tm → Int | mk o _ _ _ _ => o
def width : Tm → Int | mk _ w _ _ _ => w
def val : Tm → Int | mk _ _ v _ _ => v
def name : Tm → ByteArray | mk _ _ _ n _ => n
def args : Tm → List Tm | mk _ _ _ _ l => l
theorem eta (x : Tm) : mk x.op x.width x.val x.name x.args = x := by cases x; rfl
theorem ext_iff {x y : Tm} : x = y ↔ x.op = y.op ∧ x.width = y.width ∧ x.val = y.val ∧ x.name = y.name ∧ x.args = y.args := by
  cases x; cases y; simp [op, width, val, name, args]
theorem arg_lt (x : Tm) {y : Tm} (h : y ∈ x.args) : SizeOf.sizeOf y < SizeOf.sizeOf x := by
  cases x with
  | mk o w v n l =>
    have := List.sizeOf_lt_of_mem (show y ∈ l from h)
    simp only [mk.sizeOf_spec]
    omega
end Tm
noncomputable instance : DecidableEq Tm := fun _ _ => Classical.propDecidable _
theorem bytes_beq (a b : ByteArray) : (a.toList == b.toList) = decide (a = b) := by
  rw [ByteArray.toList_eq, ByteArray.toList_eq]
  by_cases h : a = b
  · subst h; simp
  · have : a.data.toList ≠ b.data.toList := fun e => h (by cases a; cases b; simpa using e)
    rw [decide_eq_false h, beq_eq_false_iff_ne]
    exact this
/-- All lists of operands in it are at most n long. -/
inductive Few (n : Nat) : Tm → Prop where
  | mk {x : Tm} : x.args.length ≤ n → (∀ y ∈ x.args, Few n y) → Few n x
theorem Few.len {n : Nat} {x : Tm} (h : Few n x) : x.args.length ≤ n := by cases h; assumption
theorem Few.arg {n : Nat} {x y : Tm} (h : Few n x) (hy : y ∈ x.args) : Few n y := by cases h with | mk _ h => exact h y hy
/-- A term's cells, its operands' address and capacity given. -/
abbrev tmCells (x : Tm) (a : Option Addr) (c : Nat) : List Value := [.int .i64 x.op, .int .i64 x.width, .int .u64 x.val, .string x.name, .slice a x.args.length c]
/-- To a depth. -/
def kTn : Nat → Kd Tm
  | 0 => { sz := 5, K := fun _ _ _ _ => False, len := fun h => h.elim, one := fun h => h.elim, frame := fun _ h => h.elim, mono := fun _ h => h.elim }
  | n + 1 =>
    { sz := 5
      K := fun S w cs x => ∃ a c, cs = tmCells x a c ∧ Rd (kTn n) S w a c x.args
      len := fun h => by obtain ⟨a, c, rfl, _⟩ := h; rfl
      one := fun h => by obtain ⟨a, c, rfl, _⟩ := h; intro u hu; simp [tmCells] at hu; rcases hu with rfl | rfl | rfl | rfl | rfl <;> rfl
      frame := fun hs h => by obtain ⟨a, c, e, h⟩ := h; exact ⟨a, c, e, h.frame hs⟩
      mono := fun hS h => by obtain ⟨a, c, e, h⟩ := h; exact ⟨a, c, e, h.mono hS⟩ }
theorem kTn_sz (n : Nat) : (kTn n).sz = 5 := by cases n <;> rfl
theorem Rd.imp {α : Type} {d e : Kd α} (hsz : e.sz = d.sz) {S : Nat → Prop} {w : World} {a : Option Addr} {c : Nat} {l : List α} (h : Rd d S w a c l) (hk : ∀ cs x, x ∈ l → d.K S w cs x → e.K S w cs x) : Rd e S w a c l := by
  refine ⟨h.1, h.2.1, fun hp => ?_⟩
  obtain ⟨b, o, rfl, h1, h2, h3⟩ := h.2.2 hp
  refine ⟨b, o, rfl, h1, h2, fun j hj => ?_⟩
  obtain ⟨cs, k, hc⟩ := h3 j hj
  exact ⟨cs, hk _ _ (List.getElem_mem _) k, by rw [hsz]; exact hc⟩
theorem kTn_succ : ∀ (n : Nat) {S : Nat → Prop} {w : World} {cs : List Value} {x : Tm}, (kTn n).K S w cs x → (kTn (n + 1)).K S w cs x
  | 0, _, _, _, _, h => h.elim
  | n + 1, _, _, _, _, h => by
    obtain ⟨a, c, e, h⟩ := h
    exact ⟨a, c, e, h.imp (by rw [kTn_sz, kTn_sz]) fun cs x _ hk => kTn_succ n hk⟩
theorem kTn_le {n m : Nat} (h : n ≤ m) {S : Nat → Prop} {w : World} {cs : List Value} {x : Tm} (hk : (kTn n).K S w cs x) : (kTn m).K S w cs x := by
  induction h with
  | refl => exact hk
  | step _ ih => exact kTn_succ _ ih
/-- A term's cells. -/
def kT : Kd Tm where
  sz := 5
  K S w cs x := ∃ n, (kTn n).K S w cs x
  len h := by obtain ⟨n, h⟩ := h; rw [(kTn n).len h, kTn_sz]
  one h := by obtain ⟨n, h⟩ := h; exact (kTn n).one h
  frame hs h := by obtain ⟨n, h⟩ := h; exact ⟨n, (kTn n).frame hs h⟩
  mono hS h := by obtain ⟨n, h⟩ := h; exact ⟨n, (kTn n).mono hS h⟩
theorem bound_all {p : Nat → Nat → Prop} (mono : ∀ i n m, n ≤ m → p i n → p i m) : ∀ k, (∀ i, i < k → ∃ n, p i n) → ∃ n, ∀ i, i < k → p i n
  | 0, _ => ⟨0, fun i h => by omega⟩
  | k + 1, h => by
    obtain ⟨n, hn⟩ := bound_all mono k fun i hi => h i (by omega)
    obtain ⟨m, hm⟩ := h k (by omega)
    refine ⟨n + m, fun i hi => ?_⟩
    rcases Nat.lt_or_ge i k with h' | h'
    · exact mono i n _ (by omega) (hn i h')
    · obtain rfl : i = k := by omega
      exact mono i m _ (by omega) hm
theorem kT_open {S : Nat → Prop} {w : World} {cs : List Value} {x : Tm} (h : kT.K S w cs x) : ∃ a c, cs = tmCells x a c ∧ Rd kT S w a c x.args := by
  obtain ⟨n, h⟩ := h
  cases n with
  | zero => exact h.elim
  | succ n =>
    obtain ⟨a, c, e, h⟩ := h
    exact ⟨a, c, e, h.imp (by rw [kTn_sz]; rfl) fun cs x _ hk => ⟨n, hk⟩⟩
theorem kT_mk {S : Nat → Prop} {w : World} {x : Tm} {a : Option Addr} {c : Nat} (h : Rd kT S w a c x.args) : kT.K S w (tmCells x a c) x := by
  rcases Nat.eq_zero_or_pos x.args.length with h0 | hp
  · exact ⟨1, a, c, rfl, h.1, h.2.1, fun hp => by omega⟩
  · obtain ⟨b, o, rfl, h1, h2, h3⟩ := h.2.2 hp
    obtain ⟨n, hn⟩ := bound_all (p := fun j n => ∀ hj : j < x.args.length, ∃ cs, (kTn n).K S w cs x.args[j] ∧ ∀ i u, cs[i]? = some u → w.cell? ⟨b, o + j * 5 + i, none⟩ = some u)
      (fun i n m hnm h hi => by obtain ⟨cs, hk, hc⟩ := h hi; exact ⟨cs, kTn_le hnm hk, hc⟩) x.args.length fun j hj => by
        obtain ⟨cs, ⟨n, hk⟩, hc⟩ := h3 j hj
        exact ⟨n, fun _ => ⟨cs, hk, hc⟩⟩
    refine ⟨n + 1, _, _, rfl, h.1, h.2.1, fun _ => ⟨b, o, rfl, h1, h2, fun j hj => ?_⟩⟩
    obtain ⟨cs, hk, hc⟩ := hn j hj hj
    exact ⟨cs, hk, by rw [kTn_sz]; exact hc⟩
theorem eq_iff_elems {α : Type} (l m : List α) : l = m ↔ l.length = m.length ∧ ∀ i (h : i < l.length) (h' : i < m.length), l[i] = m[i] := by
  constructor
  · rintro rfl; exact ⟨rfl, fun _ _ _ => rfl⟩
  · rintro ⟨h1, h2⟩
    exact List.ext_getElem h1 fun i a b => h2 i a b
/-- A term's five cells at a place. -/
def Five (w : World) (b o : Nat) (x : Tm) (a : Option Addr) (c : Nat) : Prop := w.cell? ⟨b, o, none⟩ = some (.int .i64 x.op) ∧ w.cell? ⟨b, o + 1, none⟩ = some (.int .i64 x.width) ∧ w.cell? ⟨b, o + 2, none⟩ = some (.int .u64 x.val) ∧
    w.cell? ⟨b, o + 3, none⟩ = some (.string x.name) ∧ w.cell? ⟨b, o + 4, none⟩ = some (.slice a x.args.length c)
theorem Five.frame {w w' : World} {b o : Nat} {x : Tm} {a : Option Addr} {c : Nat} (h : Five w b o x a c) (hb : w'.heap[b]? = w.heap[b]?) : Five w' b o x a c :=
  ⟨(World.cell?_of_block hb).trans h.1, (World.cell?_of_block hb).trans h.2.1, (World.cell?_of_block hb).trans h.2.2.1, (World.cell?_of_block hb).trans h.2.2.2.1, (World.cell?_of_block hb).trans h.2.2.2.2⟩
/-- An element of a row of terms: its five cells. -/
theorem tm_elem {S : Nat → Prop} {w : World} {a : Option Addr} {c : Nat} {l : List Tm} (h : Rd kT S w a c l) {j : Nat} (hj : j < l.length) : ∃ b o a' c', a = some ⟨b, o, none⟩ ∧ b < w.heap.size ∧ Rd kT S w a' c' l[j].args ∧
    Five w b (o + j * 5) l[j] a' c' := by
  obtain ⟨b, o, cs, rfl, _, hb, hk', hc⟩ := h.elem hj
  obtain ⟨a', c', rfl, hr⟩ := kT_open hk'
  have e0 := hc 0 _ rfl
  have e1 := hc 1 _ rfl
  have e2 := hc 2 _ rfl
  have e3 := hc 3 _ rfl
  have e4 := hc 4 _ rfl
  simp only [show kT.sz = 5 from rfl, Nat.add_zero] at e0 e1 e2 e3 e4
  exact ⟨b, o, a', c', rfl, hb, hr, e0, e1, e2, e3, e4⟩
/-- A term as one value. -/
abbrev tmVal (x : Tm) (a : Option Addr) (c : Nat) : Value := .agg #[.int .i64 x.op, .int .i64 x.width, .int .u64 x.val, .string x.name, .slice a x.args.length c]
end Go.Proofs.Sat
