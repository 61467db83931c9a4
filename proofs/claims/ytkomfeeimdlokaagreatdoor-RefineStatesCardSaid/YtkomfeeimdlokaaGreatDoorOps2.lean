/- More plain words of ours for the walks: rows written in place, worlds that differ in one block, appends whose world's size is told, ends of functions. -/
import Derived.Test.YtkomfeeimdlokaaGreatDoorProg
import Derived.Test.YtkomfeeimdlokaaGreatDoorBase
import Derived.Test.YtkomfeeimdlokaaGreatDoorOps
import Derived.Deep.QuietTactic
import Derived.BigQuiet
import Derived.Deep.LoopGhost
import Derived.Deep.RegionLaw
import Derived.Deep.RegionHeld3
set_option linter.unusedVariables false
set_option linter.unusedSimpArgs false
namespace Go.Proofs.Sat
open Go Go.RowKit
/-- A store into a row of one's own (one-cell elements). -/
theorem Own.set {α : Type} {enc : α → Value} {h1 : ∀ x, (enc x).oneCell' = true} {e : TypeId} {S : Nat → Prop} {w : World} {base g n c : Nat} {xs : List α} (h : Own (Kd.val enc h1) e S w base (.slice (some ⟨g, 0, none⟩) n c) xs) (hn : xs.length = n) (i : Nat) (hi : i < n) (y : α) :
    Own (Kd.val enc h1) e S (w.setCell ⟨g, i, none⟩ (enc y)) base (.slice (some ⟨g, 0, none⟩) n c) (xs.set i y) := by
  subst hn
  rcases h.block with ⟨h0, _⟩ | ⟨g', cap, cur, hv, hb, hlt, hg, q1, q2, q3, q4⟩
  · cases h0
  · cases hv
    have hz : cur.toList = xs.map enc ++ cur.toList.drop xs.length := by
      rw [← q4, List.take_append_drop]
    have := Own.of_block (enc := enc) (h1 := h1) (e := e) (w := w.setCell ⟨g, i, none⟩ (enc y)) (g := g) (cap := c) (cur := cur.setIfInBounds i (enc y)) (xs := xs.set i y) S hb (by simp [World.setCell, Array.getElem?_modify, hg]) (by simpa using q1) q2 (by simpa using q3) (by
      rw [Array.toList_setIfInBounds, List.length_set, List.map_set, ← q4, List.take_set])
    simpa using this
/-- The cells of a row of one's own (one-cell elements), and that they may be written. -/
theorem Own.at {α : Type} {enc : α → Value} {h1 : ∀ x, (enc x).oneCell' = true} {e : TypeId} {S : Nat → Prop} {w : World} {base g n c : Nat} {xs : List α} (h : Own (Kd.val enc h1) e S w base (.slice (some ⟨g, 0, none⟩) n c) xs) (hn : xs.length = n) :
    (∀ j (hj : j < xs.length), w.cell? ⟨g, j, none⟩ = some (enc xs[j])) ∧ (∀ j, w.frozen? ⟨g, j, none⟩ = false) := by
  subst hn
  rcases h.block with ⟨h0, _⟩ | ⟨g', cap, cur, hv, hb, hlt, hg, q1, q2, q3, q4⟩
  · cases h0
  · cases hv
    refine ⟨fun j hj => ?_, fun j => frozen_of_block hg⟩
    rw [cell_of_row _ _ j _ _ _ hg]
    have := congrArg (·[j]?) q4
    simpa [hj] using this
/-- Ahead of an arm for make: it fails at once at any other operation. -/
theorem gate_m {P : Program} {ops : Array Oper} {rest : List Oper} {o : Oper} {a : Act} {Q : Exit → Act → World → Prop} {w : World} (T : TypeId) (s x : Operand) (_ : o.op = .makeSlice T s x) (k : wpList P ops Q (o :: rest) a w) : wpList P ops Q (o :: rest) a w := k
theorem infoInt : ElemInfo Tryz.prog 23 3 (.int .i64 0) 1 8 := ⟨Tryz.underlying23, by kernel_rfl, rfl, by decide⟩
theorem block_at1 (w : World) (o1 o2 : Obj) : ((w.alloc o1).alloc o2).heap[w.heap.size + 1]? = some o2 := by
  have := heap_alloc_new (w.alloc o1) o2
  simpa using this
theorem block_at2 (w : World) (o1 o2 o3 : Obj) : (((w.alloc o1).alloc o2).alloc o3).heap[w.heap.size + 1 + 1]? = some o3 := by
  have := heap_alloc_new ((w.alloc o1).alloc o2) o3
  simpa using this
theorem gate_a {P : Program} {f : Nat} {args : Array Value} {w : World} {Q : Ending → World → Prop} (args' : Array Value) (_ : args = args') (k : Calls P f args w Q) : Calls P f args w Q := k
/-- Worlds that differ in one block alone. -/
def Far (g : Nat) (w w' : World) : Prop := w'.os = w.os ∧ w'.tape = w.tape ∧ w'.output = w.output ∧ w'.heap.size = w.heap.size ∧ ∀ b, b ≠ g → w'.heap[b]? = w.heap[b]?
theorem Far.refl (g : Nat) (w : World) : Far g w w := ⟨rfl, rfl, rfl, rfl, fun _ _ => rfl⟩
theorem Far.setCell {g i : Nat} {w w' : World} (h : Far g w w') (v : Value) : Far g w (w'.setCell ⟨g, i, none⟩ v) :=
  ⟨h.1, h.2.1, h.2.2.1, by simpa [World.setCell] using h.2.2.2.1, fun b hb => (Below.heap_setCell w' _ v b hb).trans (h.2.2.2.2 b hb)⟩
theorem Far.drew {g : Nat} {w w' : World} (h : Far g w w') : Far g w w'.drew := h
theorem Far.below {g : Nat} {w w' : World} (h : Far g w w') {B : Nat} (hB : B ≤ g) : Below B w w' := ⟨h.1, h.2.1, h.2.2.1, by rw [h.2.2.2.1]; exact Nat.le_refl _, fun b hb => h.2.2.2.2 b (by omega)⟩
theorem Far.same {g : Nat} {w w' : World} (h : Far g w w') {S : Nat → Prop} (hS : ∀ b, S b → b ≠ g) : Same S w w' := ⟨by rw [h.2.2.2.1]; exact Nat.le_refl _, fun b hb _ => h.2.2.2.2 b (hS b hb)⟩
theorem ex_world {w : World} {P : World → Prop} (h : ∀ w', w' = w → P w') : ∃ w', w' = w ∧ P w' := ⟨w, rfl, h w rfl⟩
/-- append of one, the world's size told. -/
theorem run_app1_at {P : Program} {α : Type} {d : Kd α} (H : Nat) (w : World) (hH : w.heap.size = H) {t e : TypeId} {z : Value} {size bytes : Nat} (I : ElemInfo P t e z size bytes) (hd : d.sz = size) (ty : TypeId) {S : Nat → Prop} {base : Nat} {v : Value} {xs : List α} (hown : Own d e S w base v xs)
    (t0 : TypeId) (cs : List Value) (x : α) (hk : d.K (fun b => S b ∧ some b ≠ v.ownBlock) w cs x) (hb : (xs.length + 1) * bytes ≤ 140737488355328) (h63 : xs.length + 1 ≤ 9223372036854775807) (hbase : base ≤ w.heap.size) :
    ∃ v' w', (Builtin.append_ #[t, t] ty #[v, .slice (some ⟨H, 0, none⟩) 1 1]).run P (w.alloc (.cells cs.toArray t0)) = .ok v' w' ∧ Own d e S w' base v' (xs ++ [x]) ∧ w.grownBy w' v.ownBlock ∧
      (v'.ownBlock = v.ownBlock ∨ ∀ k, v'.ownBlock = some k → w.heap.size ≤ k) ∧ ∃ a c, v' = .slice a (xs.length + 1) c := by
  subst hH
  exact run_app1 w I hd ty hown t0 cs x hk hb h63 hbase
/-- The end of a function of two results, the first a struct in memory, the block known whole. -/
theorem bodyPost_ret_block2 {P : Program} {fn : Func} {R : Ending → World → Prop} {a : Act} {w : World} {r s : Tmp} {t t0 : TypeId} {cs : Array Value} {v : Value} (g : Nat) (fr : Nat × Nat) (d : TypeDesc)
    (hres : fn.results = #[.cell r t, .tmp s]) (ha : a.tmps.getD r undef = .pointer (some ⟨g, 0, none⟩)) (hv : a.tmps.getD s undef = v) (hg : w.heap[g]? = some (.cells cs t0 fr))
    (hu : P.underlying t = some d) (hd : (match d with | .struct _ | .array _ _ => true | _ => false) = true) (hi : (P.info? t).map (·.size) = some cs.size)
    (hdef : a.defers = []) (h : R (.returned (.tuple #[.agg cs, v])) w) : bodyPost P fn R .ret a w := by
  refine bodyPost_ret ?_ hdef h
  have := run_loadVar_row (P := P) w g t0 t cs fr d hg hu hd hi
  have ha' : a.tmps[r]?.getD undef = .pointer (some ⟨g, 0, none⟩) := by simpa using ha
  have hv' : a.tmps[s]?.getD undef = v := by simpa using hv
  simp [results, hres, ha', hv', asAddr, this]
/-- A row out of a block that is known whole. -/
theorem rd_block {α : Type} {d : Kd α} {S : Nat → Prop} {w : World} {g : Nat} {t : TypeId} {fr : Nat × Nat} {cs : List Value} {xs : List α} (hg : w.heap[g]? = some (.cells cs.toArray t fr)) (he : Elems d S w cs xs) (hS : S g) (c : Nat) (h1 : xs.length ≤ c) (h2 : c ≤ 9223372036854775807) : Rd d S w (some ⟨g, 0, none⟩) c xs := by
  refine ⟨h1, h2, fun _ => ⟨g, 0, rfl, hS, (Array.getElem?_eq_some_iff.1 hg).1, fun j hj => ?_⟩⟩
  obtain ⟨c', hk, hc⟩ := he.get j hj
  refine ⟨c', hk, fun i u hu => ?_⟩
  have := hc i u hu
  rw [cell_of_row _ _ (0 + j * d.sz + i) _ _ _ hg]
  simpa using this
theorem Rd.lit {α : Type} {enc : α → Value} {h1 : ∀ x, (enc x).oneCell' = true} (w : World) (t : TypeId) (l : List α) (d : α) (hl : l.length ≤ 9223372036854775807) : Rd (Kd.val enc h1) (fun _ => True) (w.alloc (.cells (l.map enc).toArray t)) (some ⟨w.heap.size, 0, none⟩) l.length l :=
  Rd.of_vals d (by omega) hl (fun _ => ⟨trivial, by simp⟩) (fun j hj => by
    rw [cell_of_row _ _ (0 + j) _ _ _ (heap_alloc_new w _)]
    simp [hj])
theorem Own.rd' {α : Type} {d : Kd α} {e : TypeId} {S : Nat → Prop} {w : World} {base : Nat} {a : Option Addr} {n c : Nat} {xs : List α} (h : Own d e S w base (.slice a n c) xs) : Rd d (fun b => S b ∨ base ≤ b) w a c xs := by
  obtain ⟨a', c', e, hr⟩ := h.rd
  cases e
  exact hr
theorem getD_at (l : List Int) {k : Nat} (h : k < l.length) : l.getD k 0 = l[k] := by simp [h]
end Go.Proofs.Sat
