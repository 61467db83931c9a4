/- Laws of ours for the walks: append, make and copy over rows of a call's own, in the words of Base. No program stands in it. -/
import Derived.Test.YtkomfeeimdlokaaGreatDoorBase
import Derived.Maps.AppendAt
import Derived.Deep.AppendLies
import Derived.RegionTactic
import Derived.Laws.Rows
import Derived.Laws.CopyOwn
import Derived.Laws.MakeOwn
import Derived.Laws.IdiomCopy
set_option linter.unusedVariables false
set_option linter.unusedSimpArgs false
namespace Go.Proofs.Sat
open Go Go.RowKit
section
variable {P : Program} {α : Type} {d : Kd α}

theorem add_plain (g o j : Nat) : (⟨g, o, none⟩ : Addr).add j = ⟨g, o + j, none⟩ := by unfold Addr.add; split <;> simp_all

/-- What is told of an element type. -/
structure ElemInfo (P : Program) (t e : TypeId) (z : Value) (size bytes : Nat) : Prop where
  ht : P.underlying t = some (.slice e)
  hi : (P.info? e).map (fun i => (i.zero, i.size, i.bytes)) = some (some z, size, bytes)
  hz : z.cells.size = size
  hs : 0 < size

/-- append(v, ys...): the new cells lie at ad. -/
theorem run_app (w : World) {t e : TypeId} {z : Value} {size bytes : Nat} (I : ElemInfo P t e z size bytes) (hd : d.sz = size) (ty : TypeId) {S : Nat → Prop} {base : Nat} {v : Value} {xs : List α} (hown : Own d e S w base v xs)
    (ad : Addr) (m c : Nat) (news : List Value) (ys : List α) (hm : ys.length = m) (hn : Elems d (fun b => S b ∧ some b ≠ v.ownBlock) w news ys) (hnews : ∀ j u, news[j]? = some u → w.cell? (ad.add j) = some u)
    (hb : (xs.length + m) * bytes ≤ 140737488355328) (h63 : xs.length + m ≤ 9223372036854775807) (hbase : base ≤ w.heap.size) :
    ∃ v' w', (Builtin.append_ #[t, t] ty #[v, .slice (some ad) m c]).run P w = .ok v' w' ∧ Own d e S w' base v' (xs ++ ys) ∧ w.grownBy w' v.ownBlock ∧ (v'.ownBlock = v.ownBlock ∨ v'.ownBlock = some w.heap.size) := by
  obtain ⟨cs, ho, he⟩ := hown
  obtain ⟨i, hi, h1, h2, h3⟩ := info_parts I.hi
  subst hd
  have hl : news.length = m * d.sz := by rw [hn.length, hm]
  obtain ⟨v', w', hr, hown', hg, _, hv⟩ := run_append_own_at (P := P) w base t ty e i z d.sz bytes I.ht hi h1 h2 h3 I.hz I.hs v xs.length cs ho ad m c news hl hnews hn.one (by simpa [maxLen] using h63) hb hbase
  refine ⟨v', w', hr, ?_, hg, hv⟩
  have hs : Same (fun b => (S b ∧ some b ≠ v.ownBlock) ∧ b < w.heap.size) w w' := Same.grown hg fun b hb => hb.1.2
  have hall := ((he.append hn).mono (S' := fun b => (S b ∧ some b ≠ v.ownBlock) ∧ b < w.heap.size) fun b hb h => ⟨h, hb⟩).frame hs
  refine ⟨cs ++ news, by simpa [hm] using hown', hall.mono fun b _ hb => ⟨hb.1.1, ?_⟩⟩
  rcases hv with hv | hv
  · rw [hv]; exact hb.1.2
  · rw [hv]; intro e; cases e; have := hb.2; omega
theorem new_cells (w : World) (cs : List Value) (t : TypeId) : ∀ j u, cs[j]? = some u → (w.alloc (.cells cs.toArray t)).cell? ((⟨w.heap.size, 0, none⟩ : Addr).add j) = some u := by
  intro j u hu
  rw [add_plain, Nat.zero_add, cell_of_row _ w.heap.size j cs.toArray t (0, 0) (heap_alloc_new w _)]
  simpa using hu
/-- append(v, x): the variadic's box has just been made. -/
theorem run_app1 (w : World) {t e : TypeId} {z : Value} {size bytes : Nat} (I : ElemInfo P t e z size bytes) (hd : d.sz = size) (ty : TypeId) {S : Nat → Prop} {base : Nat} {v : Value} {xs : List α} (hown : Own d e S w base v xs)
    (t0 : TypeId) (cs : List Value) (x : α) (hk : d.K (fun b => S b ∧ some b ≠ v.ownBlock) w cs x) (hb : (xs.length + 1) * bytes ≤ 140737488355328) (h63 : xs.length + 1 ≤ 9223372036854775807) (hbase : base ≤ w.heap.size) :
    ∃ v' w', (Builtin.append_ #[t, t] ty #[v, .slice (some ⟨w.heap.size, 0, none⟩) 1 1]).run P (w.alloc (.cells cs.toArray t0)) = .ok v' w' ∧ Own d e S w' base v' (xs ++ [x]) ∧ w.grownBy w' v.ownBlock ∧
      (v'.ownBlock = v.ownBlock ∨ ∀ k, v'.ownBlock = some k → w.heap.size ≤ k) ∧ ∃ a c, v' = .slice a (xs.length + 1) c := by
  obtain ⟨v', w', h1, h2, h3, h4⟩ := run_app (w.alloc (.cells cs.toArray t0)) I hd ty (hown.alloc _) ⟨w.heap.size, 0, none⟩ 1 1 cs [x] rfl (Elems.single (d.frame (Same.alloc _ _ _) hk)) (new_cells w cs t0) hb h63 (by simp; omega)
  refine ⟨v', w', h1, h2, (World.grownBy_alloc w _ _).trans h3, ?_, by simpa using h2.form⟩
  rcases h4 with h4 | h4
  · exact .inl h4
  · right; intro k hk; rw [h4] at hk; cases hk; simp
theorem run_append_nil_src (w : World) {t e : TypeId} {z : Value} {size bytes : Nat} (I : ElemInfo P t e z size bytes) (ty : TypeId) {S : Nat → Prop} {base : Nat} {v : Value} {xs : List α} (hown : Own d e S w base v xs) (c : Nat) :
    (Builtin.append_ #[t, t] ty #[v, .slice none 0 c]).run P w = .ok v w := by
  obtain ⟨cs, ho, he⟩ := hown
  obtain ⟨i, hi, h1, h2, h3⟩ := info_parts I.hi
  rcases ho.2 with ⟨rfl, h0⟩ | ⟨g, cap, cur, rfl, hb, hg, hle, _⟩
  · simp [Builtin.append_, run_underlying I.ht, sizeOf, typeInfo, hi, Builtin.lenOf, Builtin.firstCells, loadCells, loadCellsFrom]
  · simp [Builtin.append_, run_underlying I.ht, sizeOf, typeInfo, hi, Builtin.lenOf, Builtin.firstCells, loadCells, loadCellsFrom, hle, storeCells]
theorem row_cells {S : Nat → Prop} {w : World} {b o : Nat} {l : List α} (h : Row d S w b o l) : ∃ cs, Elems d S w cs l ∧ ∀ j u, cs[j]? = some u → w.cell? ⟨b, o + j, none⟩ = some u := by
  induction l generalizing o with
  | nil => exact ⟨[], .nil, fun j u hu => by simp at hu⟩
  | cons x l ih =>
    obtain ⟨c, hk, hc⟩ := h.2.2 0 (by simp)
    have h' := h.drop 1
    simp only [List.drop_one, List.tail_cons, Nat.one_mul] at h'
    obtain ⟨cs, he, hcs⟩ := ih h'
    have hl := d.len hk
    refine ⟨c ++ cs, .cons (by simpa using hk) he, fun j u hu => ?_⟩
    rcases Nat.lt_or_ge j c.length with hj | hj
    · rw [List.getElem?_append_left hj] at hu
      simpa using hc j u hu
    · rw [List.getElem?_append_right hj] at hu
      have := hcs _ u hu
      rw [show o + d.sz + (j - c.length) = o + j from by omega] at this
      exact this
/-- append(v, ys...), ys a slice that is read. -/
theorem run_app_rd (w : World) {t e : TypeId} {z : Value} {size bytes : Nat} (I : ElemInfo P t e z size bytes) (hd : d.sz = size) (ty : TypeId) {S Sy : Nat → Prop} {base : Nat} {v : Value} {xs : List α} (hown : Own d e S w base v xs)
    (sa : Option Addr) (c m : Nat) (ys : List α) (hm : ys.length = m) (hy : Rd d Sy w sa c ys) (hS : ∀ cs x, d.K Sy w cs x → d.K (fun b => S b ∧ some b ≠ v.ownBlock) w cs x)
    (hb : (xs.length + m) * bytes ≤ 140737488355328) (h63 : xs.length + m ≤ 9223372036854775807) (hbase : base ≤ w.heap.size) :
    ∃ v' w', (Builtin.append_ #[t, t] ty #[v, .slice sa m c]).run P w = .ok v' w' ∧ Own d e S w' base v' (xs ++ ys) ∧ w.grownBy w' v.ownBlock ∧ (v'.ownBlock = v.ownBlock ∨ v'.ownBlock = some w.heap.size) := by
  subst hm
  rcases Nat.eq_zero_or_pos ys.length with h0 | hp
  · obtain rfl : ys = [] := List.eq_nil_of_length_eq_zero h0
    cases sa with
    | none => exact ⟨v, w, run_append_nil_src w I ty hown c, by simpa using hown, World.grownBy.refl _ _, .inl rfl⟩
    | some ad => exact run_app w I hd ty hown ad 0 c [] [] rfl .nil (fun j u hu => by simp at hu) (by simpa using hb) (by simpa using h63) hbase
  · obtain ⟨b, o, rfl, hr⟩ := hy.2.2 hp
    obtain ⟨cs, he, hc⟩ := row_cells hr
    refine run_app w I hd ty hown ⟨b, o, none⟩ ys.length c cs ys rfl ?_ (fun j u hu => by rw [add_plain]; exact hc j u hu) hb h63 hbase
    clear hc hb h63 hy hp hr
    induction he with
    | nil => exact .nil
    | cons hk _ ih => exact .cons (hS _ _ hk) ih
end
section
variable {P : Program}
/-- A row of one-cell elements: its block. -/
theorem Own.block {α : Type} {enc : α → Value} {h1 : ∀ x, (enc x).oneCell' = true} {e : TypeId} {S : Nat → Prop} {w : World} {base : Nat} {v : Value} {xs : List α} (h : Own (Kd.val enc h1) e S w base v xs) :
    (v = .slice none 0 0 ∧ xs = []) ∨ ∃ g cap cur, v = .slice (some ⟨g, 0, none⟩) xs.length cap ∧ base ≤ g ∧ g < w.heap.size ∧ w.heap[g]? = some (.cells cur e (0, 0)) ∧ xs.length ≤ cap ∧ cap ≤ maxLen ∧ cur.size = cap ∧ cur.toList.take xs.length = xs.map enc := by
  obtain ⟨cs, ho, he⟩ := h
  have hcs := elems_vals_eq he
  subst hcs
  rcases ho.2 with ⟨rfl, h0⟩ | ⟨g, cap, cur, rfl, hb, hg, h2, h3, h4, h5⟩
  · exact .inl ⟨rfl, List.eq_nil_of_length_eq_zero h0⟩
  · exact .inr ⟨g, cap, cur, rfl, hb, (Array.getElem?_eq_some_iff.1 hg).1, hg, h2, h3, by simpa [Kd.val, Kd.flat] using h4, by simpa [Kd.val, Kd.flat] using h5⟩
theorem Own.of_block {α : Type} {enc : α → Value} {h1 : ∀ x, (enc x).oneCell' = true} {e : TypeId} (S : Nat → Prop) {w : World} {base g cap : Nat} {cur : Array Value} {xs : List α} (hb : base ≤ g) (hg : w.heap[g]? = some (.cells cur e (0, 0)))
    (h2 : xs.length ≤ cap) (h3 : cap ≤ maxLen) (h4 : cur.size = cap) (h5 : cur.toList.take xs.length = xs.map enc) : Own (Kd.val enc h1) e S w base (.slice (some ⟨g, 0, none⟩) xs.length cap) xs :=
  ⟨xs.map enc, ⟨by simp [Kd.val, Kd.flat], .inr ⟨g, cap, cur, rfl, hb, hg, h2, h3, by simpa [Kd.val, Kd.flat] using h4, by simpa [Kd.val, Kd.flat] using h5⟩⟩, elems_vals xs⟩
theorem madeCells_one (z : Value) (n : Nat) : (madeCells #[z] n).toList = List.replicate n z := by
  apply List.ext_getElem (by simp [madeCells])
  intro j h1 h2
  simp [madeCells, Nat.mod_one]
/-- make([]T, n), T of one cell. -/
theorem run_mk (w : World) {α : Type} {enc : α → Value} (h1 : ∀ x, (enc x).oneCell' = true) {t e : TypeId} {x0 : α} {bytes : Nat} (I : ElemInfo P t e (enc x0) 1 bytes) (S : Nat → Prop) {base : Nat} (kl kc : IntKind) (L C : Int) (n : Nat) (hL : L = n) (hC : C = n)
    (hb : bytes * n ≤ 281474976710656) (h63 : n ≤ 9223372036854775807) (hbase : base ≤ w.heap.size) :
    ∃ v' w', (Instr.makeSlice t (.int kl L) (.int kc C)).run P w = .ok v' w' ∧ Own (Kd.val enc h1) e S w' base v' (List.replicate n x0) ∧ w.grownBy w' none ∧ v' = .slice (some ⟨w.heap.size, 0, none⟩) n n := by
  obtain ⟨i, hi, h2, h3, h4⟩ := info_parts I.hi
  subst hL hC
  obtain ⟨w', hr, ho, hg⟩ := run_make_full (P := P) w base t e i _ 1 I.ht hi h2 h3 kl kc n (by rw [h4]; exact hb) (by simpa [maxLen] using h63) hbase
  refine ⟨_, w', hr, ?_, hg, rfl⟩
  have hc : (enc x0).cells = #[enc x0] := by
    have := h1 x0
    cases hv : enc x0 <;> simp_all [Value.cells, Value.oneCell']
  rw [hc, Nat.mul_one, madeCells_one] at ho
  rcases ho.2 with ⟨h, _⟩ | ⟨g, cap, cur, hv, hb', hg', q1, q2, q3, q4⟩
  · cases h
  · cases hv
    have := Own.of_block (enc := enc) (h1 := h1) (xs := List.replicate n x0) S hb' hg' (by simp) q2 (by simpa using q3) (by simpa using q4)
    simpa using this
/-- copy(v, ys), as long as v is. -/
theorem run_cp (w : World) {α : Type} {enc : α → Value} {h1 : ∀ x, (enc x).oneCell' = true} {t e t2 : TypeId} {z : Value} {bytes : Nat} (I : ElemInfo P t e z 1 bytes) (ty : TypeId) {S Sy : Nat → Prop} {base : Nat} {v : Value} {xs ys : List α} (hown : Own (Kd.val enc h1) e S w base v xs)
    (sa : Option Addr) (c : Nat) (hy : Rd (Kd.val enc h1) Sy w sa c ys) (hlen : ys.length = xs.length) :
    ∃ r w', (Builtin.copy_ #[t, t2] ty #[v, .slice sa ys.length c]).run P w = .ok r w' ∧ Own (Kd.val enc h1) e S w' base v ys ∧ w.grownBy w' v.ownBlock := by
  obtain ⟨i, hi, h2, h3, h4⟩ := info_parts I.hi
  have hsz : (P.info? e).map (·.size) = some 1 := by rw [hi]; simp [h3]
  rcases Nat.eq_zero_or_pos ys.length with h0 | hp
  · obtain rfl : ys = [] := List.eq_nil_of_length_eq_zero h0
    obtain rfl : xs = [] := List.eq_nil_of_length_eq_zero (by simpa using hlen.symm)
    obtain ⟨a, cc, rfl⟩ := hown.form
    have hrun := run_copy_none (P := P) w t t2 ty e a sa 0 cc 0 c I.ht hsz (by simp)
    exact ⟨_, w, hrun, hown, World.grownBy.refl _ _⟩
  · obtain ⟨b, o, rfl, _, _, hc⟩ := hy.vals hp (ys[0])
    rcases hown.block with ⟨_, rfl⟩ | ⟨g, cap, cur, rfl, hb, hlt, hg, q1, q2, q3, q4⟩
    · simp only [List.length_nil] at hlen; omega
    · have hrun := run_copy_row (P := P) w t t2 ty e g 0 xs.length cap ⟨b, o, none⟩ ys.length c cur e (ys.map enc) I.ht hsz hg (by simp [hlen]) (fun j u hu => by
        rw [add_plain]
        simp only [List.getElem?_map, Option.map_eq_some_iff] at hu
        obtain ⟨x, hx, rfl⟩ := hu
        have hj := (List.getElem?_eq_some_iff.1 hx).1
        rw [hc j hj, List.getD_eq_getElem?_getD, hx]; rfl) (by simp; omega) (fun u hu => by simp at hu; obtain ⟨x, _, rfl⟩ := hu; exact h1 x)
      refine ⟨_, _, hrun, ?_, ⟨rfl, rfl, rfl, by simp, fun k _ hk => setRow_other w g k _ (fun e => hk (by simp [Value.ownBlock, e]))⟩⟩
      have hgr := setRow_heap w g cur (cur.toList.take 0 ++ ys.map enc ++ cur.toList.drop (0 + (ys.map enc).length)).toArray e (0, 0) hg
      have := Own.of_block (enc := enc) (h1 := h1) (xs := ys) S hb hgr (by omega) q2 (by simp; omega) (by simp [← hlen])
      rw [← hlen]
      exact this
/-- 'xs[m:]'. -/
theorem cut_from {α : Type} (d : Kd α) {t e : TypeId} {z : Value} {size bytes : Nat} (I : ElemInfo P t e z size bytes) (hd : d.sz = size) (A : Option Addr) (n c m : Nat) (hm : m ≤ n) :
    ∃ A' : Option Addr, (∀ W : World, (Instr.slice t (.slice A n c) (some (.int .i64 (m : Int))) none none).run P W = .ok (.slice A' (n - m) (c - m)) W) ∧
      ∀ (S : Nat → Prop) (w : World) (l : List α), l.length = n → Rd d S w A c l → Rd d S w A' (c - m) (l.drop m) := by
  obtain ⟨i, hi, h2, h3, h4⟩ := info_parts I.hi
  refine ⟨if c = m then A else A.map (·.add (m * size)), fun W => ?_, fun S w l hl h => ?_⟩
  · have hel : P.elem t = e := by simp [Program.elem, I.ht]
    have hu : P.underlying t = some (.slice (P.elem t)) := by rw [hel]; exact I.ht
    rw [run_slice_l W t A n c hu .i64 (m : Int) (Int.natCast_nonneg _) (by omega), hel]
    simp [sizeOf, typeInfo, hi, h3, sliced, Result.andThen]
  · refine ⟨by rw [List.length_drop]; have := h.1; omega, by have := h.2.1; omega, fun hp => ?_⟩
    rw [List.length_drop] at hp
    obtain ⟨b, o, rfl, hr⟩ := h.2.2 (by omega)
    have := h.1
    rw [if_neg (by omega)]
    refine ⟨b, o + m * d.sz, ?_, hr.drop m⟩
    simp [add_plain, hd]
variable {ops : Array Oper} {rest : List Oper} {o : Oper} {a : Act} {Q : Exit → Act → World → Prop}
/-- Ahead of an arm: it fails at once at any other operation. -/
theorem gate_b {b : Builtin} {w : World} (s x : Operand) {tt : Array TypeId} (_ : o.op = .call { callee := .builtin b, args := #[s, x], argTypes := tt }) (k : wpList P ops Q (o :: rest) a w) : wpList P ops Q (o :: rest) a w := k
/-- append in a walk: behind 'at_builtin'. -/
theorem wpList_append_ev (w : World) (hgd : o.guard = none) (s x : Operand) (t : TypeId) (ho : o.op = .call { callee := .builtin .append, args := #[s, x], argTypes := #[t, t] }) (v u : Value) (hs : a.eval s = v) (hx : a.eval x = u) (Φ : Value → World → Prop)
    (hrun : ∃ v' w', (Builtin.append_ #[t, t] o.type #[v, u]).run P w = .ok v' w' ∧ Φ v' w') (h : ∀ v' w', Φ v' w' → wpList P ops Q rest (a.put o.dst v') w') : wpList P ops Q (o :: rest) a w := by
  obtain ⟨v', w', hr, hΦ⟩ := hrun
  refine wpList_plain hgd fun K hK => ?_
  unfold Oper.wp execOp
  simp only [ho, resolve, invoke, builtin, Sem.run_bind, Sem.run_pure, Result.andThen_ok, List.map_toArray, List.map_cons, List.map_nil, hs, hx, hr]
  exact hK _ _ (h v' w' hΦ)
theorem wpList_copy_ev (w : World) (hgd : o.guard = none) (s x : Operand) (t t2 : TypeId) (ho : o.op = .call { callee := .builtin .copy, args := #[s, x], argTypes := #[t, t2] }) (v u : Value) (hs : a.eval s = v) (hx : a.eval x = u) (Φ : Value → World → Prop)
    (hrun : ∃ v' w', (Builtin.copy_ #[t, t2] o.type #[v, u]).run P w = .ok v' w' ∧ Φ v' w') (h : ∀ v' w', Φ v' w' → wpList P ops Q rest (a.put o.dst v') w') : wpList P ops Q (o :: rest) a w := by
  obtain ⟨v', w', hr, hΦ⟩ := hrun
  refine wpList_plain hgd fun K hK => ?_
  unfold Oper.wp execOp
  simp only [ho, resolve, invoke, builtin, Sem.run_bind, Sem.run_pure, Result.andThen_ok, List.map_toArray, List.map_cons, List.map_nil, hs, hx, hr]
  exact hK _ _ (h v' w' hΦ)
theorem wpList_make_ev (w : World) (hgd : o.guard = none) (l c : Operand) (t : TypeId) (ho : o.op = .makeSlice t l c) (v u : Value) (hs : a.eval l = v) (hx : a.eval c = u) (Φ : Value → World → Prop)
    (hrun : ∃ v' w', (Instr.makeSlice t v u).run P w = .ok v' w' ∧ Φ v' w') (h : ∀ v' w', Φ v' w' → wpList P ops Q rest (a.put o.dst v') w') : wpList P ops Q (o :: rest) a w := by
  obtain ⟨v', w', hr, hΦ⟩ := hrun
  refine wpList_plain hgd fun K hK => ?_
  unfold Oper.wp
  simp [execOp, ho, hs, hx, hr, Result.andThen]
  exact hK _ _ (h v' w' hΦ)
/-- Ahead of an arm at a step of a region that draws its order: it fails at once at any other operation. -/
theorem gate_s {b : Builtin} {K : Act → World → Prop} {E : Prop} {w : World} (s x : Operand) {tt : Array TypeId} (_ : o.op = .call { callee := .builtin b, args := #[s, x], argTypes := tt })
    (k : if Region.wanted o (yielded ops a.tmps) = true then Oper.wp P o a w K Q else E) : if Region.wanted o (yielded ops a.tmps) = true then Oper.wp P o a w K Q else E := k
/-- append as a step of a region that draws its order (for go_region_held_law). -/
theorem step_append_ev {K : Act → World → Prop} {E : Prop} (w : World) (hgd : o.guard = none) (s x : Operand) (t : TypeId) (ho : o.op = .call { callee := .builtin .append, args := #[s, x], argTypes := #[t, t] }) (v u : Value) (hs : a.eval s = v) (hx : a.eval x = u) (Φ : Value → World → Prop)
    (hrun : ∃ v' w', (Builtin.append_ #[t, t] o.type #[v, u]).run P w = .ok v' w' ∧ Φ v' w') (h : ∀ v' w', Φ v' w' → K (a.put o.dst v') w') :
    if Region.wanted o (yielded ops a.tmps) = true then Oper.wp P o a w K Q else E := by
  have hw : Region.wanted o (yielded ops a.tmps) = true := by simp [Region.wanted, hgd]
  rw [if_pos hw]
  obtain ⟨v', w', hr, hΦ⟩ := hrun
  unfold Oper.wp execOp
  simp only [ho, resolve, invoke, builtin, Sem.run_bind, Sem.run_pure, Result.andThen_ok, List.map_toArray, List.map_cons, List.map_nil, hs, hx, hr]
  exact h v' w' hΦ
end
/-- The end of a function whose result is a struct in memory, the block known whole. -/
theorem bodyPost_ret_block {P : Program} {fn : Func} {R : Ending → World → Prop} {a : Act} {w : World} {r : Tmp} {t t0 : TypeId} {cs : Array Value} (g : Nat) (fr : Nat × Nat) (d : TypeDesc)
    (hres : fn.results = #[.cell r t]) (ha : a.tmps.getD r undef = .pointer (some ⟨g, 0, none⟩)) (hg : w.heap[g]? = some (.cells cs t0 fr))
    (hu : P.underlying t = some d) (hd : (match d with | .struct _ | .array _ _ => true | _ => false) = true) (hi : (P.info? t).map (·.size) = some cs.size)
    (hdef : a.defers = []) (h : R (.returned (.agg cs)) w) : bodyPost P fn R .ret a w := by
  refine bodyPost_ret ?_ hdef h
  have := run_loadVar_row (P := P) w g t0 t cs fr d hg hu hd hi
  have ha' : a.tmps[r]?.getD undef = .pointer (some ⟨g, 0, none⟩) := by simpa using ha
  simp [results, hres, ha', asAddr, this]
end Go.Proofs.Sat
