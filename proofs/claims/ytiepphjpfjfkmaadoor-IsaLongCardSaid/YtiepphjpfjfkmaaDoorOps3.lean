/- Laws of ours for the walks: make and copy over rows whose elements have several cells. -/
import Derived.Test.YtiepphjpfjfkmaaDoorOps2
import Derived.Laws.CopyRow
set_option linter.unusedVariables false
set_option linter.unusedSimpArgs false
namespace Go.Proofs.Sat
open Go Go.RowKit
theorem madeCells_succ (z : Array Value) (k n : Nat) (hz : z.size = k) (hk : 0 < k) : (madeCells z ((n + 1) * k)).toList = z.toList ++ (madeCells z (n * k)).toList := by
  apply List.ext_getElem
  · simp [madeCells, hz, Nat.add_mul]; omega
  intro j h1 h2
  simp [madeCells] at h1
  simp only [madeCells, Array.getElem_toList, Array.getElem_map, Array.getElem_range]
  by_cases hj : j < k
  · rw [List.getElem_append_left (by simpa [hz] using hj), hz, Nat.mod_eq_of_lt hj]
    rw [getElem!_pos z j (by omega)]
    simp
  · rw [List.getElem_append_right (by simp [hz]; omega)]
    simp only [Array.length_toList, hz, Array.getElem_toList, Array.getElem_map, Array.getElem_range]
    have e : j % k = (j - k) % k := by rw [Nat.mod_eq_sub_mod (by omega)]
    rw [e]
theorem madeCells_zero (z : Array Value) : (madeCells z 0).toList = [] := by simp [madeCells]
section
variable {P : Program} {α : Type} {d : Kd α}
theorem elems_made {S : Nat → Prop} {w : World} {x0 : α} {z : Array Value} (h : d.K S w z.toList x0) (hd : 0 < d.sz) (n : Nat) : Elems d S w (madeCells z (n * d.sz)).toList (List.replicate n x0) := by
  have hz : z.size = d.sz := by have := d.len h; simpa using this
  induction n with
  | zero => rw [Nat.zero_mul, madeCells_zero]; exact .nil
  | succ n ih =>
    rw [madeCells_succ z d.sz n hz hd]
    exact .cons h ih
/-- make([]T, n), T of several cells that lead nowhere. -/
theorem run_mkn (w : World) {t e : TypeId} {x0 : α} {z : Value} {size bytes : Nat} (I : ElemInfo P t e z size bytes) (hd : d.sz = size) (S : Nat → Prop) (h0 : ∀ S' w', d.K S' w' z.cells.toList x0) {base : Nat} (kl kc : IntKind) (L C : Int) (n : Nat) (hL : L = n) (hC : C = n)
    (hb : bytes * n ≤ 281474976710656) (h63 : n ≤ 9223372036854775807) (hbase : base ≤ w.heap.size) :
    ∃ v' w', (Instr.makeSlice t (.int kl L) (.int kc C)).run P w = .ok v' w' ∧ Own d e S w' base v' (List.replicate n x0) ∧ w.grownBy w' none ∧ v' = .slice (some ⟨w.heap.size, 0, none⟩) n n := by
  obtain ⟨i, hi, h2, h3, h4⟩ := info_parts I.hi
  subst hL hC hd
  obtain ⟨w', hr, ho, hg⟩ := run_make_full (P := P) w base t e i _ d.sz I.ht hi h2 h3 kl kc n (by rw [h4]; exact hb) (by simpa [maxLen] using h63) hbase
  refine ⟨_, w', hr, ⟨_, by simpa using ho, elems_made (h0 _ _) I.hs n⟩, hg, rfl⟩
theorem run_copy_rown (w : World) (dT sT ty elem : TypeId) (g dLen dCap : Nat) (a : Addr) (sLen sCap size : Nat) (cur : Array Value) (t : TypeId) (cs : List Value)
    (hu : P.underlying dT = some (.slice elem)) (hs : (P.info? elem).map (·.size) = some size)
    (hg : w.heap[g]? = some (.cells cur t (0, 0))) (hn : cs.length = Nat.min sLen dLen * size)
    (hsrc : ∀ j v, cs[j]? = some v → w.cell? (a.add j) = some v) (hfit : cs.length ≤ cur.size) (h1 : ∀ v ∈ cs, v.oneCell' = true) :
    (Builtin.copy_ #[dT, sT] ty #[.slice (some ⟨g, 0, none⟩) dLen dCap, .slice (some a) sLen sCap]).run P w =
      .ok (goInt (Nat.min sLen dLen)) (w.setRow g (cs ++ cur.toList.drop cs.length).toArray) := by
  have hl := run_loadCells_list (P := P) w a cs hsrc
  have hst := run_storeCells_at P g 0 t cs 0 cur w hg (by simpa using hfit) h1
  cases hq : P.info? elem with
  | none => simp [hq] at hs
  | some i =>
    have hi : i.size = size := by simpa [hq] using hs
    simp [Builtin.copy_, run_underlying hu, Builtin.lenOf, Builtin.firstCells, sizeOf, typeInfo, hq, hi, ← hn, hl, hst]
/-- copy(v, ys), as long as v is; elements that lead nowhere into v. -/
theorem run_cpn (w : World) {t e t2 : TypeId} {z : Value} {size bytes : Nat} (I : ElemInfo P t e z size bytes) (hd : d.sz = size) (ty : TypeId) {S Sy : Nat → Prop} {base : Nat} {v : Value} {xs ys : List α} (hown : Own d e S w base v xs)
    (sa : Option Addr) (m c : Nat) (hm : ys.length = m) (hy : Rd d Sy w sa c ys) (hlen : ys.length = xs.length) (hp : 0 < xs.length) (hS : ∀ cs x, d.K Sy w cs x → d.K (fun b => S b ∧ some b ≠ v.ownBlock) w cs x) :
    ∃ r w', (Builtin.copy_ #[t, t2] ty #[v, .slice sa m c]).run P w = .ok r w' ∧ Own d e S w' base v ys ∧ w.grownBy w' v.ownBlock := by
  subst hm
  obtain ⟨i, hi, h2, h3, h4⟩ := info_parts I.hi
  have hsz : (P.info? e).map (·.size) = some size := by rw [hi]; simp [h3]
  obtain ⟨cs0, ho, he⟩ := hown
  obtain ⟨b, o, rfl, hr⟩ := hy.2.2 (by omega)
  obtain ⟨cs, hcs, hc⟩ := row_cells hr
  have hl := hcs.length
  rcases ho.2 with ⟨_, h0⟩ | ⟨g, cap, cur, rfl, hb, hg, q1, q2, q3, q4⟩
  · omega
  · subst hd
    have hcur : xs.length * d.sz ≤ cur.size := by rw [q3]; exact Nat.mul_le_mul_right _ q1
    have hrun := run_copy_rown (P := P) w t t2 ty e g xs.length cap ⟨b, o, none⟩ ys.length c d.sz cur e cs I.ht hsz hg (by rw [hl, hlen]; simp) (fun j u hu => by rw [add_plain]; exact hc j u hu) (by rw [hl, hlen]; exact hcur) hcs.one
    refine ⟨_, _, hrun, ?_, ⟨rfl, rfl, rfl, by simp [World.setRow], fun k _ hk => setRow_other w g k _ (fun e => hk (by simp [Value.ownBlock, e]))⟩⟩
    have hgr := setRow_heap w g cur (cs ++ cur.toList.drop cs.length).toArray e (0, 0) hg
    have hS' : Same (fun b => (S b ∧ some b ≠ (Value.slice (some ⟨g, 0, none⟩) xs.length cap).ownBlock)) w (w.setRow g (cs ++ cur.toList.drop cs.length).toArray) := ⟨by simp [World.setRow], fun k hk _ => setRow_other w g k _ (fun e => hk.2 (by simp [Value.ownBlock, e]))⟩
    have hel : Elems d (fun b => S b ∧ some b ≠ (Value.slice (some ⟨g, 0, none⟩) xs.length cap).ownBlock) w cs ys := by
      clear hrun hgr hc hl hr hy hlen q1 q2 q3 q4 hcur hS'
      induction hcs with
      | nil => exact .nil
      | cons hk _ ih => exact .cons (hS _ _ hk) ih
    refine ⟨cs, ⟨hl, .inr ⟨g, cap, _, by rw [hlen], hb, hgr, by omega, q2, by simp [hl, hlen, q3]; rw [q3] at hcur; omega, ?_⟩⟩, hel.frame hS'⟩
    rw [← hl]
    simp
end
end Go.Proofs.Sat
