/- Laws of ours for the walks: parts of slices; copy of nothing; both in one: copy into a row as long as what is copied. -/
import Derived.Test.YtiepphjpfjfkmaaDoorOps3
set_option linter.unusedVariables false
set_option linter.unusedSimpArgs false
namespace Go.Proofs.Sat
open Go Go.RowKit
section
variable {P : Program} {α : Type}
/-- What a cut's address reads. -/
theorem rd_cut {d : Kd α} {S : Nat → Prop} {w : World} {A : Option Addr} {c f m : Nat} {l : List α} (h : Rd d S w A c l) (hm : f + m ≤ l.length) : Rd d S w (if c = f then A else A.map (·.add (f * d.sz))) (c - f) ((l.drop f).take m) := by
  have hc := h.1
  have hl : ((l.drop f).take m).length = m := by rw [List.length_take, List.length_drop]; omega
  refine ⟨by rw [hl]; omega, by have := h.2.1; omega, fun hp => ?_⟩
  rw [hl] at hp
  obtain ⟨b, o, rfl, hr⟩ := h.2.2 (by omega)
  rw [if_neg (by omega)]
  refine ⟨b, o + f * d.sz, by simp [add_plain], ?_⟩
  obtain ⟨hb, hlt, hr'⟩ := hr.drop f
  refine ⟨hb, hlt, fun j hj => ?_⟩
  rw [hl] at hj
  obtain ⟨cs, hk, hcs⟩ := hr' j (by rw [List.length_drop]; omega)
  exact ⟨cs, by simpa using hk, hcs⟩
/-- 'xs[f:f+m]'. -/
theorem cut_mid (d : Kd α) {t e : TypeId} {z : Value} {size bytes : Nat} (I : ElemInfo P t e z size bytes) (hd : d.sz = size) (A : Option Addr) (n c f m : Nat) (lo hi : Int) (hlo : lo = f) (hhi : hi = f + m) (hm : f + m ≤ c) :
    ∃ A' : Option Addr, (∀ W : World, (Instr.slice t (.slice A n c) (some (.int .i64 lo)) (some (.int .i64 hi)) none).run P W = .ok (.slice A' m (c - f)) W) ∧
      ∀ (S : Nat → Prop) (w : World) (l : List α), f + m ≤ l.length → Rd d S w A c l → Rd d S w A' (c - f) ((l.drop f).take m) := by
  obtain ⟨i, hi', h2, h3, h4⟩ := info_parts I.hi
  subst hlo hhi
  refine ⟨if c = f then A else A.map (·.add (f * size)), fun W => ?_, fun S w l hl h => ?_⟩
  · have hel : P.elem t = e := by simp [Program.elem, I.ht]
    have hu : P.underlying t = some (.slice (P.elem t)) := by rw [hel]; exact I.ht
    rw [run_slice_lh W t A n c hu .i64 .i64 (f : Int) ((f : Int) + (m : Int)) (Int.natCast_nonneg _) (by omega) (by omega), hel]
    have e : ((f : Int) + (m : Int)).toNat = f + m := by omega
    simp [sizeOf, typeInfo, hi', h3, sliced, Result.andThen, e]
  · subst hd
    exact rd_cut h hl
/-- 'xs[:m]'. -/
theorem cut_to (d : Kd α) {t e : TypeId} {z : Value} {size bytes : Nat} (I : ElemInfo P t e z size bytes) (hd : d.sz = size) (A : Option Addr) (n c m : Nat) (hi : Int) (hhi : hi = m) (hm : m ≤ c) :
    ∃ A' : Option Addr, (∀ W : World, (Instr.slice t (.slice A n c) none (some (.int .i64 hi)) none).run P W = .ok (.slice A' m c) W) ∧
      ∀ (S : Nat → Prop) (w : World) (l : List α), m ≤ l.length → Rd d S w A c l → Rd d S w A' c (l.take m) := by
  obtain ⟨i, hi', h2, h3, h4⟩ := info_parts I.hi
  subst hhi
  refine ⟨if c = 0 then A else A.map (·.add (0 * size)), fun W => ?_, fun S w l hl h => ?_⟩
  · have hel : P.elem t = e := by simp [Program.elem, I.ht]
    have hu : P.underlying t = some (.slice (P.elem t)) := by rw [hel]; exact I.ht
    rw [run_slice_h W t A n c hu .i64 (m : Int) (Int.natCast_nonneg _) (by omega), hel]
    simp [sizeOf, typeInfo, hi', h3, sliced, Result.andThen]
  · subst hd
    have := rd_cut (f := 0) (m := m) h (by omega)
    simpa using this
/-- 'xs[f:]'. -/
theorem cut_off (d : Kd α) {t e : TypeId} {z : Value} {size bytes : Nat} (I : ElemInfo P t e z size bytes) (hd : d.sz = size) (A : Option Addr) (n c f : Nat) (lo : Int) (hlo : lo = f) (hm : f ≤ n) :
    ∃ A' : Option Addr, (∀ W : World, (Instr.slice t (.slice A n c) (some (.int .i64 lo)) none none).run P W = .ok (.slice A' (n - f) (c - f)) W) ∧
      ∀ (S : Nat → Prop) (w : World) (l : List α), l.length = n → Rd d S w A c l → Rd d S w A' (c - f) (l.drop f) := by
  subst hlo
  exact cut_from d I hd A n c f hm
theorem run_copy_zero (w : World) (dT sT ty elem : TypeId) (d a : Option Addr) (dCap sCap size : Nat) (hu : P.underlying dT = some (.slice elem)) (hs : (P.info? elem).map (·.size) = some size) :
    (Builtin.copy_ #[dT, sT] ty #[.slice d 0 dCap, .slice a 0 sCap]).run P w = .ok (goInt 0) w := by
  cases hq : P.info? elem with
  | none => simp [hq] at hs
  | some i =>
    have hl : ∀ (x : Addr), (loadCells x 0).run P w = .ok #[] w := fun x => by simpa using run_loadCells_list (P := P) w x [] (by simp)
    cases d <;> cases a <;> simp [Builtin.copy_, run_underlying hu, Builtin.lenOf, Builtin.firstCells, sizeOf, typeInfo, hq, storeCells, hl]
/-- copy(v, ys), as long as v is, be it empty. -/
theorem run_cpn' {d : Kd α} (w : World) {t e t2 : TypeId} {z : Value} {size bytes : Nat} (I : ElemInfo P t e z size bytes) (hd : d.sz = size) (ty : TypeId) {S Sy : Nat → Prop} {base : Nat} {v : Value} {xs ys : List α} (hown : Own d e S w base v xs)
    (sa : Option Addr) (m c : Nat) (hm : ys.length = m) (hy : Rd d Sy w sa c ys) (hlen : ys.length = xs.length) (hS : ∀ cs x, d.K Sy w cs x → d.K (fun b => S b ∧ some b ≠ v.ownBlock) w cs x) :
    ∃ r w', (Builtin.copy_ #[t, t2] ty #[v, .slice sa m c]).run P w = .ok r w' ∧ Own d e S w' base v ys ∧ w.grownBy w' v.ownBlock := by
  rcases Nat.eq_zero_or_pos xs.length with h0 | hp
  · obtain rfl : xs = [] := List.eq_nil_of_length_eq_zero h0
    obtain rfl : ys = [] := List.eq_nil_of_length_eq_zero (by simpa using hlen)
    obtain ⟨a, cc, rfl⟩ := hown.form
    obtain ⟨i, hi, h2, h3, h4⟩ := info_parts I.hi
    subst hm
    exact ⟨_, w, run_copy_zero w t t2 ty e a sa cc c size I.ht (by rw [hi]; simp [h3]), hown, World.grownBy.refl _ _⟩
  · exact run_cpn w I hd ty hown sa m c hm hy hlen hp hS
variable {ops : Array Oper} {rest : List Oper} {o : Oper} {a : Act} {Q : Exit → Act → World → Prop}
/-- copy as a step of a region that draws its order. -/
theorem step_copy_ev {K : Act → World → Prop} {E : Prop} (w : World) (hgd : o.guard = none) (s x : Operand) (t t2 : TypeId) (ho : o.op = .call { callee := .builtin .copy, args := #[s, x], argTypes := #[t, t2] }) (v u : Value) (hs : a.eval s = v) (hx : a.eval x = u) (Φ : Value → World → Prop)
    (hrun : ∃ v' w', (Builtin.copy_ #[t, t2] o.type #[v, u]).run P w = .ok v' w' ∧ Φ v' w') (h : ∀ v' w', Φ v' w' → K (a.put o.dst v') w') :
    if Region.wanted o (yielded ops a.tmps) = true then Oper.wp P o a w K Q else E := by
  have hw : Region.wanted o (yielded ops a.tmps) = true := by simp [Region.wanted, hgd]
  rw [if_pos hw]
  obtain ⟨v', w', hr, hΦ⟩ := hrun
  unfold Oper.wp execOp
  simp only [ho, resolve, invoke, builtin, Sem.run_bind, Sem.run_pure, Result.andThen_ok, List.map_toArray, List.map_cons, List.map_nil, hs, hx, hr]
  exact h v' w' hΦ
end
end Go.Proofs.Sat
