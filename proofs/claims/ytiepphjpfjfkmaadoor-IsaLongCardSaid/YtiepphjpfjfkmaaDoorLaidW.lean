/- What a listed package variable of plain parts holds, cell for cell. No program stands in it. -/
import Derived.Test.YtiepphjpfjfkmaaDoorOps2
import Derived.LaidLaws
import Derived.ChangeArms
import Derived.Lib.LaidTab
set_option linter.unusedVariables false
set_option linter.unusedSimpArgs false
namespace Go.Proofs.Sat
open Go
/-- The cell that reads as a literal. -/
def litCell : Lit → Value
  | .bool b => .bool b
  | .int k n => .int k n
  | .float k n => .float k n
  | .string s => .string ⟨s.toArray⟩
  | .nil => .nilFunc
/-- The cells that read as a datum of plain parts, to a depth. -/
def flatOf {H : Type} : Nat → DataW H → List Value
  | 0, _ => []
  | _ + 1, .lit l => [litCell l]
  | n + 1, .agg ps => ps.flatMap (flatOf n)
  | _, _ => []
/-- The fields stand one behind the other from cell n on. -/
def runsOn (P : Program) : Nat → List Field → Option Nat
  | n, [] => some n
  | n, f :: r => if f.offset = n then runsOn P (n + P.cellsOf f.type) r else none
/-- A type of plain parts alone. -/
def plainType (P : Program) : Nat → TypeId → Bool
  | 0, _ => false
  | n + 1, t => match P.underlying t with
    | some .bool => true
    | some (.int _) => true
    | some .string => true
    | some (.struct fs) => runsOn P 0 fs.toList == some (P.cellsOf t) && fs.toList.all fun f => plainType P n f.type
    | some (.array k e) => P.cellsOf t == k * P.cellsOf e && plainType P n e
    | _ => false
theorem mapM_cons_some {α β : Type} {f : α → Option β} {a : α} {l : List α} {r : List β} (h : (a :: l).mapM f = some r) : ∃ b r', r = b :: r' ∧ f a = some b ∧ l.mapM f = some r' := by
  simp only [List.mapM_cons, Option.bind_eq_bind, Option.bind_eq_some_iff, Option.pure_def, Option.some.injEq] at h
  obtain ⟨b, hb, r', hr', rfl⟩ := h
  exact ⟨b, r', rfl, hb, hr'⟩
section
variable {H : Type} {enc : TypeId × Value → H} {P : Program} {w : World} {base : Nat} {sp : Nat → Bool} {held : Bool}
theorem range_flat {fuel n : Nat} {cs : List Value} {e : TypeId} (ih : ∀ c x, DataW.trod enc P w base sp held fuel e c = some x → c = flatOf n x.1) :
    ∀ (k : Nat) (xs : List (DataW H × List MemPlace)), ((List.range k).mapM fun i => DataW.trod enc P w base sp held fuel e ((cs.drop (i * P.cellsOf e)).take (P.cellsOf e))) = some xs → cs.take (k * P.cellsOf e) = (xs.map (·.1)).flatMap (flatOf n)
  | 0, xs, hx => by
    simp at hx
    subst hx
    simp
  | k + 1, xs, hx => by
    rw [List.range_succ, List.mapM_append] at hx
    simp only [Option.bind_eq_bind, Option.bind_eq_some_iff, Option.pure_def, Option.some.injEq] at hx
    obtain ⟨r, hr, r2, hr2, rfl⟩ := hx
    obtain ⟨b, r', rfl, hb, hn⟩ := mapM_cons_some hr2
    simp at hn
    subst hn
    have h1 := range_flat ih k _ hr
    have h2 := ih _ _ hb
    rw [List.map_append, List.flatMap_append, ← h1, Nat.add_mul, Nat.one_mul, List.take_add, h2]
    simp
/-- A plain type's cells are those of the datum that they read as. -/
theorem flat_cells : ∀ (fuel n : Nat) (t : TypeId) (cs : List Value) (x : DataW H × List MemPlace), plainType P n t = true → DataW.trod enc P w base sp held fuel t cs = some x → cs = flatOf n x.1
  | 0, _, _, _, _, _, h => by simp [DataW.trod] at h
  | _ + 1, 0, _, _, _, hp, _ => by simp [plainType] at hp
  | fuel + 1, n + 1, t, cs, x, hp, h => by
    unfold plainType at hp
    split at hp
    · rename_i ht
      obtain ⟨b, rfl, e⟩ := DataW.trod_bool ht h
      simp_all [flatOf, litCell]
    · rename_i k ht
      obtain ⟨z, rfl, e, _⟩ := DataW.trod_int ht h
      simp_all [flatOf, litCell]
    · rename_i ht
      obtain ⟨s, rfl, e, _⟩ := DataW.trod_string ht h
      simp_all [flatOf, litCell]
    · rename_i fs ht
      simp only [Bool.and_eq_true, beq_iff_eq, List.all_eq_true] at hp
      simp only [DataW.trod, ht] at h
      split at h
      · rename_i hl
        obtain ⟨xs, hm, rfl⟩ := Option.map_eq_some_iff.1 h
        have : ∀ (gs : List Field) (a m : Nat) (ys : List (DataW H × List MemPlace)), runsOn P a gs = some m → (∀ f ∈ gs, plainType P n f.type = true) →
            (gs.mapM fun f => DataW.trod enc P w base sp held fuel f.type ((cs.drop f.offset).take (P.cellsOf f.type))) = some ys → a ≤ m ∧ (cs.drop a).take (m - a) = (ys.map (·.1)).flatMap (flatOf n) := by
          intro gs
          induction gs with
          | nil =>
            intro a m ys hr _ hx
            simp [runsOn] at hr
            subst hr
            simp at hx
            subst hx
            exact ⟨by omega, by simp⟩
          | cons f gs ih =>
            intro a m ys hr hp hx
            obtain ⟨b, r, rfl, hb, hr'⟩ := mapM_cons_some hx
            unfold runsOn at hr
            split at hr
            · rename_i ho
              obtain ⟨h1, h2⟩ := ih _ _ _ hr (fun g hg => hp g (by simp [hg])) hr'
              have h3 := flat_cells fuel n _ _ _ (hp f (by simp)) hb
              refine ⟨by omega, ?_⟩
              rw [ho] at h3
              simp only [List.map_cons, List.flatMap_cons, ← h3, ← h2]
              rw [show m - a = P.cellsOf f.type + (m - (a + P.cellsOf f.type)) from by omega, List.take_add, List.drop_drop]
            · cases hr
        obtain ⟨_, h2⟩ := this _ _ _ _ hp.1 hp.2 hm
        simp [← hl] at h2
        simpa [flatOf] using h2
      · cases h
    · rename_i k e ht
      simp only [Bool.and_eq_true, beq_iff_eq] at hp
      simp only [DataW.trod, ht] at h
      split at h
      · rename_i hl
        obtain ⟨xs, hm, rfl⟩ := Option.map_eq_some_iff.1 h
        have h2 := range_flat (fun c y hy => flat_cells fuel n e c y hp.2 hy) _ _ hm
        rw [← hp.1, ← hl, List.take_length] at h2
        simpa [flatOf] using h2
      · cases h
    · cases hp
end
/-- From a row's listed variable, the first of the list, to its cells. -/
theorem laid_cells {P : Program} {W : World} {name : String} {d : DataW Unit} {rest : List (String × DataW Unit)} {g : Nat} {t : TypeId} (n : Nat)
    (hg : P.globalNamed name = some g) (hty : (P.globals[g]?).map (·.type) = some t) (hp : plainType P n t = true) (h : laidMet P ((name, d) :: rest) W) :
    (∀ i u, (flatOf n d)[i]? = some u → W.cell? ⟨g, i, none⟩ = some u) := by
  obtain ⟨ps, ⟨g', t', cs, fuel, p, q, hg', ht', hvar, hd, _, _⟩, _⟩ := h
  obtain rfl := Option.some.inj (hg.symm.trans hg')
  obtain rfl := Option.some.inj (hty.symm.trans ht')
  have := flat_cells fuel n _ _ _ hp hd
  intro i u hu
  refine World.var?_cell hg hvar i |>.trans ?_
  simpa [← this] using hu
end Go.Proofs.Sat
