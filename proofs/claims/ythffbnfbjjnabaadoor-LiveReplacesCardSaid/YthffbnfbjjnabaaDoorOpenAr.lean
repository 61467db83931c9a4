/- Arrays of numbers given by value. -/
import Derived.Test.YthffbnfbjjnabaaDoorOpenCd
import Derived.OpenShut
import Derived.WideShapes
set_option linter.unusedVariables false
set_option linter.unusedSimpArgs false
namespace Go.Proofs.Sat
open Go Go.RowKit
theorem okWide_arr {P : Program} {w : World} {r : Reach} {base : Nat} {t : TypeId} {v : Value} {n : Nat} {e : TypeId} (ht : P.underlying t = some (.array n e)) (h : Value.okWide P w r base t v) : ∃ cs, v = .agg cs ∧ cs.size = P.cellsOf t := by
  simp only [Value.okWide, ht] at h
  obtain ⟨cs, h1, h2, _⟩ := h
  exact ⟨cs, h1, h2⟩
section
variable {H : Type} {enc : TypeId × Value → H} {w : World}
theorem trod_nums {P : Program} {t e : TypeId} {n : Nat} {k : IntKind} (ht : P.underlying t = some (.array n e)) (he : P.underlying e = some (.int k)) (hc : P.cellsOf t = n) (hce : P.cellsOf e = 1) {fuel : Nat} {cs : List Value} {x : DataW H × List MemPlace}
    (h : DataW.trod enc P w 0 (fun _ => true) true fuel t cs = some x) : cs.length = n ∧ ∃ m : Nat → Int, ∀ i, i < n → cs[i]? = some (.int k (m i)) ∧ (Lit.int k (m i)).wf = true := by
  obtain ⟨xs, f, rfl, rfl, hl, hlen, hf⟩ := DataW.trod_array ht h
  rw [hc] at hl
  refine ⟨hl, ?_⟩
  have hall : ∀ i, i < n → ∃ z : Int, cs[i]? = some (.int k z) ∧ (Lit.int k z).wf = true := fun i hi => by
    have h1 := hf i hi
    rw [hce, Nat.mul_one, List.getElem?_eq_getElem (by omega)] at h1
    obtain ⟨z, e1, _, e3⟩ := DataW.trod_int he h1
    refine ⟨z, ?_, e3⟩
    have h2 : ((cs.drop i).take 1)[0]? = some (.int k z) := by rw [e1]; rfl
    simpa using h2
  refine ⟨fun i => if hi : i < n then (hall i hi).choose else 0, fun i hi => ?_⟩
  simp only [hi, dif_pos]
  exact (hall i hi).choose_spec
theorem trod_two {P : Program} {t e : TypeId} {k : IntKind} (ht : P.underlying t = some (.array 2 e)) (he : P.underlying e = some (.int k)) (hc : P.cellsOf t = 2) (hce : P.cellsOf e = 1) {fuel : Nat} {cs : List Value} {x : DataW H × List MemPlace}
    (h : DataW.trod enc P w 0 (fun _ => true) true fuel t cs = some x) : ∃ a b : Int, cs = [.int k a, .int k b] ∧ (Lit.int k a).wf = true ∧ (Lit.int k b).wf = true := by
  obtain ⟨hl, m, hm⟩ := trod_nums ht he hc hce h
  match cs, hl with
  | [c0, c1], _ =>
    obtain ⟨e0, w0⟩ := hm 0 (by omega)
    obtain ⟨e1, w1⟩ := hm 1 (by omega)
    exact ⟨m 0, m 1, by simp at e0 e1; rw [e0, e1], w0, w1⟩
theorem trod_eight {P : Program} {t e : TypeId} {k : IntKind} (ht : P.underlying t = some (.array 8 e)) (he : P.underlying e = some (.int k)) (hc : P.cellsOf t = 8) (hce : P.cellsOf e = 1) {fuel : Nat} {cs : List Value} {x : DataW H × List MemPlace}
    (h : DataW.trod enc P w 0 (fun _ => true) true fuel t cs = some x) : ∃ m : Nat → Int, cs = [.int k (m 0), .int k (m 1), .int k (m 2), .int k (m 3), .int k (m 4), .int k (m 5), .int k (m 6), .int k (m 7)] ∧ ∀ i, i < 8 → (Lit.int k (m i)).wf = true := by
  obtain ⟨hl, m, hm⟩ := trod_nums ht he hc hce h
  refine ⟨m, ?_, fun i hi => (hm i hi).2⟩
  match cs, hl with
  | [c0, c1, c2, c3, c4, c5, c6, c7], _ =>
    have e0 := (hm 0 (by omega)).1
    have e1 := (hm 1 (by omega)).1
    have e2 := (hm 2 (by omega)).1
    have e3 := (hm 3 (by omega)).1
    have e4 := (hm 4 (by omega)).1
    have e5 := (hm 5 (by omega)).1
    have e6 := (hm 6 (by omega)).1
    have e7 := (hm 7 (by omega)).1
    simp at e0 e1 e2 e3 e4 e5 e6 e7
    rw [e0, e1, e2, e3, e4, e5, e6, e7]
end
end Go.Proofs.Sat
