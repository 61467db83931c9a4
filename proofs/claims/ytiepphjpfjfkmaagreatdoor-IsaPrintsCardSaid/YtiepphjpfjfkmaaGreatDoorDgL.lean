/- List of package digits. -/
import Derived.Test.YtiepphjpfjfkmaaGreatDoorDgK
set_option linter.unusedVariables false
set_option linter.unusedSimpArgs false
namespace Go.Proofs.Sat
open Go Go.RowKit
/-- make of no elements, with room. -/
theorem run_mk0' {P : Program} (w : World) {α : Type} (d : Kd α) {t e : TypeId} {z : Value} {size bytes : Nat} (I : ElemInfo P t e z size bytes) (hd : d.sz = size) (S : Nat → Prop) {base : Nat} (kl kc : IntKind) (C : Int) (n : Nat) (hC : C = n) (hb : bytes * n ≤ 281474976710656) (h63 : n ≤ 9223372036854775807) (hbase : base ≤ w.heap.size) :
    ∃ v' w', (Instr.makeSlice t (.int kl 0) (.int kc C)).run P w = .ok v' w' ∧ Own d e S w' base v' [] ∧ w.grownBy w' none ∧ v' = .slice (some ⟨w.heap.size, 0, none⟩) 0 n := by
  obtain ⟨i, hi, h2, h3, h4⟩ := info_parts I.hi
  subst hC hd
  obtain ⟨w', hr, ho, hg⟩ := run_make_own (P := P) w base t e i _ d.sz I.ht hi h2 h3 kl kc n (by rw [h4]; exact hb) (by simpa [maxLen] using h63) hbase
  exact ⟨_, w', hr, ⟨[], by simpa using ho, .nil⟩, hg, rfl⟩
theorem strOf_data (l : List UInt8) : (strOf l).data.toList = l := rfl
end Go.Proofs.Sat
