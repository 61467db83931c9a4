/- From a row's readings to the walks' words. No program stands in it. -/
import Derived.Test.YtkomfeeimdlokaaGreatDoorBase
import Derived.WalkKit
import Derived.ProofKit
import Derived.OpenShut
import Derived.ShutString
import Derived.ChangeOld
import Derived.Below
import Derived.SizedLaws
set_option linter.unusedVariables false
set_option linter.unusedSimpArgs false
namespace Go.Proofs.Sat
open Go Go.RowKit
theorem addr_of_cell {w : World} {x : Addr} {v : Value} (h : w.cell? x = some v) : ∃ b o, x = ⟨b, o, none⟩ ∧ b < w.heap.size := by
  have hb := World.block_lt_of_cell? w x h
  obtain ⟨b, o, sp⟩ := x
  cases sp with
  | none => exact ⟨b, o, rfl, hb⟩
  | some s =>
    exfalso
    unfold World.cell? at h
    split at h
    · simp at h
    · cases h
/-- What a row tells of a slice of whole numbers. -/
def IsRow (k : IntKind) (w : World) (a : Option Addr) (len cap : Nat) (zs : List Int) : Prop :=
  (a = none ∧ len = 0 ∧ cap = 0 ∧ zs = []) ∨
  ∃ x, a = some x ∧ len ≤ cap ∧ cap ≤ maxLen ∧ zs.length = cap ∧ (∀ i, i < zs.length → w.cell? (x.add i) = some (.int k (zs.getD i 0))) ∧ ∀ n ∈ zs, (Lit.int k n).wf = true
theorem IsRow.rd {k : IntKind} {w : World} {a : Option Addr} {len cap : Nat} {zs : List Int} (h : IsRow k w a len cap zs) : ∃ l, l.length = len ∧ Rd (Kd.int k) (fun _ => True) w a cap l ∧ ∀ n ∈ l, (Lit.int k n).wf = true := by
  rcases h with ⟨rfl, rfl, rfl, rfl⟩ | ⟨x, rfl, h1, h2, h3, h4, h5⟩
  · exact ⟨[], rfl, Rd.nil _ _ _ _ _ (by omega), by simp⟩
  · refine ⟨zs.take len, by simp; omega, ?_, fun n hn => h5 n (List.mem_of_mem_take hn)⟩
    rcases Nat.eq_zero_or_pos len with h0 | hp
    · subst h0
      exact Rd.nil _ _ _ _ _ (by simpa [maxLen] using h2)
    · obtain ⟨b, o, rfl, hb⟩ := addr_of_cell (x := x) (h4 0 (by omega))
      refine Rd.of_vals 0 (by simp; omega) (by simpa [maxLen] using h2) (fun _ => ⟨trivial, hb⟩) fun j hj => ?_
      have hj' : j < len := by rw [List.length_take] at hj; omega
      have := h4 j (by omega)
      rw [show (⟨b, o, none⟩ : Addr).add j = ⟨b, o + j, none⟩ from by unfold Addr.add; split <;> simp_all] at this
      rw [this]
      simp [List.getD_eq_getElem?_getD, List.getElem?_take_of_lt hj']
end Go.Proofs.Sat
