/- The text of IsaLong parsed. -/
import Derived.Test.YtiepphjpfjfkmaaDoorMsB
import Derived.Test.YtiepphjpfjfkmaaDoorDgQ
import Derived.Laws.IdiomStrings
set_option linter.unusedVariables false
set_option linter.unusedSimpArgs false
namespace Go.Proofs.Sat
open Go Go.RowKit
theorem parse_xs (L : Nat) (hL : 0 < L) : parseW (List.replicate L 120) = if 65536 < L then (zCd, 0, 7) else (zCd, 1, 6) := by
  have h1 : spl 10 (List.replicate L 120) = [List.replicate L 120] := spl_whole (fun h => by rw [List.mem_replicate] at h; exact absurd h.2 (by decide))
  have h2 : spl 32 (List.replicate L 120) = [List.replicate L 120] := spl_whole (fun h => by rw [List.mem_replicate] at h; exact absurd h.2 (by decide))
  have h3 : List.replicate L (120 : UInt8) ≠ [] := fun h => by
    have := congrArg List.length h
    simp at this
    omega
  unfold parseW
  rw [List.length_replicate]
  by_cases h : 65536 < L
  · rw [if_pos h, if_pos h]
  · rw [if_neg h, if_neg h]
    have hl : linesW (List.replicate L 120) = [List.replicate L 120] := by
      unfold linesW
      rw [h1, if_neg]
      intro hh
      simp at hh
      exact h3 (by simpa using hh)
    rw [hl]
    have hh : headW (List.replicate L 120) = none := by
      unfold headW
      rw [h2]
    simp only [hh]
end Go.Proofs.Sat
