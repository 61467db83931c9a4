/-
  DERIVED. GIVEN WITH THE SEED: THE CARDS: each row of YtiepphjpfjfkmaaDoorRows.lean that lists a variable, with what it lists TIED to the program's text (the seventh form; the later family's looks); each row that meets fmt, with fmt's text TOLD by the authors' own Lean function (tested against real Go, not proved from fmt's source: count such statements apart). THE CARD IS WHAT COUNTS. Prove the row's statement (the work); the ties are given (YtiepphjpfjfkmaaDoorTie.lean); close each card by the builder's one call (the guide's Derived/Test/ToyasCard.lean, 'card_holds'). Laid BY PROGRAM, IN A SANDBOX (cutbox-door.mjs). By AI agents, Wed Nov 11 2026. No macro, syntax, notation, axiom, sorry.
-/
import Derived.Test.YtiepphjpfjfkmaaDoorRows
import GoSem.ClaimSeven
namespace Go.Proofs.YtiepphjpfjfkmaaDoor
namespace Rows

/-- THE TIED CARD OF 'saturatelaw48.IsaUses'. -/
def isaUsesCard : Claim7 := { stood := { row := isaUsesRow, standIns := [], harness := (true, "c497dd6eee8d1be56fd219dc32c5c8bebead1f12c2c4efdcc1553af89756535a"), looks := true }, kinds := [], alts := [], laidByText := true, laidKinds := [.data, .data, .data, .data, .sentinel, .sentinel, .widerDeep, .pinned], laidTests := true, laidLooks := .later }
def IsaUsesCardSaid : Prop := Claim7.holds Tryd.pinned (.plain (OpenSpec.ofChange isaUsesSpec)) isaUsesCard

/-- THE TIED CARD OF 'saturatelaw48.IsaLong'. -/
def isaLongCard : Claim7 := { stood := { row := isaLongRow, standIns := [], harness := (true, "c497dd6eee8d1be56fd219dc32c5c8bebead1f12c2c4efdcc1553af89756535a"), looks := true }, kinds := [], alts := [], laidByText := true, laidKinds := [.data, .data, .data, .data, .sentinel, .sentinel, .widerDeep, .pinned], laidTests := true, laidLooks := .later }
def IsaLongCardSaid : Prop := Claim7.holds Tryd.pinned (.plain (OpenSpec.ofChange isaLongSpec)) isaLongCard

/-- THE SECOND FORM's CARD OF 'saturatelaw48.IsaUses'. -/
def isaUsesUptoCard : Claim7 := { stood := { row := isaUsesUptoRow, standIns := [], harness := (true, "c497dd6eee8d1be56fd219dc32c5c8bebead1f12c2c4efdcc1553af89756535a"), looks := true }, kinds := [], alts := [], laidByText := true, laidKinds := [.data, .data, .data, .data, .sentinel, .sentinel, .widerDeep, .pinned], laidTests := true, laidLooks := .later }
def IsaUsesUptoCardSaid : Prop := Claim7.holds Tryd.pinned (.plain (OpenSpec.upto isaUsesSpec)) isaUsesUptoCard

/-- THE SECOND FORM's CARD OF 'saturatelaw48.IsaLong'. -/
def isaLongUptoCard : Claim7 := { stood := { row := isaLongUptoRow, standIns := [], harness := (true, "c497dd6eee8d1be56fd219dc32c5c8bebead1f12c2c4efdcc1553af89756535a"), looks := true }, kinds := [], alts := [], laidByText := true, laidKinds := [.data, .data, .data, .data, .sentinel, .sentinel, .widerDeep, .pinned], laidTests := true, laidLooks := .later }
def IsaLongUptoCardSaid : Prop := Claim7.holds Tryd.pinned (.plain (OpenSpec.upto isaLongSpec)) isaLongUptoCard
end Rows
end Go.Proofs.YtiepphjpfjfkmaaDoor
