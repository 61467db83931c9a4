/-
  DERIVED. GIVEN WITH THE SEED: THE CARDS: each row of YtiepphjpfjfkmaaGreatDoorRows.lean that lists a variable, with what it lists TIED to the program's text (the seventh form; the later family's looks); each row that meets fmt, with fmt's text TOLD by the authors' own Lean function (tested against real Go, not proved from fmt's source: count such statements apart). THE CARD IS WHAT COUNTS. Prove the row's statement (the work); the ties are given (YtiepphjpfjfkmaaGreatDoorTie.lean); close each card by the builder's one call (the guide's Derived/Test/ToyasCard.lean, 'card_holds'). Laid BY PROGRAM, IN A SANDBOX (cutbox-door.mjs). By AI agents, Wed Nov 11 2026. No macro, syntax, notation, axiom, sorry.
-/
import Derived.Test.YtiepphjpfjfkmaaGreatDoorRows
import GoSem.ClaimSeven
namespace Go.Proofs.YtiepphjpfjfkmaaGreatDoor
namespace Rows

/-- THE TIED CARD OF 'saturatelaw48.IsaChecks'. -/
def isaChecksCard : Claim7 := { stood := { row := isaChecksRow, standIns := [], harness := (true, "f199ee35d448c7c49903089c36cabe011ff4e891e9a246c82daa25423d6dc949"), looks := true }, kinds := [], alts := [], laidByText := true, laidKinds := [.data, .data, .data, .data, .sentinel, .sentinel, .widerDeep, .pinned], laidTests := true, laidLooks := .later }
def IsaChecksCardSaid : Prop := Claim7.holds Tryz.pinned (.plain (OpenSpec.ofChange isaChecksSpec)) isaChecksCard

/-- THE TIED CARD OF 'saturatelaw48.IsaParses'. -/
def isaParsesCard : Claim7 := { stood := { row := isaParsesRow, standIns := [], harness := (true, "f199ee35d448c7c49903089c36cabe011ff4e891e9a246c82daa25423d6dc949"), looks := true }, kinds := [], alts := [], laidByText := true, laidKinds := [.data, .data, .data, .data, .sentinel, .sentinel, .widerDeep, .pinned], laidTests := true, laidLooks := .later }
def IsaParsesCardSaid : Prop := Claim7.holds Tryz.pinned (.plain (OpenSpec.ofChange isaParsesSpec)) isaParsesCard

/-- THE TIED CARD OF 'saturatelaw48.IsaBack'. -/
def isaBackCard : Claim7 := { stood := { row := isaBackRow, standIns := [], harness := (true, "f199ee35d448c7c49903089c36cabe011ff4e891e9a246c82daa25423d6dc949"), looks := true }, kinds := [], alts := [], laidByText := true, laidKinds := [.data, .data, .data, .data, .sentinel, .sentinel, .widerDeep, .pinned], laidTests := true, laidLooks := .later }
def IsaBackCardSaid : Prop := Claim7.holds Tryz.pinned (.plain (OpenSpec.ofChange isaBackSpec)) isaBackCard

/-- THE TIED CARD OF 'saturatelaw48.IsaTables'. -/
def isaTablesCard : Claim7 := { stood := { row := isaTablesRow, standIns := [], harness := (true, "f199ee35d448c7c49903089c36cabe011ff4e891e9a246c82daa25423d6dc949"), looks := true }, kinds := [], alts := [], laidByText := true, laidKinds := [.data, .data, .data, .data, .sentinel, .sentinel, .widerDeep, .pinned], laidTests := true, laidLooks := .later }
def IsaTablesCardSaid : Prop := Claim7.holds Tryz.pinned (.plain (OpenSpec.ofChange isaTablesSpec)) isaTablesCard

/-- THE TIED CARD OF 'saturatelaw48.IsaPrints'. -/
def isaPrintsCard : Claim7 := { stood := { row := isaPrintsRow, standIns := [], harness := (true, "f199ee35d448c7c49903089c36cabe011ff4e891e9a246c82daa25423d6dc949"), looks := true }, kinds := [], alts := [], laidByText := true, laidKinds := [.data, .data, .data, .data, .sentinel, .sentinel, .widerDeep, .pinned], laidTests := true, laidLooks := .later }
def IsaPrintsCardSaid : Prop := Claim7.holds Tryz.pinned (.plain (OpenSpec.ofChange isaPrintsSpec)) isaPrintsCard

/-- THE SECOND FORM's CARD OF 'saturatelaw48.IsaChecks'. -/
def isaChecksUptoCard : Claim7 := { stood := { row := isaChecksUptoRow, standIns := [], harness := (true, "f199ee35d448c7c49903089c36cabe011ff4e891e9a246c82daa25423d6dc949"), looks := true }, kinds := [], alts := [], laidByText := true, laidKinds := [.data, .data, .data, .data, .sentinel, .sentinel, .widerDeep, .pinned], laidTests := true, laidLooks := .later }
def IsaChecksUptoCardSaid : Prop := Claim7.holds Tryz.pinned (.plain (OpenSpec.upto isaChecksSpec)) isaChecksUptoCard

/-- THE SECOND FORM's CARD OF 'saturatelaw48.IsaParses'. -/
def isaParsesUptoCard : Claim7 := { stood := { row := isaParsesUptoRow, standIns := [], harness := (true, "f199ee35d448c7c49903089c36cabe011ff4e891e9a246c82daa25423d6dc949"), looks := true }, kinds := [], alts := [], laidByText := true, laidKinds := [.data, .data, .data, .data, .sentinel, .sentinel, .widerDeep, .pinned], laidTests := true, laidLooks := .later }
def IsaParsesUptoCardSaid : Prop := Claim7.holds Tryz.pinned (.plain (OpenSpec.upto isaParsesSpec)) isaParsesUptoCard

/-- THE SECOND FORM's CARD OF 'saturatelaw48.IsaBack'. -/
def isaBackUptoCard : Claim7 := { stood := { row := isaBackUptoRow, standIns := [], harness := (true, "f199ee35d448c7c49903089c36cabe011ff4e891e9a246c82daa25423d6dc949"), looks := true }, kinds := [], alts := [], laidByText := true, laidKinds := [.data, .data, .data, .data, .sentinel, .sentinel, .widerDeep, .pinned], laidTests := true, laidLooks := .later }
def IsaBackUptoCardSaid : Prop := Claim7.holds Tryz.pinned (.plain (OpenSpec.upto isaBackSpec)) isaBackUptoCard

/-- THE SECOND FORM's CARD OF 'saturatelaw48.IsaTables'. -/
def isaTablesUptoCard : Claim7 := { stood := { row := isaTablesUptoRow, standIns := [], harness := (true, "f199ee35d448c7c49903089c36cabe011ff4e891e9a246c82daa25423d6dc949"), looks := true }, kinds := [], alts := [], laidByText := true, laidKinds := [.data, .data, .data, .data, .sentinel, .sentinel, .widerDeep, .pinned], laidTests := true, laidLooks := .later }
def IsaTablesUptoCardSaid : Prop := Claim7.holds Tryz.pinned (.plain (OpenSpec.upto isaTablesSpec)) isaTablesUptoCard

/-- THE SECOND FORM's CARD OF 'saturatelaw48.IsaPrints'. -/
def isaPrintsUptoCard : Claim7 := { stood := { row := isaPrintsUptoRow, standIns := [], harness := (true, "f199ee35d448c7c49903089c36cabe011ff4e891e9a246c82daa25423d6dc949"), looks := true }, kinds := [], alts := [], laidByText := true, laidKinds := [.data, .data, .data, .data, .sentinel, .sentinel, .widerDeep, .pinned], laidTests := true, laidLooks := .later }
def IsaPrintsUptoCardSaid : Prop := Claim7.holds Tryz.pinned (.plain (OpenSpec.upto isaPrintsSpec)) isaPrintsUptoCard
end Rows
end Go.Proofs.YtiepphjpfjfkmaaGreatDoor
