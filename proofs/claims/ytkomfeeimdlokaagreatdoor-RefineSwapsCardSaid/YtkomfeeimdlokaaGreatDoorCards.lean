/-
  DERIVED. GIVEN WITH THE SEED: THE CARDS: each row of YtkomfeeimdlokaaGreatDoorRows.lean that lists a variable, with what it lists TIED to the program's text (the seventh form; the later family's looks); each row that meets fmt, with fmt's text TOLD by the authors' own Lean function (tested against real Go, not proved from fmt's source: count such statements apart). THE CARD IS WHAT COUNTS. Prove the row's statement (the work); the ties are given (YtkomfeeimdlokaaGreatDoorTie.lean); close each card by the builder's one call (the guide's Derived/Test/ToyasCard.lean, 'card_holds'). Laid BY PROGRAM, IN A SANDBOX (cutbox-door.mjs). By AI agents, Wed Nov 11 2026. No macro, syntax, notation, axiom, sorry.
-/
import Derived.Test.YtkomfeeimdlokaaGreatDoorRows
import GoSem.ClaimSeven
namespace Go.Proofs.YtkomfeeimdlokaaGreatDoor
namespace Rows

/-- THE TIED CARD OF 'saturatelaw53.RefineStates'. -/
def refineStatesCard : Claim7 := { stood := { row := refineStatesRow, standIns := [], harness := (true, "aeed8e4cbb0d48d9baf97ce3e52a749dbbfd5e8c6d44462e59337747db903546"), looks := true }, kinds := [], alts := [], laidByText := true, laidKinds := [.widerDeep], laidTests := true, laidLooks := .later }
def RefineStatesCardSaid : Prop := Claim7.holds Tryz.pinned (.plain (OpenSpec.ofChange refineStatesSpec)) refineStatesCard

/-- THE TIED CARD OF 'saturatelaw53.RefineChecks'. -/
def refineChecksCard : Claim7 := { stood := { row := refineChecksRow, standIns := [], harness := (true, "aeed8e4cbb0d48d9baf97ce3e52a749dbbfd5e8c6d44462e59337747db903546"), looks := true }, kinds := [], alts := [], laidByText := true, laidKinds := [.widerDeep], laidTests := true, laidLooks := .later }
def RefineChecksCardSaid : Prop := Claim7.holds Tryz.pinned (.plain (OpenSpec.ofChange refineChecksSpec)) refineChecksCard

/-- THE TIED CARD OF 'saturatelaw53.RefineOrder'. -/
def refineOrderCard : Claim7 := { stood := { row := refineOrderRow, standIns := [], harness := (true, "aeed8e4cbb0d48d9baf97ce3e52a749dbbfd5e8c6d44462e59337747db903546"), looks := true }, kinds := [], alts := [], laidByText := true, laidKinds := [.widerDeep], laidTests := true, laidLooks := .later }
def RefineOrderCardSaid : Prop := Claim7.holds Tryz.pinned (.plain (OpenSpec.ofChange refineOrderSpec)) refineOrderCard

/-- THE TIED CARD OF 'saturatelaw53.RefineSwaps'. -/
def refineSwapsCard : Claim7 := { stood := { row := refineSwapsRow, standIns := [], harness := (true, "aeed8e4cbb0d48d9baf97ce3e52a749dbbfd5e8c6d44462e59337747db903546"), looks := true }, kinds := [], alts := [], laidByText := true, laidKinds := [.widerDeep], laidTests := true, laidLooks := .later }
def RefineSwapsCardSaid : Prop := Claim7.holds Tryz.pinned (.plain (OpenSpec.ofChange refineSwapsSpec)) refineSwapsCard

/-- THE TIED CARD OF 'saturatelaw53.RefineTests'. -/
def refineTestsCard : Claim7 := { stood := { row := refineTestsRow, standIns := [], harness := (true, "aeed8e4cbb0d48d9baf97ce3e52a749dbbfd5e8c6d44462e59337747db903546"), looks := true }, kinds := [], alts := [], laidByText := true, laidKinds := [.widerDeep], laidTests := true, laidLooks := .later }
def RefineTestsCardSaid : Prop := Claim7.holds Tryz.pinned (.plain (OpenSpec.ofChange refineTestsSpec)) refineTestsCard

/-- THE TIED CARD OF 'saturatelaw53.RefineWitness'. -/
def refineWitnessCard : Claim7 := { stood := { row := refineWitnessRow, standIns := [], harness := (true, "aeed8e4cbb0d48d9baf97ce3e52a749dbbfd5e8c6d44462e59337747db903546"), looks := true }, kinds := [], alts := [], laidByText := true, laidKinds := [.widerDeep], laidTests := true, laidLooks := .later }
def RefineWitnessCardSaid : Prop := Claim7.holds Tryz.pinned (.plain (OpenSpec.ofChange refineWitnessSpec)) refineWitnessCard

/-- THE TIED CARD OF 'saturatelaw53.RefineRemoves'. -/
def refineRemovesCard : Claim7 := { stood := { row := refineRemovesRow, standIns := [], harness := (true, "aeed8e4cbb0d48d9baf97ce3e52a749dbbfd5e8c6d44462e59337747db903546"), looks := true }, kinds := [], alts := [], laidByText := true, laidKinds := [.widerDeep], laidTests := true, laidLooks := .later }
def RefineRemovesCardSaid : Prop := Claim7.holds Tryz.pinned (.plain (OpenSpec.ofChange refineRemovesSpec)) refineRemovesCard

/-- THE SECOND FORM's CARD OF 'saturatelaw53.RefineStates'. -/
def refineStatesUptoCard : Claim7 := { stood := { row := refineStatesUptoRow, standIns := [], harness := (true, "aeed8e4cbb0d48d9baf97ce3e52a749dbbfd5e8c6d44462e59337747db903546"), looks := true }, kinds := [], alts := [], laidByText := true, laidKinds := [.widerDeep], laidTests := true, laidLooks := .later }
def RefineStatesUptoCardSaid : Prop := Claim7.holds Tryz.pinned (.plain (OpenSpec.upto refineStatesSpec)) refineStatesUptoCard

/-- THE SECOND FORM's CARD OF 'saturatelaw53.RefineChecks'. -/
def refineChecksUptoCard : Claim7 := { stood := { row := refineChecksUptoRow, standIns := [], harness := (true, "aeed8e4cbb0d48d9baf97ce3e52a749dbbfd5e8c6d44462e59337747db903546"), looks := true }, kinds := [], alts := [], laidByText := true, laidKinds := [.widerDeep], laidTests := true, laidLooks := .later }
def RefineChecksUptoCardSaid : Prop := Claim7.holds Tryz.pinned (.plain (OpenSpec.upto refineChecksSpec)) refineChecksUptoCard

/-- THE SECOND FORM's CARD OF 'saturatelaw53.RefineOrder'. -/
def refineOrderUptoCard : Claim7 := { stood := { row := refineOrderUptoRow, standIns := [], harness := (true, "aeed8e4cbb0d48d9baf97ce3e52a749dbbfd5e8c6d44462e59337747db903546"), looks := true }, kinds := [], alts := [], laidByText := true, laidKinds := [.widerDeep], laidTests := true, laidLooks := .later }
def RefineOrderUptoCardSaid : Prop := Claim7.holds Tryz.pinned (.plain (OpenSpec.upto refineOrderSpec)) refineOrderUptoCard

/-- THE SECOND FORM's CARD OF 'saturatelaw53.RefineSwaps'. -/
def refineSwapsUptoCard : Claim7 := { stood := { row := refineSwapsUptoRow, standIns := [], harness := (true, "aeed8e4cbb0d48d9baf97ce3e52a749dbbfd5e8c6d44462e59337747db903546"), looks := true }, kinds := [], alts := [], laidByText := true, laidKinds := [.widerDeep], laidTests := true, laidLooks := .later }
def RefineSwapsUptoCardSaid : Prop := Claim7.holds Tryz.pinned (.plain (OpenSpec.upto refineSwapsSpec)) refineSwapsUptoCard

/-- THE SECOND FORM's CARD OF 'saturatelaw53.RefineTests'. -/
def refineTestsUptoCard : Claim7 := { stood := { row := refineTestsUptoRow, standIns := [], harness := (true, "aeed8e4cbb0d48d9baf97ce3e52a749dbbfd5e8c6d44462e59337747db903546"), looks := true }, kinds := [], alts := [], laidByText := true, laidKinds := [.widerDeep], laidTests := true, laidLooks := .later }
def RefineTestsUptoCardSaid : Prop := Claim7.holds Tryz.pinned (.plain (OpenSpec.upto refineTestsSpec)) refineTestsUptoCard

/-- THE SECOND FORM's CARD OF 'saturatelaw53.RefineWitness'. -/
def refineWitnessUptoCard : Claim7 := { stood := { row := refineWitnessUptoRow, standIns := [], harness := (true, "aeed8e4cbb0d48d9baf97ce3e52a749dbbfd5e8c6d44462e59337747db903546"), looks := true }, kinds := [], alts := [], laidByText := true, laidKinds := [.widerDeep], laidTests := true, laidLooks := .later }
def RefineWitnessUptoCardSaid : Prop := Claim7.holds Tryz.pinned (.plain (OpenSpec.upto refineWitnessSpec)) refineWitnessUptoCard

/-- THE SECOND FORM's CARD OF 'saturatelaw53.RefineRemoves'. -/
def refineRemovesUptoCard : Claim7 := { stood := { row := refineRemovesUptoRow, standIns := [], harness := (true, "aeed8e4cbb0d48d9baf97ce3e52a749dbbfd5e8c6d44462e59337747db903546"), looks := true }, kinds := [], alts := [], laidByText := true, laidKinds := [.widerDeep], laidTests := true, laidLooks := .later }
def RefineRemovesUptoCardSaid : Prop := Claim7.holds Tryz.pinned (.plain (OpenSpec.upto refineRemovesSpec)) refineRemovesUptoCard
end Rows
end Go.Proofs.YtkomfeeimdlokaaGreatDoor
