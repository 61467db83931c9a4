/-
  DERIVED. GIVEN WITH THE SEED: THE CARDS: each row of YtdncgkmbglmifaaDoorRows.lean that lists a variable, with what it lists TIED to the program's text (the seventh form; the later family's looks); each row that meets fmt, with fmt's text TOLD by the authors' own Lean function (tested against real Go, not proved from fmt's source: count such statements apart). THE CARD IS WHAT COUNTS. Prove the row's statement (the work); the ties are given (YtdncgkmbglmifaaDoorTie.lean); close each card by the builder's one call (the guide's Derived/Test/ToyasCard.lean, 'card_holds'). Laid BY PROGRAM, IN A SANDBOX (cutbox-door.mjs). By AI agents, Wed Nov 11 2026. No macro, syntax, notation, axiom, sorry.
-/
import Derived.Test.YtdncgkmbglmifaaDoorRows
import GoSem.ClaimSeven
namespace Go.Proofs.YtdncgkmbglmifaaDoor
namespace Rows

/-- THE TIED CARD OF 'saturatelaw02.DigitsParses'. -/
def digitsParsesCard : Claim7 := { stood := { row := digitsParsesRow, standIns := [], harness := (true, "805efb62219ce4dc052d9b3be653cca76ad9af88ae7640862953b493c708167d"), looks := true }, kinds := [], alts := [], laidByText := true, laidKinds := [.data, .data, .data, .data, .sentinel, .sentinel, .pinned], laidTests := true, laidLooks := .later }
def DigitsParsesCardSaid : Prop := Claim7.holds Tryd.pinned (.plain (OpenSpec.ofChange digitsParsesSpec)) digitsParsesCard

/-- THE TIED CARD OF 'saturatelaw02.DigitsLists'. -/
def digitsListsCard : Claim7 := { stood := { row := digitsListsRow, standIns := [], harness := (true, "805efb62219ce4dc052d9b3be653cca76ad9af88ae7640862953b493c708167d"), looks := true }, kinds := [], alts := [], laidByText := true, laidKinds := [.data, .data, .data, .data, .sentinel, .sentinel, .pinned], laidTests := true, laidLooks := .later }
def DigitsListsCardSaid : Prop := Claim7.holds Tryd.pinned (.plain (OpenSpec.ofChange digitsListsSpec)) digitsListsCard

/-- THE TIED CARD OF 'saturatelaw02.DigitsListBack'. -/
def digitsListBackCard : Claim7 := { stood := { row := digitsListBackRow, standIns := [], harness := (true, "805efb62219ce4dc052d9b3be653cca76ad9af88ae7640862953b493c708167d"), looks := true }, kinds := [], alts := [], laidByText := true, laidKinds := [.data, .data, .data, .data, .sentinel, .sentinel, .pinned], laidTests := true, laidLooks := .later }
def DigitsListBackCardSaid : Prop := Claim7.holds Tryd.pinned (.plain (OpenSpec.ofChange digitsListBackSpec)) digitsListBackCard

/-- THE TIED CARD OF 'saturatelaw02.DigitsPrints'. -/
def digitsPrintsCard : Claim7 := { stood := { row := digitsPrintsRow, standIns := [], harness := (true, "805efb62219ce4dc052d9b3be653cca76ad9af88ae7640862953b493c708167d"), looks := true }, kinds := [], alts := [], laidByText := true, laidKinds := [.data, .data, .data, .data, .sentinel, .sentinel, .pinned], laidTests := true, laidLooks := .later }
def DigitsPrintsCardSaid : Prop := Claim7.holds Tryd.pinned (.plain (OpenSpec.ofChange digitsPrintsSpec)) digitsPrintsCard

/-- THE TIED CARD OF 'saturatelaw02.DigitsBack'. -/
def digitsBackCard : Claim7 := { stood := { row := digitsBackRow, standIns := [], harness := (true, "805efb62219ce4dc052d9b3be653cca76ad9af88ae7640862953b493c708167d"), looks := true }, kinds := [], alts := [], laidByText := true, laidKinds := [.data, .data, .data, .data, .sentinel, .sentinel, .pinned], laidTests := true, laidLooks := .later }
def DigitsBackCardSaid : Prop := Claim7.holds Tryd.pinned (.plain (OpenSpec.ofChange digitsBackSpec)) digitsBackCard

/-- THE TIED CARD OF 'saturatelaw02.DigitsUnique'. -/
def digitsUniqueCard : Claim7 := { stood := { row := digitsUniqueRow, standIns := [], harness := (true, "805efb62219ce4dc052d9b3be653cca76ad9af88ae7640862953b493c708167d"), looks := true }, kinds := [], alts := [], laidByText := true, laidKinds := [.data, .data, .data, .data, .sentinel, .sentinel, .pinned], laidTests := true, laidLooks := .later }
def DigitsUniqueCardSaid : Prop := Claim7.holds Tryd.pinned (.plain (OpenSpec.ofChange digitsUniqueSpec)) digitsUniqueCard

/-- THE SECOND FORM's CARD OF 'saturatelaw02.DigitsParses'. -/
def digitsParsesUptoCard : Claim7 := { stood := { row := digitsParsesUptoRow, standIns := [], harness := (true, "805efb62219ce4dc052d9b3be653cca76ad9af88ae7640862953b493c708167d"), looks := true }, kinds := [], alts := [], laidByText := true, laidKinds := [.data, .data, .data, .data, .sentinel, .sentinel, .pinned], laidTests := true, laidLooks := .later }
def DigitsParsesUptoCardSaid : Prop := Claim7.holds Tryd.pinned (.plain (OpenSpec.upto digitsParsesSpec)) digitsParsesUptoCard

/-- THE SECOND FORM's CARD OF 'saturatelaw02.DigitsLists'. -/
def digitsListsUptoCard : Claim7 := { stood := { row := digitsListsUptoRow, standIns := [], harness := (true, "805efb62219ce4dc052d9b3be653cca76ad9af88ae7640862953b493c708167d"), looks := true }, kinds := [], alts := [], laidByText := true, laidKinds := [.data, .data, .data, .data, .sentinel, .sentinel, .pinned], laidTests := true, laidLooks := .later }
def DigitsListsUptoCardSaid : Prop := Claim7.holds Tryd.pinned (.plain (OpenSpec.upto digitsListsSpec)) digitsListsUptoCard

/-- THE SECOND FORM's CARD OF 'saturatelaw02.DigitsListBack'. -/
def digitsListBackUptoCard : Claim7 := { stood := { row := digitsListBackUptoRow, standIns := [], harness := (true, "805efb62219ce4dc052d9b3be653cca76ad9af88ae7640862953b493c708167d"), looks := true }, kinds := [], alts := [], laidByText := true, laidKinds := [.data, .data, .data, .data, .sentinel, .sentinel, .pinned], laidTests := true, laidLooks := .later }
def DigitsListBackUptoCardSaid : Prop := Claim7.holds Tryd.pinned (.plain (OpenSpec.upto digitsListBackSpec)) digitsListBackUptoCard

/-- THE SECOND FORM's CARD OF 'saturatelaw02.DigitsPrints'. -/
def digitsPrintsUptoCard : Claim7 := { stood := { row := digitsPrintsUptoRow, standIns := [], harness := (true, "805efb62219ce4dc052d9b3be653cca76ad9af88ae7640862953b493c708167d"), looks := true }, kinds := [], alts := [], laidByText := true, laidKinds := [.data, .data, .data, .data, .sentinel, .sentinel, .pinned], laidTests := true, laidLooks := .later }
def DigitsPrintsUptoCardSaid : Prop := Claim7.holds Tryd.pinned (.plain (OpenSpec.upto digitsPrintsSpec)) digitsPrintsUptoCard

/-- THE SECOND FORM's CARD OF 'saturatelaw02.DigitsBack'. -/
def digitsBackUptoCard : Claim7 := { stood := { row := digitsBackUptoRow, standIns := [], harness := (true, "805efb62219ce4dc052d9b3be653cca76ad9af88ae7640862953b493c708167d"), looks := true }, kinds := [], alts := [], laidByText := true, laidKinds := [.data, .data, .data, .data, .sentinel, .sentinel, .pinned], laidTests := true, laidLooks := .later }
def DigitsBackUptoCardSaid : Prop := Claim7.holds Tryd.pinned (.plain (OpenSpec.upto digitsBackSpec)) digitsBackUptoCard

/-- THE SECOND FORM's CARD OF 'saturatelaw02.DigitsUnique'. -/
def digitsUniqueUptoCard : Claim7 := { stood := { row := digitsUniqueUptoRow, standIns := [], harness := (true, "805efb62219ce4dc052d9b3be653cca76ad9af88ae7640862953b493c708167d"), looks := true }, kinds := [], alts := [], laidByText := true, laidKinds := [.data, .data, .data, .data, .sentinel, .sentinel, .pinned], laidTests := true, laidLooks := .later }
def DigitsUniqueUptoCardSaid : Prop := Claim7.holds Tryd.pinned (.plain (OpenSpec.upto digitsUniqueSpec)) digitsUniqueUptoCard
end Rows
end Go.Proofs.YtdncgkmbglmifaaDoor
