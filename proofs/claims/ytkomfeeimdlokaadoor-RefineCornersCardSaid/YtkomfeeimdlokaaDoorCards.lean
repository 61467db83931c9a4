/-
  DERIVED. GIVEN WITH THE SEED: THE CARDS: each row of YtkomfeeimdlokaaDoorRows.lean that lists a variable, with what it lists TIED to the program's text (the seventh form; the later family's looks); each row that meets fmt, with fmt's text TOLD by the authors' own Lean function (tested against real Go, not proved from fmt's source: count such statements apart). THE CARD IS WHAT COUNTS. Prove the row's statement (the work); the ties are given (YtkomfeeimdlokaaDoorTie.lean); close each card by the builder's one call (the guide's Derived/Test/ToyasCard.lean, 'card_holds'). Laid BY PROGRAM, IN A SANDBOX (cutbox-door.mjs). By AI agents, Wed Nov 11 2026. No macro, syntax, notation, axiom, sorry.
-/
import Derived.Test.YtkomfeeimdlokaaDoorRows
import GoSem.ClaimSeven
namespace Go.Proofs.YtkomfeeimdlokaaDoor
namespace Rows

/-- THE TIED CARD OF 'saturatelaw53.RefineState'. -/
def refineStateCard : Claim7 := { stood := { row := refineStateRow, standIns := [], harness := (true, "0071c8e412686cf63b2fc8aff36b2c92d54f799685092a0186c6f1cfe2075776"), looks := true }, kinds := [], alts := [], laidByText := true, laidKinds := [.widerDeep], laidTests := true, laidLooks := .later }
def RefineStateCardSaid : Prop := Claim7.holds Tryd.pinned (.plain (OpenSpec.ofChange refineStateSpec)) refineStateCard

/-- THE TIED CARD OF 'saturatelaw53.RefineCorners'. -/
def refineCornersCard : Claim7 := { stood := { row := refineCornersRow, standIns := [], harness := (true, "0071c8e412686cf63b2fc8aff36b2c92d54f799685092a0186c6f1cfe2075776"), looks := true }, kinds := [], alts := [], laidByText := true, laidKinds := [.widerDeep], laidTests := true, laidLooks := .later }
def RefineCornersCardSaid : Prop := Claim7.holds Tryd.pinned (.plain (OpenSpec.ofChange refineCornersSpec)) refineCornersCard

/-- THE SECOND FORM's CARD OF 'saturatelaw53.RefineState'. -/
def refineStateUptoCard : Claim7 := { stood := { row := refineStateUptoRow, standIns := [], harness := (true, "0071c8e412686cf63b2fc8aff36b2c92d54f799685092a0186c6f1cfe2075776"), looks := true }, kinds := [], alts := [], laidByText := true, laidKinds := [.widerDeep], laidTests := true, laidLooks := .later }
def RefineStateUptoCardSaid : Prop := Claim7.holds Tryd.pinned (.plain (OpenSpec.upto refineStateSpec)) refineStateUptoCard

/-- THE SECOND FORM's CARD OF 'saturatelaw53.RefineCorners'. -/
def refineCornersUptoCard : Claim7 := { stood := { row := refineCornersUptoRow, standIns := [], harness := (true, "0071c8e412686cf63b2fc8aff36b2c92d54f799685092a0186c6f1cfe2075776"), looks := true }, kinds := [], alts := [], laidByText := true, laidKinds := [.widerDeep], laidTests := true, laidLooks := .later }
def RefineCornersUptoCardSaid : Prop := Claim7.holds Tryd.pinned (.plain (OpenSpec.upto refineCornersSpec)) refineCornersUptoCard
end Rows
end Go.Proofs.YtkomfeeimdlokaaDoor
