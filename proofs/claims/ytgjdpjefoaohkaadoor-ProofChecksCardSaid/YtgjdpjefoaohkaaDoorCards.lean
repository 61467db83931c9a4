/-
  DERIVED. GIVEN WITH THE SEED: THE CARDS: each row of YtgjdpjefoaohkaaDoorRows.lean that lists a variable, with what it lists TIED to the program's text (the seventh form; the later family's looks); each row that meets fmt, with fmt's text TOLD by the authors' own Lean function (tested against real Go, not proved from fmt's source: count such statements apart). THE CARD IS WHAT COUNTS. Prove the row's statement (the work); the ties are given (YtgjdpjefoaohkaaDoorTie.lean); close each card by the builder's one call (the guide's Derived/Test/ToyasCard.lean, 'card_holds'). Laid BY PROGRAM, IN A SANDBOX (cutbox-door.mjs). By AI agents, Wed Nov 11 2026. No macro, syntax, notation, axiom, sorry.
-/
import Derived.Test.YtgjdpjefoaohkaaDoorRows
import GoSem.ClaimSeven
namespace Go.Proofs.YtgjdpjefoaohkaaDoor
namespace Rows

/-- THE TIED CARD OF 'saturatelaw34.ProofTables'. -/
def proofTablesCard : Claim7 := { stood := { row := proofTablesRow, standIns := [], harness := (true, "ca8dc555b84e2e0aeb4ad6df918ef978b975ed68be5836af4d94f077d41ab794"), looks := false }, kinds := [], alts := [], laidByText := true, laidKinds := [.data], laidTests := true, laidLooks := .later }
def ProofTablesCardSaid : Prop := Claim7.holds Tryd.pinned (.plain (OpenSpec.ofChange proofTablesSpec)) proofTablesCard

/-- THE TIED CARD OF 'saturatelaw34.ProofLong'. -/
def proofLongCard : Claim7 := { stood := { row := proofLongRow, standIns := [], harness := (true, "ca8dc555b84e2e0aeb4ad6df918ef978b975ed68be5836af4d94f077d41ab794"), looks := false }, kinds := [], alts := [], laidByText := true, laidKinds := [.data], laidTests := true, laidLooks := .later }
def ProofLongCardSaid : Prop := Claim7.holds Tryd.pinned (.plain (OpenSpec.ofChange proofLongSpec)) proofLongCard

/-- THE TIED CARD OF 'saturatelaw34.ProofTrims'. -/
def proofTrimsCard : Claim7 := { stood := { row := proofTrimsRow, standIns := [], harness := (true, "ca8dc555b84e2e0aeb4ad6df918ef978b975ed68be5836af4d94f077d41ab794"), looks := false }, kinds := [], alts := [], laidByText := true, laidKinds := [.data], laidTests := true, laidLooks := .later }
def ProofTrimsCardSaid : Prop := Claim7.holds Tryd.pinned (.plain (OpenSpec.ofChange proofTrimsSpec)) proofTrimsCard

/-- THE TIED CARD OF 'saturatelaw34.ProofKeeps'. -/
def proofKeepsCard : Claim7 := { stood := { row := proofKeepsRow, standIns := [], harness := (true, "ca8dc555b84e2e0aeb4ad6df918ef978b975ed68be5836af4d94f077d41ab794"), looks := false }, kinds := [], alts := [], laidByText := true, laidKinds := [.data], laidTests := true, laidLooks := .later }
def ProofKeepsCardSaid : Prop := Claim7.holds Tryd.pinned (.plain (OpenSpec.ofChange proofKeepsSpec)) proofKeepsCard

/-- THE TIED CARD OF 'saturatelaw34.ProofChecks'. -/
def proofChecksCard : Claim7 := { stood := { row := proofChecksRow, standIns := [], harness := (true, "ca8dc555b84e2e0aeb4ad6df918ef978b975ed68be5836af4d94f077d41ab794"), looks := false }, kinds := [], alts := [], laidByText := true, laidKinds := [.data], laidTests := true, laidLooks := .later }
def ProofChecksCardSaid : Prop := Claim7.holds Tryd.pinned (.plain (OpenSpec.ofChange proofChecksSpec)) proofChecksCard

/-- THE SECOND FORM's CARD OF 'saturatelaw34.ProofTables'. -/
def proofTablesUptoCard : Claim7 := { stood := { row := proofTablesUptoRow, standIns := [], harness := (true, "ca8dc555b84e2e0aeb4ad6df918ef978b975ed68be5836af4d94f077d41ab794"), looks := false }, kinds := [], alts := [], laidByText := true, laidKinds := [.data], laidTests := true, laidLooks := .later }
def ProofTablesUptoCardSaid : Prop := Claim7.holds Tryd.pinned (.plain (OpenSpec.upto proofTablesSpec)) proofTablesUptoCard

/-- THE SECOND FORM's CARD OF 'saturatelaw34.ProofLong'. -/
def proofLongUptoCard : Claim7 := { stood := { row := proofLongUptoRow, standIns := [], harness := (true, "ca8dc555b84e2e0aeb4ad6df918ef978b975ed68be5836af4d94f077d41ab794"), looks := false }, kinds := [], alts := [], laidByText := true, laidKinds := [.data], laidTests := true, laidLooks := .later }
def ProofLongUptoCardSaid : Prop := Claim7.holds Tryd.pinned (.plain (OpenSpec.upto proofLongSpec)) proofLongUptoCard

/-- THE SECOND FORM's CARD OF 'saturatelaw34.ProofTrims'. -/
def proofTrimsUptoCard : Claim7 := { stood := { row := proofTrimsUptoRow, standIns := [], harness := (true, "ca8dc555b84e2e0aeb4ad6df918ef978b975ed68be5836af4d94f077d41ab794"), looks := false }, kinds := [], alts := [], laidByText := true, laidKinds := [.data], laidTests := true, laidLooks := .later }
def ProofTrimsUptoCardSaid : Prop := Claim7.holds Tryd.pinned (.plain (OpenSpec.upto proofTrimsSpec)) proofTrimsUptoCard

/-- THE SECOND FORM's CARD OF 'saturatelaw34.ProofKeeps'. -/
def proofKeepsUptoCard : Claim7 := { stood := { row := proofKeepsUptoRow, standIns := [], harness := (true, "ca8dc555b84e2e0aeb4ad6df918ef978b975ed68be5836af4d94f077d41ab794"), looks := false }, kinds := [], alts := [], laidByText := true, laidKinds := [.data], laidTests := true, laidLooks := .later }
def ProofKeepsUptoCardSaid : Prop := Claim7.holds Tryd.pinned (.plain (OpenSpec.upto proofKeepsSpec)) proofKeepsUptoCard

/-- THE SECOND FORM's CARD OF 'saturatelaw34.ProofChecks'. -/
def proofChecksUptoCard : Claim7 := { stood := { row := proofChecksUptoRow, standIns := [], harness := (true, "ca8dc555b84e2e0aeb4ad6df918ef978b975ed68be5836af4d94f077d41ab794"), looks := false }, kinds := [], alts := [], laidByText := true, laidKinds := [.data], laidTests := true, laidLooks := .later }
def ProofChecksUptoCardSaid : Prop := Claim7.holds Tryd.pinned (.plain (OpenSpec.upto proofChecksSpec)) proofChecksUptoCard
end Rows
end Go.Proofs.YtgjdpjefoaohkaaDoor
