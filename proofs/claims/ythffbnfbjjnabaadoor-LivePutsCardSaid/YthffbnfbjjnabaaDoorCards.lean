/-
  DERIVED. GIVEN WITH THE SEED: THE CARDS: each row of YthffbnfbjjnabaaDoorRows.lean that lists a variable, with what it lists TIED to the program's text (the seventh form; the later family's looks); each row that meets fmt, with fmt's text TOLD by the authors' own Lean function (tested against real Go, not proved from fmt's source: count such statements apart). THE CARD IS WHAT COUNTS. Prove the row's statement (the work); the ties are given (YthffbnfbjjnabaaDoorTie.lean); close each card by the builder's one call (the guide's Derived/Test/ToyasCard.lean, 'card_holds'). Laid BY PROGRAM, IN A SANDBOX (cutbox-door.mjs). By AI agents, Wed Nov 11 2026. No macro, syntax, notation, axiom, sorry.
-/
import Derived.Test.YthffbnfbjjnabaaDoorRows
import GoSem.ClaimSeven
namespace Go.Proofs.YthffbnfbjjnabaaDoor
namespace Rows

/-- THE TIED CARD OF 'saturatelaw50.LiveDead'. -/
def liveDeadCard : Claim7 := { stood := { row := liveDeadRow, standIns := [], harness := (true, "7b05b10d60bf1dde2b90c528b103b0f8816e41f751e03ea314a2596eb0f4d535"), looks := false }, kinds := [], alts := [], laidByText := true, laidKinds := [.widerDeep], laidTests := true, laidLooks := .later }
def LiveDeadCardSaid : Prop := Claim7.holds Tryd.pinned (.plain (OpenSpec.ofChange liveDeadSpec)) liveDeadCard

/-- THE TIED CARD OF 'saturatelaw50.LiveInputs'. -/
def liveInputsCard : Claim7 := { stood := { row := liveInputsRow, standIns := [], harness := (true, "7b05b10d60bf1dde2b90c528b103b0f8816e41f751e03ea314a2596eb0f4d535"), looks := false }, kinds := [], alts := [], laidByText := true, laidKinds := [.widerDeep], laidTests := true, laidLooks := .later }
def LiveInputsCardSaid : Prop := Claim7.holds Tryd.pinned (.plain (OpenSpec.ofChange liveInputsSpec)) liveInputsCard

/-- THE TIED CARD OF 'saturatelaw50.LiveRemoves'. -/
def liveRemovesCard : Claim7 := { stood := { row := liveRemovesRow, standIns := [], harness := (true, "7b05b10d60bf1dde2b90c528b103b0f8816e41f751e03ea314a2596eb0f4d535"), looks := false }, kinds := [], alts := [], laidByText := true, laidKinds := [.widerDeep], laidTests := true, laidLooks := .later }
def LiveRemovesCardSaid : Prop := Claim7.holds Tryd.pinned (.plain (OpenSpec.ofChange liveRemovesSpec)) liveRemovesCard

/-- THE TIED CARD OF 'saturatelaw50.LiveWindows'. -/
def liveWindowsCard : Claim7 := { stood := { row := liveWindowsRow, standIns := [], harness := (true, "7b05b10d60bf1dde2b90c528b103b0f8816e41f751e03ea314a2596eb0f4d535"), looks := false }, kinds := [], alts := [], laidByText := true, laidKinds := [.widerDeep], laidTests := true, laidLooks := .later }
def LiveWindowsCardSaid : Prop := Claim7.holds Tryd.pinned (.plain (OpenSpec.ofChange liveWindowsSpec)) liveWindowsCard

/-- THE TIED CARD OF 'saturatelaw50.LiveReplaces'. -/
def liveReplacesCard : Claim7 := { stood := { row := liveReplacesRow, standIns := [], harness := (true, "7b05b10d60bf1dde2b90c528b103b0f8816e41f751e03ea314a2596eb0f4d535"), looks := false }, kinds := [], alts := [], laidByText := true, laidKinds := [.widerDeep], laidTests := true, laidLooks := .later }
def LiveReplacesCardSaid : Prop := Claim7.holds Tryd.pinned (.plain (OpenSpec.ofChange liveReplacesSpec)) liveReplacesCard

/-- THE TIED CARD OF 'saturatelaw50.LivePuts'. -/
def livePutsCard : Claim7 := { stood := { row := livePutsRow, standIns := [], harness := (true, "7b05b10d60bf1dde2b90c528b103b0f8816e41f751e03ea314a2596eb0f4d535"), looks := false }, kinds := [], alts := [], laidByText := true, laidKinds := [.widerDeep], laidTests := true, laidLooks := .later }
def LivePutsCardSaid : Prop := Claim7.holds Tryd.pinned (.plain (OpenSpec.ofChange livePutsSpec)) livePutsCard

/-- THE TIED CARD OF 'saturatelaw50.LiveSets'. -/
def liveSetsCard : Claim7 := { stood := { row := liveSetsRow, standIns := [], harness := (true, "7b05b10d60bf1dde2b90c528b103b0f8816e41f751e03ea314a2596eb0f4d535"), looks := false }, kinds := [], alts := [], laidByText := true, laidKinds := [.widerDeep], laidTests := true, laidLooks := .later }
def LiveSetsCardSaid : Prop := Claim7.holds Tryd.pinned (.plain (OpenSpec.ofChange liveSetsSpec)) liveSetsCard

/-- THE SECOND FORM's CARD OF 'saturatelaw50.LiveDead'. -/
def liveDeadUptoCard : Claim7 := { stood := { row := liveDeadUptoRow, standIns := [], harness := (true, "7b05b10d60bf1dde2b90c528b103b0f8816e41f751e03ea314a2596eb0f4d535"), looks := false }, kinds := [], alts := [], laidByText := true, laidKinds := [.widerDeep], laidTests := true, laidLooks := .later }
def LiveDeadUptoCardSaid : Prop := Claim7.holds Tryd.pinned (.plain (OpenSpec.upto liveDeadSpec)) liveDeadUptoCard

/-- THE SECOND FORM's CARD OF 'saturatelaw50.LiveInputs'. -/
def liveInputsUptoCard : Claim7 := { stood := { row := liveInputsUptoRow, standIns := [], harness := (true, "7b05b10d60bf1dde2b90c528b103b0f8816e41f751e03ea314a2596eb0f4d535"), looks := false }, kinds := [], alts := [], laidByText := true, laidKinds := [.widerDeep], laidTests := true, laidLooks := .later }
def LiveInputsUptoCardSaid : Prop := Claim7.holds Tryd.pinned (.plain (OpenSpec.upto liveInputsSpec)) liveInputsUptoCard

/-- THE SECOND FORM's CARD OF 'saturatelaw50.LiveRemoves'. -/
def liveRemovesUptoCard : Claim7 := { stood := { row := liveRemovesUptoRow, standIns := [], harness := (true, "7b05b10d60bf1dde2b90c528b103b0f8816e41f751e03ea314a2596eb0f4d535"), looks := false }, kinds := [], alts := [], laidByText := true, laidKinds := [.widerDeep], laidTests := true, laidLooks := .later }
def LiveRemovesUptoCardSaid : Prop := Claim7.holds Tryd.pinned (.plain (OpenSpec.upto liveRemovesSpec)) liveRemovesUptoCard

/-- THE SECOND FORM's CARD OF 'saturatelaw50.LiveWindows'. -/
def liveWindowsUptoCard : Claim7 := { stood := { row := liveWindowsUptoRow, standIns := [], harness := (true, "7b05b10d60bf1dde2b90c528b103b0f8816e41f751e03ea314a2596eb0f4d535"), looks := false }, kinds := [], alts := [], laidByText := true, laidKinds := [.widerDeep], laidTests := true, laidLooks := .later }
def LiveWindowsUptoCardSaid : Prop := Claim7.holds Tryd.pinned (.plain (OpenSpec.upto liveWindowsSpec)) liveWindowsUptoCard

/-- THE SECOND FORM's CARD OF 'saturatelaw50.LiveReplaces'. -/
def liveReplacesUptoCard : Claim7 := { stood := { row := liveReplacesUptoRow, standIns := [], harness := (true, "7b05b10d60bf1dde2b90c528b103b0f8816e41f751e03ea314a2596eb0f4d535"), looks := false }, kinds := [], alts := [], laidByText := true, laidKinds := [.widerDeep], laidTests := true, laidLooks := .later }
def LiveReplacesUptoCardSaid : Prop := Claim7.holds Tryd.pinned (.plain (OpenSpec.upto liveReplacesSpec)) liveReplacesUptoCard

/-- THE SECOND FORM's CARD OF 'saturatelaw50.LivePuts'. -/
def livePutsUptoCard : Claim7 := { stood := { row := livePutsUptoRow, standIns := [], harness := (true, "7b05b10d60bf1dde2b90c528b103b0f8816e41f751e03ea314a2596eb0f4d535"), looks := false }, kinds := [], alts := [], laidByText := true, laidKinds := [.widerDeep], laidTests := true, laidLooks := .later }
def LivePutsUptoCardSaid : Prop := Claim7.holds Tryd.pinned (.plain (OpenSpec.upto livePutsSpec)) livePutsUptoCard

/-- THE SECOND FORM's CARD OF 'saturatelaw50.LiveSets'. -/
def liveSetsUptoCard : Claim7 := { stood := { row := liveSetsUptoRow, standIns := [], harness := (true, "7b05b10d60bf1dde2b90c528b103b0f8816e41f751e03ea314a2596eb0f4d535"), looks := false }, kinds := [], alts := [], laidByText := true, laidKinds := [.widerDeep], laidTests := true, laidLooks := .later }
def LiveSetsUptoCardSaid : Prop := Claim7.holds Tryd.pinned (.plain (OpenSpec.upto liveSetsSpec)) liveSetsUptoCard
end Rows
end Go.Proofs.YthffbnfbjjnabaaDoor
