/-
  NARROWER THAN 'FOR EVERY INPUT', by the rows' own cells (each row's printed sentence says how): RefineStates: laid · RefineChecks: laid · RefineOrder: laid · RefineSwaps: laid · RefineTests: laid · RefineWitness: laid · RefineRemoves: laid.
  DERIVED. THE GIVEN ROWS OF THIS SEAT. 7 by the template 'for every input the law returns true; each argument reads behind the call as it read before'; 0 by the template 'total and deterministic' (their statements: YtkomfeeimdlokaaGreatDoorTotals.lean).
  GIVEN WITH THE SEED: the statements are not yours to turn. If you find one false, say at which input.
  Laid BY PROGRAM, IN A SANDBOX (cutbox-rows.mjs): the forced cells as the released guide's own fill.sh prints them over the translation 1314851e6a8ad63f… (all of the seat's roots in one cut). By AI agents, Wed Nov 11 2026. No macro, syntax, notation, axiom, sorry.
-/
import Derived.Test.YtkomfeeimdlokaaGreatDoorChecked
import GoSem.Claim
import GoSem.ClaimJoined
import GoSem.ClaimMapViews
import Derived.JoinedTies
import Derived.KernelRfl
namespace Go.Proofs.YtkomfeeimdlokaaGreatDoor
/- THE CELL 'sum', in the pinned program and in every row, IS THE sha256 OF THE DUMP (.gsa) THAT YtkomfeeimdlokaaGreatDoorProg.lean LOADS. Nothing in Lean hashes anything: it is a label: what it is worth is what the hold of that sum in a sandbox is worth. -/
noncomputable def Tryz.pinned : Pinned := { name := "ytkomfeeimdlokaagreatdoor", sum := "1314851e6a8ad63f284b5350c1472c0b8330d07344bcedf34ce0c889ef224049", checked := Tryz.checked }
namespace Rows
def none {H : Type} : Left H := { results := [], args := [] }

/- WHAT THE LISTED PACKAGE-LEVEL VARIABLES READ AS WHEN THE CALL BEGINS. Each datum BY PROGRAM (the guide's laid-datum.mjs) off the statement by which the dump's own 'gosem.cut.vars' lays the variable. In a bare row this is a premise. The card (YtkomfeeimdlokaaGreatDoorCards.lean) ties it to the program's text. -/
def laid_saturate_isa_operations {H : Type} : DataW H := .agg [.agg [.lit (.string [110, 111, 112]), .lit (.int .i64 0)], .agg [.lit (.string [109, 111, 118, 105]), .lit (.int .i64 0)], .agg [.lit (.string [109, 111, 118]), .lit (.int .i64 1)], .agg [.lit (.string [110, 111, 116]), .lit (.int .i64 1)], .agg [.lit (.string [110, 101, 103]), .lit (.int .i64 1)], .agg [.lit (.string [97, 110, 100]), .lit (.int .i64 2)], .agg [.lit (.string [111, 114]), .lit (.int .i64 2)], .agg [.lit (.string [120, 111, 114]), .lit (.int .i64 2)], .agg [.lit (.string [97, 100, 100]), .lit (.int .i64 2)], .agg [.lit (.string [115, 117, 98]), .lit (.int .i64 2)], .agg [.lit (.string [109, 117, 108]), .lit (.int .i64 2)], .agg [.lit (.string [100, 105, 118]), .lit (.int .i64 2)], .agg [.lit (.string [114, 101, 109]), .lit (.int .i64 2)], .agg [.lit (.string [115, 104, 108]), .lit (.int .i64 2)], .agg [.lit (.string [115, 104, 114]), .lit (.int .i64 2)], .agg [.lit (.string [115, 97, 114]), .lit (.int .i64 2)], .agg [.lit (.string [101, 113]), .lit (.int .i64 2)], .agg [.lit (.string [117, 108, 116]), .lit (.int .i64 2)], .agg [.lit (.string [115, 108, 116]), .lit (.int .i64 2)], .agg [.lit (.string [115, 101, 108]), .lit (.int .i64 3)]]

/-- 'saturatelaw53.RefineStates': WHATEVER THE INPUT: true; the input reads as it did. -/
def refineStatesSpec : ChangeSpec := { name := "refineStates", fn := fun _ => fun
  | [d1, d2] => { results := [.lit (.bool true)], args := [d1, d2] }
  | _ => none }
def refineStatesRow : OpenClaim := { program := "ytkomfeeimdlokaagreatdoor", sum := "1314851e6a8ad63f284b5350c1472c0b8330d07344bcedf34ce0c889ef224049", func := "saturate/saturatelaw53.RefineStates", spec := "refineStates", unfollowed := true, recurses := true, named := ["saturate/isa.operations"], apart := false, laid := [("saturate/isa.operations", laid_saturate_isa_operations)] }
def RefineStatesSaid : Prop := refineStatesRow.holds Tryz.pinned (OpenSpec.ofChange refineStatesSpec)

/-- ITS FALSE NEIGHBOUR: 'it returns false'. Refute it at one input. -/
def refineStatesWrong : ChangeSpec := { name := "refineStates", fn := fun _ => fun
  | [d1, d2] => { results := [.lit (.bool false)], args := [d1, d2] }
  | _ => none }
def RefineStatesWrongFalsely : Prop := refineStatesRow.holds Tryz.pinned (OpenSpec.ofChange refineStatesWrong)

/-- 'saturatelaw53.RefineChecks': WHATEVER THE INPUT: true; the input reads as it did. -/
def refineChecksSpec : ChangeSpec := { name := "refineChecks", fn := fun _ => fun
  | [d1, d2] => { results := [.lit (.bool true)], args := [d1, d2] }
  | _ => none }
def refineChecksRow : OpenClaim := { program := "ytkomfeeimdlokaagreatdoor", sum := "1314851e6a8ad63f284b5350c1472c0b8330d07344bcedf34ce0c889ef224049", func := "saturate/saturatelaw53.RefineChecks", spec := "refineChecks", unfollowed := true, recurses := true, named := ["saturate/isa.operations"], apart := false, laid := [("saturate/isa.operations", laid_saturate_isa_operations)] }
def RefineChecksSaid : Prop := refineChecksRow.holds Tryz.pinned (OpenSpec.ofChange refineChecksSpec)

/-- ITS FALSE NEIGHBOUR: 'it returns false'. Refute it at one input. -/
def refineChecksWrong : ChangeSpec := { name := "refineChecks", fn := fun _ => fun
  | [d1, d2] => { results := [.lit (.bool false)], args := [d1, d2] }
  | _ => none }
def RefineChecksWrongFalsely : Prop := refineChecksRow.holds Tryz.pinned (OpenSpec.ofChange refineChecksWrong)

/-- 'saturatelaw53.RefineOrder': WHATEVER THE INPUT: true; the input reads as it did. -/
def refineOrderSpec : ChangeSpec := { name := "refineOrder", fn := fun _ => fun
  | [d1, d2, d3] => { results := [.lit (.bool true)], args := [d1, d2, d3] }
  | _ => none }
def refineOrderRow : OpenClaim := { program := "ytkomfeeimdlokaagreatdoor", sum := "1314851e6a8ad63f284b5350c1472c0b8330d07344bcedf34ce0c889ef224049", func := "saturate/saturatelaw53.RefineOrder", spec := "refineOrder", unfollowed := true, recurses := true, named := ["saturate/isa.operations"], apart := false, laid := [("saturate/isa.operations", laid_saturate_isa_operations)] }
def RefineOrderSaid : Prop := refineOrderRow.holds Tryz.pinned (OpenSpec.ofChange refineOrderSpec)

/-- ITS FALSE NEIGHBOUR: 'it returns false'. Refute it at one input. -/
def refineOrderWrong : ChangeSpec := { name := "refineOrder", fn := fun _ => fun
  | [d1, d2, d3] => { results := [.lit (.bool false)], args := [d1, d2, d3] }
  | _ => none }
def RefineOrderWrongFalsely : Prop := refineOrderRow.holds Tryz.pinned (OpenSpec.ofChange refineOrderWrong)

/-- 'saturatelaw53.RefineSwaps': WHATEVER THE INPUT: true; the input reads as it did. -/
def refineSwapsSpec : ChangeSpec := { name := "refineSwaps", fn := fun _ => fun
  | [d1, d2, d3] => { results := [.lit (.bool true)], args := [d1, d2, d3] }
  | _ => none }
def refineSwapsRow : OpenClaim := { program := "ytkomfeeimdlokaagreatdoor", sum := "1314851e6a8ad63f284b5350c1472c0b8330d07344bcedf34ce0c889ef224049", func := "saturate/saturatelaw53.RefineSwaps", spec := "refineSwaps", unfollowed := true, recurses := true, named := ["saturate/isa.operations"], apart := false, laid := [("saturate/isa.operations", laid_saturate_isa_operations)] }
def RefineSwapsSaid : Prop := refineSwapsRow.holds Tryz.pinned (OpenSpec.ofChange refineSwapsSpec)

/-- ITS FALSE NEIGHBOUR: 'it returns false'. Refute it at one input. -/
def refineSwapsWrong : ChangeSpec := { name := "refineSwaps", fn := fun _ => fun
  | [d1, d2, d3] => { results := [.lit (.bool false)], args := [d1, d2, d3] }
  | _ => none }
def RefineSwapsWrongFalsely : Prop := refineSwapsRow.holds Tryz.pinned (OpenSpec.ofChange refineSwapsWrong)

/-- 'saturatelaw53.RefineTests': WHATEVER THE INPUT: true; the input reads as it did. -/
def refineTestsSpec : ChangeSpec := { name := "refineTests", fn := fun _ => fun
  | [d1, d2, d3] => { results := [.lit (.bool true)], args := [d1, d2, d3] }
  | _ => none }
def refineTestsRow : OpenClaim := { program := "ytkomfeeimdlokaagreatdoor", sum := "1314851e6a8ad63f284b5350c1472c0b8330d07344bcedf34ce0c889ef224049", func := "saturate/saturatelaw53.RefineTests", spec := "refineTests", unfollowed := true, recurses := true, named := ["saturate/isa.operations"], apart := false, laid := [("saturate/isa.operations", laid_saturate_isa_operations)] }
def RefineTestsSaid : Prop := refineTestsRow.holds Tryz.pinned (OpenSpec.ofChange refineTestsSpec)

/-- ITS FALSE NEIGHBOUR: 'it returns false'. Refute it at one input. -/
def refineTestsWrong : ChangeSpec := { name := "refineTests", fn := fun _ => fun
  | [d1, d2, d3] => { results := [.lit (.bool false)], args := [d1, d2, d3] }
  | _ => none }
def RefineTestsWrongFalsely : Prop := refineTestsRow.holds Tryz.pinned (OpenSpec.ofChange refineTestsWrong)

/-- 'saturatelaw53.RefineWitness': WHATEVER THE INPUT: true; the input reads as it did. -/
def refineWitnessSpec : ChangeSpec := { name := "refineWitness", fn := fun _ => fun
  | [d1, d2, d3] => { results := [.lit (.bool true)], args := [d1, d2, d3] }
  | _ => none }
def refineWitnessRow : OpenClaim := { program := "ytkomfeeimdlokaagreatdoor", sum := "1314851e6a8ad63f284b5350c1472c0b8330d07344bcedf34ce0c889ef224049", func := "saturate/saturatelaw53.RefineWitness", spec := "refineWitness", unfollowed := true, recurses := true, named := ["saturate/isa.operations"], apart := false, laid := [("saturate/isa.operations", laid_saturate_isa_operations)] }
def RefineWitnessSaid : Prop := refineWitnessRow.holds Tryz.pinned (OpenSpec.ofChange refineWitnessSpec)

/-- ITS FALSE NEIGHBOUR: 'it returns false'. Refute it at one input. -/
def refineWitnessWrong : ChangeSpec := { name := "refineWitness", fn := fun _ => fun
  | [d1, d2, d3] => { results := [.lit (.bool false)], args := [d1, d2, d3] }
  | _ => none }
def RefineWitnessWrongFalsely : Prop := refineWitnessRow.holds Tryz.pinned (OpenSpec.ofChange refineWitnessWrong)

/-- 'saturatelaw53.RefineRemoves': WHATEVER THE INPUT: true; the input reads as it did. -/
def refineRemovesSpec : ChangeSpec := { name := "refineRemoves", fn := fun _ => fun
  | [d] => { results := [.lit (.bool true)], args := [d] }
  | _ => none }
def refineRemovesRow : OpenClaim := { program := "ytkomfeeimdlokaagreatdoor", sum := "1314851e6a8ad63f284b5350c1472c0b8330d07344bcedf34ce0c889ef224049", func := "saturate/saturatelaw53.RefineRemoves", spec := "refineRemoves", unfollowed := true, recurses := true, named := ["saturate/isa.operations"], apart := false, laid := [("saturate/isa.operations", laid_saturate_isa_operations)] }
def RefineRemovesSaid : Prop := refineRemovesRow.holds Tryz.pinned (OpenSpec.ofChange refineRemovesSpec)

/-- ITS FALSE NEIGHBOUR: 'it returns false'. Refute it at one input. -/
def refineRemovesWrong : ChangeSpec := { name := "refineRemoves", fn := fun _ => fun
  | [d] => { results := [.lit (.bool false)], args := [d] }
  | _ => none }
def RefineRemovesWrongFalsely : Prop := refineRemovesRow.holds Tryz.pinned (OpenSpec.ofChange refineRemovesWrong)

/- THE SECOND FORM. 'bulk': how many values and letters a reading holds, each counted each time it is reached (what is shared counts as often as it is met; a slice's spare places count too). A statement '..UptoSaid' is the law's where the arguments, and the package variables that the reading takes, are together of bulk at most 1048576: NARROWER than '..Said'. Prove '..Said' where nothing that the law and all that it calls make is longer than what came in: it says more and counts as full. Else prove '..UptoSaid'. A law counts once. -/
mutual
def uptoBulk {H : Type} : DataW H → Nat
  | .lit (.string bytes) => bytes.length + 1
  | .lit _ => 1
  | .nil => 1
  | .ptr d => uptoBulk d + 1
  | .slice elems spare => uptoBulkAll elems + uptoBulkAll spare + 1
  | .agg parts => uptoBulkAll parts + 1
  | .iface _ d => uptoBulk d + 1
  | .map entries => uptoBulkEntries entries + 1
  | .held _ => 1
def uptoBulkAll {H : Type} : List (DataW H) → Nat
  | [] => 0
  | d :: r => uptoBulk d + uptoBulkAll r
def uptoBulkEntries {H : Type} : List (Lit × DataW H) → Nat
  | [] => 0
  | x :: r => uptoBulkEntry x + uptoBulkEntries r
def uptoBulkEntry {H : Type} : Lit × DataW H → Nat
  | (.string bytes, d) => bytes.length + uptoBulk d + 1
  | (_, d) => uptoBulk d + 1
 end
def uptoSmall : (H : Type) → List (DataW H) → Bool := fun _ ds => decide (uptoBulkAll ds ≤ 1048576)
def OpenSpec.upto (s : _root_.Go.ChangeSpec) : _root_.Go.OpenSpec := { _root_.Go.OpenSpec.ofChange s with cond := some uptoSmall }

/-- 'saturatelaw53.RefineStates', WHERE WHAT IT READS IS OF BULK AT MOST 1048576: true; the input reads as it did. -/
def refineStatesUptoRow : OpenClaim := { program := "ytkomfeeimdlokaagreatdoor", sum := "1314851e6a8ad63f284b5350c1472c0b8330d07344bcedf34ce0c889ef224049", func := "saturate/saturatelaw53.RefineStates", spec := "refineStates", unfollowed := true, recurses := true, named := ["saturate/isa.operations"], apart := false, laid := [("saturate/isa.operations", laid_saturate_isa_operations)], narrowed := true }
def RefineStatesUptoSaid : Prop := refineStatesUptoRow.holds Tryz.pinned (OpenSpec.upto refineStatesSpec)

/-- 'saturatelaw53.RefineChecks', WHERE WHAT IT READS IS OF BULK AT MOST 1048576: true; the input reads as it did. -/
def refineChecksUptoRow : OpenClaim := { program := "ytkomfeeimdlokaagreatdoor", sum := "1314851e6a8ad63f284b5350c1472c0b8330d07344bcedf34ce0c889ef224049", func := "saturate/saturatelaw53.RefineChecks", spec := "refineChecks", unfollowed := true, recurses := true, named := ["saturate/isa.operations"], apart := false, laid := [("saturate/isa.operations", laid_saturate_isa_operations)], narrowed := true }
def RefineChecksUptoSaid : Prop := refineChecksUptoRow.holds Tryz.pinned (OpenSpec.upto refineChecksSpec)

/-- 'saturatelaw53.RefineOrder', WHERE WHAT IT READS IS OF BULK AT MOST 1048576: true; the input reads as it did. -/
def refineOrderUptoRow : OpenClaim := { program := "ytkomfeeimdlokaagreatdoor", sum := "1314851e6a8ad63f284b5350c1472c0b8330d07344bcedf34ce0c889ef224049", func := "saturate/saturatelaw53.RefineOrder", spec := "refineOrder", unfollowed := true, recurses := true, named := ["saturate/isa.operations"], apart := false, laid := [("saturate/isa.operations", laid_saturate_isa_operations)], narrowed := true }
def RefineOrderUptoSaid : Prop := refineOrderUptoRow.holds Tryz.pinned (OpenSpec.upto refineOrderSpec)

/-- 'saturatelaw53.RefineSwaps', WHERE WHAT IT READS IS OF BULK AT MOST 1048576: true; the input reads as it did. -/
def refineSwapsUptoRow : OpenClaim := { program := "ytkomfeeimdlokaagreatdoor", sum := "1314851e6a8ad63f284b5350c1472c0b8330d07344bcedf34ce0c889ef224049", func := "saturate/saturatelaw53.RefineSwaps", spec := "refineSwaps", unfollowed := true, recurses := true, named := ["saturate/isa.operations"], apart := false, laid := [("saturate/isa.operations", laid_saturate_isa_operations)], narrowed := true }
def RefineSwapsUptoSaid : Prop := refineSwapsUptoRow.holds Tryz.pinned (OpenSpec.upto refineSwapsSpec)

/-- 'saturatelaw53.RefineTests', WHERE WHAT IT READS IS OF BULK AT MOST 1048576: true; the input reads as it did. -/
def refineTestsUptoRow : OpenClaim := { program := "ytkomfeeimdlokaagreatdoor", sum := "1314851e6a8ad63f284b5350c1472c0b8330d07344bcedf34ce0c889ef224049", func := "saturate/saturatelaw53.RefineTests", spec := "refineTests", unfollowed := true, recurses := true, named := ["saturate/isa.operations"], apart := false, laid := [("saturate/isa.operations", laid_saturate_isa_operations)], narrowed := true }
def RefineTestsUptoSaid : Prop := refineTestsUptoRow.holds Tryz.pinned (OpenSpec.upto refineTestsSpec)

/-- 'saturatelaw53.RefineWitness', WHERE WHAT IT READS IS OF BULK AT MOST 1048576: true; the input reads as it did. -/
def refineWitnessUptoRow : OpenClaim := { program := "ytkomfeeimdlokaagreatdoor", sum := "1314851e6a8ad63f284b5350c1472c0b8330d07344bcedf34ce0c889ef224049", func := "saturate/saturatelaw53.RefineWitness", spec := "refineWitness", unfollowed := true, recurses := true, named := ["saturate/isa.operations"], apart := false, laid := [("saturate/isa.operations", laid_saturate_isa_operations)], narrowed := true }
def RefineWitnessUptoSaid : Prop := refineWitnessUptoRow.holds Tryz.pinned (OpenSpec.upto refineWitnessSpec)

/-- 'saturatelaw53.RefineRemoves', WHERE WHAT IT READS IS OF BULK AT MOST 1048576: true; the input reads as it did. -/
def refineRemovesUptoRow : OpenClaim := { program := "ytkomfeeimdlokaagreatdoor", sum := "1314851e6a8ad63f284b5350c1472c0b8330d07344bcedf34ce0c889ef224049", func := "saturate/saturatelaw53.RefineRemoves", spec := "refineRemoves", unfollowed := true, recurses := true, named := ["saturate/isa.operations"], apart := false, laid := [("saturate/isa.operations", laid_saturate_isa_operations)], narrowed := true }
def RefineRemovesUptoSaid : Prop := refineRemovesUptoRow.holds Tryz.pinned (OpenSpec.upto refineRemovesSpec)

end Rows
end Go.Proofs.YtkomfeeimdlokaaGreatDoor
