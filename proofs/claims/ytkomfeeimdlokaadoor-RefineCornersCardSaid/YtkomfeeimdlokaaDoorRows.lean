/-
  NARROWER THAN 'FOR EVERY INPUT', by the rows' own cells (each row's printed sentence says how): RefineState: laid · RefineCorners: laid.
  DERIVED. THE GIVEN ROWS OF THIS SEAT. 2 by the template 'for every input the law returns true; each argument reads behind the call as it read before'; 0 by the template 'total and deterministic' (their statements: YtkomfeeimdlokaaDoorTotals.lean).
  GIVEN WITH THE SEED: the statements are not yours to turn. If you find one false, say at which input.
  Laid BY PROGRAM, IN A SANDBOX (cutbox-rows.mjs): the forced cells as the released guide's own fill.sh prints them over the translation a3aae3ecc7ef3f0b… (all of the seat's roots in one cut). By AI agents, Wed Nov 11 2026. No macro, syntax, notation, axiom, sorry.
-/
import Derived.Test.YtkomfeeimdlokaaDoorChecked
import GoSem.Claim
import GoSem.ClaimJoined
import GoSem.ClaimMapViews
import Derived.JoinedTies
import Derived.KernelRfl
namespace Go.Proofs.YtkomfeeimdlokaaDoor
/- THE CELL 'sum', in the pinned program and in every row, IS THE sha256 OF THE DUMP (.gsa) THAT YtkomfeeimdlokaaDoorProg.lean LOADS. Nothing in Lean hashes anything: it is a label: what it is worth is what the hold of that sum in a sandbox is worth. -/
noncomputable def Tryd.pinned : Pinned := { name := "ytkomfeeimdlokaadoor", sum := "a3aae3ecc7ef3f0b86aa08137dbb9df5118117c8800f565296daddb9acf1a7fb", checked := Tryd.checked }
namespace Rows
def none {H : Type} : Left H := { results := [], args := [] }

/- WHAT THE LISTED PACKAGE-LEVEL VARIABLES READ AS WHEN THE CALL BEGINS. Each datum BY PROGRAM (the guide's laid-datum.mjs) off the statement by which the dump's own 'gosem.cut.vars' lays the variable. In a bare row this is a premise. The card (YtkomfeeimdlokaaDoorCards.lean) ties it to the program's text. -/
def laid_saturate_isa_operations {H : Type} : DataW H := .agg [.agg [.lit (.string [110, 111, 112]), .lit (.int .i64 0)], .agg [.lit (.string [109, 111, 118, 105]), .lit (.int .i64 0)], .agg [.lit (.string [109, 111, 118]), .lit (.int .i64 1)], .agg [.lit (.string [110, 111, 116]), .lit (.int .i64 1)], .agg [.lit (.string [110, 101, 103]), .lit (.int .i64 1)], .agg [.lit (.string [97, 110, 100]), .lit (.int .i64 2)], .agg [.lit (.string [111, 114]), .lit (.int .i64 2)], .agg [.lit (.string [120, 111, 114]), .lit (.int .i64 2)], .agg [.lit (.string [97, 100, 100]), .lit (.int .i64 2)], .agg [.lit (.string [115, 117, 98]), .lit (.int .i64 2)], .agg [.lit (.string [109, 117, 108]), .lit (.int .i64 2)], .agg [.lit (.string [100, 105, 118]), .lit (.int .i64 2)], .agg [.lit (.string [114, 101, 109]), .lit (.int .i64 2)], .agg [.lit (.string [115, 104, 108]), .lit (.int .i64 2)], .agg [.lit (.string [115, 104, 114]), .lit (.int .i64 2)], .agg [.lit (.string [115, 97, 114]), .lit (.int .i64 2)], .agg [.lit (.string [101, 113]), .lit (.int .i64 2)], .agg [.lit (.string [117, 108, 116]), .lit (.int .i64 2)], .agg [.lit (.string [115, 108, 116]), .lit (.int .i64 2)], .agg [.lit (.string [115, 101, 108]), .lit (.int .i64 3)]]

/-- 'saturatelaw53.RefineState': WHATEVER THE INPUT: true; the input reads as it did. -/
def refineStateSpec : ChangeSpec := { name := "refineState", fn := fun _ => fun
  | [d1, d2, d3, d4] => { results := [.lit (.bool true)], args := [d1, d2, d3, d4] }
  | _ => none }
def refineStateRow : OpenClaim := { program := "ytkomfeeimdlokaadoor", sum := "a3aae3ecc7ef3f0b86aa08137dbb9df5118117c8800f565296daddb9acf1a7fb", func := "saturate/saturatelaw53.RefineState", spec := "refineState", unfollowed := true, recurses := true, named := ["saturate/isa.operations"], apart := false, laid := [("saturate/isa.operations", laid_saturate_isa_operations)] }
def RefineStateSaid : Prop := refineStateRow.holds Tryd.pinned (OpenSpec.ofChange refineStateSpec)

/-- ITS FALSE NEIGHBOUR: 'it returns false'. Refute it at one input. -/
def refineStateWrong : ChangeSpec := { name := "refineState", fn := fun _ => fun
  | [d1, d2, d3, d4] => { results := [.lit (.bool false)], args := [d1, d2, d3, d4] }
  | _ => none }
def RefineStateWrongFalsely : Prop := refineStateRow.holds Tryd.pinned (OpenSpec.ofChange refineStateWrong)

/-- 'saturatelaw53.RefineCorners': WHATEVER THE INPUT: true; the input reads as it did. -/
def refineCornersSpec : ChangeSpec := { name := "refineCorners", fn := fun _ => fun
  | [d1, d2, d3, d4] => { results := [.lit (.bool true)], args := [d1, d2, d3, d4] }
  | _ => none }
def refineCornersRow : OpenClaim := { program := "ytkomfeeimdlokaadoor", sum := "a3aae3ecc7ef3f0b86aa08137dbb9df5118117c8800f565296daddb9acf1a7fb", func := "saturate/saturatelaw53.RefineCorners", spec := "refineCorners", unfollowed := true, recurses := true, named := ["saturate/isa.operations"], apart := false, laid := [("saturate/isa.operations", laid_saturate_isa_operations)] }
def RefineCornersSaid : Prop := refineCornersRow.holds Tryd.pinned (OpenSpec.ofChange refineCornersSpec)

/-- ITS FALSE NEIGHBOUR: 'it returns false'. Refute it at one input. -/
def refineCornersWrong : ChangeSpec := { name := "refineCorners", fn := fun _ => fun
  | [d1, d2, d3, d4] => { results := [.lit (.bool false)], args := [d1, d2, d3, d4] }
  | _ => none }
def RefineCornersWrongFalsely : Prop := refineCornersRow.holds Tryd.pinned (OpenSpec.ofChange refineCornersWrong)

/- THE SECOND FORM. 'bulk': how many values and letters a reading holds, each counted each time it is reached (what is shared counts as often as it is met; a slice's spare places count too). A statement '..UptoSaid' is the law's where the arguments, and the package variables that the reading takes, are together of bulk at most 1048576: NARROWER than '..Said'. Prove '..Said' where nothing that the law and all that it calls make is longer than what came in: it says more and counts as full. Else prove '..UptoSaid'. A law counts once. -/
mutual
def uptoBulk {H : Type} : DataW H → Nat
  | .lit (.string bytes) => bytes.length + 1
  | .lit _ => 1
  | .nil => 1
  | .ptr d => uptoBulk d + 1
  | .slice elems spare => uptoBulkAll elems + uptoBulkAll spare + 1
  | .agg parts => uptoBulkAll parts + 1
  | .iface _ d => uptoBulk d + 1
  | .map entries => uptoBulkEntries entries + 1
  | .held _ => 1
def uptoBulkAll {H : Type} : List (DataW H) → Nat
  | [] => 0
  | d :: r => uptoBulk d + uptoBulkAll r
def uptoBulkEntries {H : Type} : List (Lit × DataW H) → Nat
  | [] => 0
  | x :: r => uptoBulkEntry x + uptoBulkEntries r
def uptoBulkEntry {H : Type} : Lit × DataW H → Nat
  | (.string bytes, d) => bytes.length + uptoBulk d + 1
  | (_, d) => uptoBulk d + 1
 end
def uptoSmall : (H : Type) → List (DataW H) → Bool := fun _ ds => decide (uptoBulkAll ds ≤ 1048576)
def OpenSpec.upto (s : _root_.Go.ChangeSpec) : _root_.Go.OpenSpec := { _root_.Go.OpenSpec.ofChange s with cond := some uptoSmall }

/-- 'saturatelaw53.RefineState', WHERE WHAT IT READS IS OF BULK AT MOST 1048576: true; the input reads as it did. -/
def refineStateUptoRow : OpenClaim := { program := "ytkomfeeimdlokaadoor", sum := "a3aae3ecc7ef3f0b86aa08137dbb9df5118117c8800f565296daddb9acf1a7fb", func := "saturate/saturatelaw53.RefineState", spec := "refineState", unfollowed := true, recurses := true, named := ["saturate/isa.operations"], apart := false, laid := [("saturate/isa.operations", laid_saturate_isa_operations)], narrowed := true }
def RefineStateUptoSaid : Prop := refineStateUptoRow.holds Tryd.pinned (OpenSpec.upto refineStateSpec)

/-- 'saturatelaw53.RefineCorners', WHERE WHAT IT READS IS OF BULK AT MOST 1048576: true; the input reads as it did. -/
def refineCornersUptoRow : OpenClaim := { program := "ytkomfeeimdlokaadoor", sum := "a3aae3ecc7ef3f0b86aa08137dbb9df5118117c8800f565296daddb9acf1a7fb", func := "saturate/saturatelaw53.RefineCorners", spec := "refineCorners", unfollowed := true, recurses := true, named := ["saturate/isa.operations"], apart := false, laid := [("saturate/isa.operations", laid_saturate_isa_operations)], narrowed := true }
def RefineCornersUptoSaid : Prop := refineCornersUptoRow.holds Tryd.pinned (OpenSpec.upto refineCornersSpec)

end Rows
end Go.Proofs.YtkomfeeimdlokaaDoor
