/-
  NARROWER THAN 'FOR EVERY INPUT', by the rows' own cells (each row's printed sentence says how): ProofTables: laid · ProofLong: laid · ProofTrims: loops, laid · ProofKeeps: loops, laid · ProofChecks: loops, laid.
  DERIVED. THE GIVEN ROWS OF THIS SEAT. 5 by the template 'for every input the law returns true; each argument reads behind the call as it read before'; 0 by the template 'total and deterministic' (their statements: YtgjdpjefoaohkaaDoorTotals.lean).
  GIVEN WITH THE SEED: the statements are not yours to turn. If you find one false, say at which input.
  Laid BY PROGRAM, IN A SANDBOX (cutbox-rows.mjs): the forced cells as the released guide's own fill.sh prints them over the translation 136f2b0ace0223a1… (all of the seat's roots in one cut). By AI agents, Wed Nov 11 2026. No macro, syntax, notation, axiom, sorry.
-/
import Derived.Test.YtgjdpjefoaohkaaDoorChecked
import GoSem.Claim
import GoSem.ClaimJoined
import GoSem.ClaimMapViews
import Derived.JoinedTies
import Derived.KernelRfl
namespace Go.Proofs.YtgjdpjefoaohkaaDoor
/- THE CELL 'sum', in the pinned program and in every row, IS THE sha256 OF THE DUMP (.gsa) THAT YtgjdpjefoaohkaaDoorProg.lean LOADS. Nothing in Lean hashes anything: it is a label: what it is worth is what the hold of that sum in a sandbox is worth. -/
noncomputable def Tryd.pinned : Pinned := { name := "ytgjdpjefoaohkaadoor", sum := "136f2b0ace0223a14c00fecbfc89d08167a0b12f15818c7ad674acf728b5303d", checked := Tryd.checked }
namespace Rows
def none {H : Type} : Left H := { results := [], args := [] }

/- WHAT THE LISTED PACKAGE-LEVEL VARIABLES READ AS WHEN THE CALL BEGINS. Each datum BY PROGRAM (the guide's laid-datum.mjs) off the statement by which the dump's own 'gosem.cut.vars' lays the variable. In a bare row this is a premise. The card (YtgjdpjefoaohkaaDoorCards.lean) ties it to the program's text. -/
def laid_saturate_proof_kinds {H : Type} : DataW H := .agg [.agg [.lit (.string []), .lit (.int .i64 0), .lit (.int .i64 0)], .agg [.lit (.string [114, 101, 102, 108]), .lit (.int .i64 0), .lit (.int .i64 0)], .agg [.lit (.string [115, 121, 109]), .lit (.int .i64 1), .lit (.int .i64 1)], .agg [.lit (.string [116, 114, 97, 110, 115]), .lit (.int .i64 2), .lit (.int .i64 2)], .agg [.lit (.string [99, 111, 110, 103]), .lit (.int .i64 0), .lit (.int .i64 3)], .agg [.lit (.string [114, 117, 108, 101]), .lit (.int .i64 0), .lit (.int .i64 12)], .agg [.lit (.string [102, 111, 108, 100]), .lit (.int .i64 0), .lit (.int .i64 0)], .agg [.lit (.string [116, 111, 112]), .lit (.int .i64 0), .lit (.int .i64 0)], .agg [.lit (.string [110, 111, 100, 101]), .lit (.int .i64 0), .lit (.int .i64 3)], .agg [.lit (.string [109, 101, 101, 116]), .lit (.int .i64 2), .lit (.int .i64 2)], .agg [.lit (.string [109, 111, 118, 101]), .lit (.int .i64 2), .lit (.int .i64 2)], .agg [.lit (.string [115, 105, 110, 103, 108, 101]), .lit (.int .i64 1), .lit (.int .i64 1)], .agg [.lit (.string [103, 105, 118, 101, 110]), .lit (.int .i64 0), .lit (.int .i64 0)]]

/-- 'saturatelaw34.ProofTables': WHATEVER THE INPUT: true; the input reads as it did. -/
def proofTablesSpec : ChangeSpec := { name := "proofTables", fn := fun _ => fun
  | [d] => { results := [.lit (.bool true)], args := [d] }
  | _ => none }
def proofTablesRow : OpenClaim := { program := "ytgjdpjefoaohkaadoor", sum := "136f2b0ace0223a14c00fecbfc89d08167a0b12f15818c7ad674acf728b5303d", func := "saturate/saturatelaw34.ProofTables", spec := "proofTables", recurses := true, named := ["saturate/proof.kinds"], apart := false, laid := [("saturate/proof.kinds", laid_saturate_proof_kinds)] }
def ProofTablesSaid : Prop := proofTablesRow.holds Tryd.pinned (OpenSpec.ofChange proofTablesSpec)

/-- ITS FALSE NEIGHBOUR: 'it returns false'. Refute it at one input. -/
def proofTablesWrong : ChangeSpec := { name := "proofTables", fn := fun _ => fun
  | [d] => { results := [.lit (.bool false)], args := [d] }
  | _ => none }
def ProofTablesWrongFalsely : Prop := proofTablesRow.holds Tryd.pinned (OpenSpec.ofChange proofTablesWrong)

/-- 'saturatelaw34.ProofLong': WHATEVER THE INPUT: true; the input reads as it did. -/
def proofLongSpec : ChangeSpec := { name := "proofLong", fn := fun _ => fun
  | [d] => { results := [.lit (.bool true)], args := [d] }
  | _ => none }
def proofLongRow : OpenClaim := { program := "ytgjdpjefoaohkaadoor", sum := "136f2b0ace0223a14c00fecbfc89d08167a0b12f15818c7ad674acf728b5303d", func := "saturate/saturatelaw34.ProofLong", spec := "proofLong", recurses := true, named := ["saturate/proof.kinds"], apart := false, laid := [("saturate/proof.kinds", laid_saturate_proof_kinds)] }
def ProofLongSaid : Prop := proofLongRow.holds Tryd.pinned (OpenSpec.ofChange proofLongSpec)

/-- ITS FALSE NEIGHBOUR: 'it returns false'. Refute it at one input. -/
def proofLongWrong : ChangeSpec := { name := "proofLong", fn := fun _ => fun
  | [d] => { results := [.lit (.bool false)], args := [d] }
  | _ => none }
def ProofLongWrongFalsely : Prop := proofLongRow.holds Tryd.pinned (OpenSpec.ofChange proofLongWrong)

/-- 'saturatelaw34.ProofTrims': WHATEVER THE INPUT: true; the input reads as it did. -/
def proofTrimsSpec : ChangeSpec := { name := "proofTrims", fn := fun _ => fun
  | [d1, d2] => { results := [.lit (.bool true)], args := [d1, d2] }
  | _ => none }
def proofTrimsRow : OpenClaim := { program := "ytgjdpjefoaohkaadoor", sum := "136f2b0ace0223a14c00fecbfc89d08167a0b12f15818c7ad674acf728b5303d", func := "saturate/saturatelaw34.ProofTrims", spec := "proofTrims", recurses := true, named := ["saturate/proof.kinds"], loops := true, apart := false, laid := [("saturate/proof.kinds", laid_saturate_proof_kinds)] }
def ProofTrimsSaid : Prop := proofTrimsRow.holds Tryd.pinned (OpenSpec.ofChange proofTrimsSpec)

/-- ITS FALSE NEIGHBOUR: 'it returns false'. Refute it at one input. -/
def proofTrimsWrong : ChangeSpec := { name := "proofTrims", fn := fun _ => fun
  | [d1, d2] => { results := [.lit (.bool false)], args := [d1, d2] }
  | _ => none }
def ProofTrimsWrongFalsely : Prop := proofTrimsRow.holds Tryd.pinned (OpenSpec.ofChange proofTrimsWrong)

/-- 'saturatelaw34.ProofKeeps': WHATEVER THE INPUT: true; the input reads as it did. -/
def proofKeepsSpec : ChangeSpec := { name := "proofKeeps", fn := fun _ => fun
  | [d1, d2] => { results := [.lit (.bool true)], args := [d1, d2] }
  | _ => none }
def proofKeepsRow : OpenClaim := { program := "ytgjdpjefoaohkaadoor", sum := "136f2b0ace0223a14c00fecbfc89d08167a0b12f15818c7ad674acf728b5303d", func := "saturate/saturatelaw34.ProofKeeps", spec := "proofKeeps", recurses := true, named := ["saturate/proof.kinds"], loops := true, apart := false, laid := [("saturate/proof.kinds", laid_saturate_proof_kinds)] }
def ProofKeepsSaid : Prop := proofKeepsRow.holds Tryd.pinned (OpenSpec.ofChange proofKeepsSpec)

/-- ITS FALSE NEIGHBOUR: 'it returns false'. Refute it at one input. -/
def proofKeepsWrong : ChangeSpec := { name := "proofKeeps", fn := fun _ => fun
  | [d1, d2] => { results := [.lit (.bool false)], args := [d1, d2] }
  | _ => none }
def ProofKeepsWrongFalsely : Prop := proofKeepsRow.holds Tryd.pinned (OpenSpec.ofChange proofKeepsWrong)

/-- 'saturatelaw34.ProofChecks': WHATEVER THE INPUT: true; the input reads as it did. -/
def proofChecksSpec : ChangeSpec := { name := "proofChecks", fn := fun _ => fun
  | [d1, d2] => { results := [.lit (.bool true)], args := [d1, d2] }
  | _ => none }
def proofChecksRow : OpenClaim := { program := "ytgjdpjefoaohkaadoor", sum := "136f2b0ace0223a14c00fecbfc89d08167a0b12f15818c7ad674acf728b5303d", func := "saturate/saturatelaw34.ProofChecks", spec := "proofChecks", unfollowed := true, recurses := true, named := ["saturate/proof.kinds"], loops := true, apart := false, laid := [("saturate/proof.kinds", laid_saturate_proof_kinds)] }
def ProofChecksSaid : Prop := proofChecksRow.holds Tryd.pinned (OpenSpec.ofChange proofChecksSpec)

/-- ITS FALSE NEIGHBOUR: 'it returns false'. Refute it at one input. -/
def proofChecksWrong : ChangeSpec := { name := "proofChecks", fn := fun _ => fun
  | [d1, d2] => { results := [.lit (.bool false)], args := [d1, d2] }
  | _ => none }
def ProofChecksWrongFalsely : Prop := proofChecksRow.holds Tryd.pinned (OpenSpec.ofChange proofChecksWrong)

/- THE SECOND FORM. 'bulk': how many values and letters a reading holds, each counted each time it is reached (what is shared counts as often as it is met; a slice's spare places count too). A statement '..UptoSaid' is the law's where the arguments, and the package variables that the reading takes, are together of bulk at most 1048576: NARROWER than '..Said'. Prove '..Said' where nothing that the law and all that it calls make is longer than what came in: it says more and counts as full. Else prove '..UptoSaid'. A law counts once. -/
mutual
def uptoBulk {H : Type} : DataW H → Nat
  | .lit (.string bytes) => bytes.length + 1
  | .lit _ => 1
  | .nil => 1
  | .ptr d => uptoBulk d + 1
  | .slice elems spare => uptoBulkAll elems + uptoBulkAll spare + 1
  | .agg parts => uptoBulkAll parts + 1
  | .iface _ d => uptoBulk d + 1
  | .map entries => uptoBulkEntries entries + 1
  | .held _ => 1
def uptoBulkAll {H : Type} : List (DataW H) → Nat
  | [] => 0
  | d :: r => uptoBulk d + uptoBulkAll r
def uptoBulkEntries {H : Type} : List (Lit × DataW H) → Nat
  | [] => 0
  | x :: r => uptoBulkEntry x + uptoBulkEntries r
def uptoBulkEntry {H : Type} : Lit × DataW H → Nat
  | (.string bytes, d) => bytes.length + uptoBulk d + 1
  | (_, d) => uptoBulk d + 1
 end
def uptoSmall : (H : Type) → List (DataW H) → Bool := fun _ ds => decide (uptoBulkAll ds ≤ 1048576)
def OpenSpec.upto (s : _root_.Go.ChangeSpec) : _root_.Go.OpenSpec := { _root_.Go.OpenSpec.ofChange s with cond := some uptoSmall }

/-- 'saturatelaw34.ProofTables', WHERE WHAT IT READS IS OF BULK AT MOST 1048576: true; the input reads as it did. -/
def proofTablesUptoRow : OpenClaim := { program := "ytgjdpjefoaohkaadoor", sum := "136f2b0ace0223a14c00fecbfc89d08167a0b12f15818c7ad674acf728b5303d", func := "saturate/saturatelaw34.ProofTables", spec := "proofTables", recurses := true, named := ["saturate/proof.kinds"], apart := false, laid := [("saturate/proof.kinds", laid_saturate_proof_kinds)], narrowed := true }
def ProofTablesUptoSaid : Prop := proofTablesUptoRow.holds Tryd.pinned (OpenSpec.upto proofTablesSpec)

/-- 'saturatelaw34.ProofLong', WHERE WHAT IT READS IS OF BULK AT MOST 1048576: true; the input reads as it did. -/
def proofLongUptoRow : OpenClaim := { program := "ytgjdpjefoaohkaadoor", sum := "136f2b0ace0223a14c00fecbfc89d08167a0b12f15818c7ad674acf728b5303d", func := "saturate/saturatelaw34.ProofLong", spec := "proofLong", recurses := true, named := ["saturate/proof.kinds"], apart := false, laid := [("saturate/proof.kinds", laid_saturate_proof_kinds)], narrowed := true }
def ProofLongUptoSaid : Prop := proofLongUptoRow.holds Tryd.pinned (OpenSpec.upto proofLongSpec)

/-- 'saturatelaw34.ProofTrims', WHERE WHAT IT READS IS OF BULK AT MOST 1048576: true; the input reads as it did. -/
def proofTrimsUptoRow : OpenClaim := { program := "ytgjdpjefoaohkaadoor", sum := "136f2b0ace0223a14c00fecbfc89d08167a0b12f15818c7ad674acf728b5303d", func := "saturate/saturatelaw34.ProofTrims", spec := "proofTrims", recurses := true, named := ["saturate/proof.kinds"], loops := true, apart := false, laid := [("saturate/proof.kinds", laid_saturate_proof_kinds)], narrowed := true }
def ProofTrimsUptoSaid : Prop := proofTrimsUptoRow.holds Tryd.pinned (OpenSpec.upto proofTrimsSpec)

/-- 'saturatelaw34.ProofKeeps', WHERE WHAT IT READS IS OF BULK AT MOST 1048576: true; the input reads as it did. -/
def proofKeepsUptoRow : OpenClaim := { program := "ytgjdpjefoaohkaadoor", sum := "136f2b0ace0223a14c00fecbfc89d08167a0b12f15818c7ad674acf728b5303d", func := "saturate/saturatelaw34.ProofKeeps", spec := "proofKeeps", recurses := true, named := ["saturate/proof.kinds"], loops := true, apart := false, laid := [("saturate/proof.kinds", laid_saturate_proof_kinds)], narrowed := true }
def ProofKeepsUptoSaid : Prop := proofKeepsUptoRow.holds Tryd.pinned (OpenSpec.upto proofKeepsSpec)

/-- 'saturatelaw34.ProofChecks', WHERE WHAT IT READS IS OF BULK AT MOST 1048576: true; the input reads as it did. -/
def proofChecksUptoRow : OpenClaim := { program := "ytgjdpjefoaohkaadoor", sum := "136f2b0ace0223a14c00fecbfc89d08167a0b12f15818c7ad674acf728b5303d", func := "saturate/saturatelaw34.ProofChecks", spec := "proofChecks", unfollowed := true, recurses := true, named := ["saturate/proof.kinds"], loops := true, apart := false, laid := [("saturate/proof.kinds", laid_saturate_proof_kinds)], narrowed := true }
def ProofChecksUptoSaid : Prop := proofChecksUptoRow.holds Tryd.pinned (OpenSpec.upto proofChecksSpec)

end Rows
end Go.Proofs.YtgjdpjefoaohkaaDoor
