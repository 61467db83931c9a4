/-
  NARROWER THAN 'FOR EVERY INPUT', by the rows' own cells (each row's printed sentence says how): LiveDead: laid · LiveInputs: laid · LiveRemoves: laid · LiveWindows: laid · LiveReplaces: laid · LivePuts: laid · LiveSets: laid.
  DERIVED. THE GIVEN ROWS OF THIS SEAT. 7 by the template 'for every input the law returns true; each argument reads behind the call as it read before'; 0 by the template 'total and deterministic' (their statements: YthffbnfbjjnabaaDoorTotals.lean).
  GIVEN WITH THE SEED: the statements are not yours to turn. If you find one false, say at which input.
  Laid BY PROGRAM, IN A SANDBOX (cutbox-rows.mjs): the forced cells as the released guide's own fill.sh prints them over the translation 3bffad1c754c214e… (all of the seat's roots in one cut). By AI agents, Wed Nov 11 2026. No macro, syntax, notation, axiom, sorry.
-/
import Derived.Test.YthffbnfbjjnabaaDoorChecked
import GoSem.Claim
import GoSem.ClaimJoined
import GoSem.ClaimMapViews
import Derived.JoinedTies
import Derived.KernelRfl
namespace Go.Proofs.YthffbnfbjjnabaaDoor
/- THE CELL 'sum', in the pinned program and in every row, IS THE sha256 OF THE DUMP (.gsa) THAT YthffbnfbjjnabaaDoorProg.lean LOADS. Nothing in Lean hashes anything: it is a label: what it is worth is what the hold of that sum in a sandbox is worth. -/
noncomputable def Tryd.pinned : Pinned := { name := "ythffbnfbjjnabaadoor", sum := "3bffad1c754c214eccd9b5a07098e547795738a4acda8c842d7ea79f83599e12", checked := Tryd.checked }
namespace Rows
def none {H : Type} : Left H := { results := [], args := [] }

/- WHAT THE LISTED PACKAGE-LEVEL VARIABLES READ AS WHEN THE CALL BEGINS. Each datum BY PROGRAM (the guide's laid-datum.mjs) off the statement by which the dump's own 'gosem.cut.vars' lays the variable. In a bare row this is a premise. The card (YthffbnfbjjnabaaDoorCards.lean) ties it to the program's text. -/
def laid_saturate_isa_operations {H : Type} : DataW H := .agg [.agg [.lit (.string [110, 111, 112]), .lit (.int .i64 0)], .agg [.lit (.string [109, 111, 118, 105]), .lit (.int .i64 0)], .agg [.lit (.string [109, 111, 118]), .lit (.int .i64 1)], .agg [.lit (.string [110, 111, 116]), .lit (.int .i64 1)], .agg [.lit (.string [110, 101, 103]), .lit (.int .i64 1)], .agg [.lit (.string [97, 110, 100]), .lit (.int .i64 2)], .agg [.lit (.string [111, 114]), .lit (.int .i64 2)], .agg [.lit (.string [120, 111, 114]), .lit (.int .i64 2)], .agg [.lit (.string [97, 100, 100]), .lit (.int .i64 2)], .agg [.lit (.string [115, 117, 98]), .lit (.int .i64 2)], .agg [.lit (.string [109, 117, 108]), .lit (.int .i64 2)], .agg [.lit (.string [100, 105, 118]), .lit (.int .i64 2)], .agg [.lit (.string [114, 101, 109]), .lit (.int .i64 2)], .agg [.lit (.string [115, 104, 108]), .lit (.int .i64 2)], .agg [.lit (.string [115, 104, 114]), .lit (.int .i64 2)], .agg [.lit (.string [115, 97, 114]), .lit (.int .i64 2)], .agg [.lit (.string [101, 113]), .lit (.int .i64 2)], .agg [.lit (.string [117, 108, 116]), .lit (.int .i64 2)], .agg [.lit (.string [115, 108, 116]), .lit (.int .i64 2)], .agg [.lit (.string [115, 101, 108]), .lit (.int .i64 3)]]

/-- 'saturatelaw50.LiveDead': WHATEVER THE INPUT: true; the input reads as it did. -/
def liveDeadSpec : ChangeSpec := { name := "liveDead", fn := fun _ => fun
  | [d1, d2] => { results := [.lit (.bool true)], args := [d1, d2] }
  | _ => none }
def liveDeadRow : OpenClaim := { program := "ythffbnfbjjnabaadoor", sum := "3bffad1c754c214eccd9b5a07098e547795738a4acda8c842d7ea79f83599e12", func := "saturate/saturatelaw50.LiveDead", spec := "liveDead", unfollowed := true, recurses := true, named := ["saturate/isa.operations"], apart := false, laid := [("saturate/isa.operations", laid_saturate_isa_operations)] }
def LiveDeadSaid : Prop := liveDeadRow.holds Tryd.pinned (OpenSpec.ofChange liveDeadSpec)

/-- ITS FALSE NEIGHBOUR: 'it returns false'. Refute it at one input. -/
def liveDeadWrong : ChangeSpec := { name := "liveDead", fn := fun _ => fun
  | [d1, d2] => { results := [.lit (.bool false)], args := [d1, d2] }
  | _ => none }
def LiveDeadWrongFalsely : Prop := liveDeadRow.holds Tryd.pinned (OpenSpec.ofChange liveDeadWrong)

/-- 'saturatelaw50.LiveInputs': WHATEVER THE INPUT: true; the input reads as it did. -/
def liveInputsSpec : ChangeSpec := { name := "liveInputs", fn := fun _ => fun
  | [d1, d2, d3] => { results := [.lit (.bool true)], args := [d1, d2, d3] }
  | _ => none }
def liveInputsRow : OpenClaim := { program := "ythffbnfbjjnabaadoor", sum := "3bffad1c754c214eccd9b5a07098e547795738a4acda8c842d7ea79f83599e12", func := "saturate/saturatelaw50.LiveInputs", spec := "liveInputs", unfollowed := true, recurses := true, named := ["saturate/isa.operations"], apart := false, laid := [("saturate/isa.operations", laid_saturate_isa_operations)] }
def LiveInputsSaid : Prop := liveInputsRow.holds Tryd.pinned (OpenSpec.ofChange liveInputsSpec)

/-- ITS FALSE NEIGHBOUR: 'it returns false'. Refute it at one input. -/
def liveInputsWrong : ChangeSpec := { name := "liveInputs", fn := fun _ => fun
  | [d1, d2, d3] => { results := [.lit (.bool false)], args := [d1, d2, d3] }
  | _ => none }
def LiveInputsWrongFalsely : Prop := liveInputsRow.holds Tryd.pinned (OpenSpec.ofChange liveInputsWrong)

/-- 'saturatelaw50.LiveRemoves': WHATEVER THE INPUT: true; the input reads as it did. -/
def liveRemovesSpec : ChangeSpec := { name := "liveRemoves", fn := fun _ => fun
  | [d1, d2] => { results := [.lit (.bool true)], args := [d1, d2] }
  | _ => none }
def liveRemovesRow : OpenClaim := { program := "ythffbnfbjjnabaadoor", sum := "3bffad1c754c214eccd9b5a07098e547795738a4acda8c842d7ea79f83599e12", func := "saturate/saturatelaw50.LiveRemoves", spec := "liveRemoves", unfollowed := true, recurses := true, named := ["saturate/isa.operations"], apart := false, laid := [("saturate/isa.operations", laid_saturate_isa_operations)] }
def LiveRemovesSaid : Prop := liveRemovesRow.holds Tryd.pinned (OpenSpec.ofChange liveRemovesSpec)

/-- ITS FALSE NEIGHBOUR: 'it returns false'. Refute it at one input. -/
def liveRemovesWrong : ChangeSpec := { name := "liveRemoves", fn := fun _ => fun
  | [d1, d2] => { results := [.lit (.bool false)], args := [d1, d2] }
  | _ => none }
def LiveRemovesWrongFalsely : Prop := liveRemovesRow.holds Tryd.pinned (OpenSpec.ofChange liveRemovesWrong)

/-- 'saturatelaw50.LiveWindows': WHATEVER THE INPUT: true; the input reads as it did. -/
def liveWindowsSpec : ChangeSpec := { name := "liveWindows", fn := fun _ => fun
  | [d1, d2, d3] => { results := [.lit (.bool true)], args := [d1, d2, d3] }
  | _ => none }
def liveWindowsRow : OpenClaim := { program := "ythffbnfbjjnabaadoor", sum := "3bffad1c754c214eccd9b5a07098e547795738a4acda8c842d7ea79f83599e12", func := "saturate/saturatelaw50.LiveWindows", spec := "liveWindows", unfollowed := true, recurses := true, named := ["saturate/isa.operations"], apart := false, laid := [("saturate/isa.operations", laid_saturate_isa_operations)] }
def LiveWindowsSaid : Prop := liveWindowsRow.holds Tryd.pinned (OpenSpec.ofChange liveWindowsSpec)

/-- ITS FALSE NEIGHBOUR: 'it returns false'. Refute it at one input. -/
def liveWindowsWrong : ChangeSpec := { name := "liveWindows", fn := fun _ => fun
  | [d1, d2, d3] => { results := [.lit (.bool false)], args := [d1, d2, d3] }
  | _ => none }
def LiveWindowsWrongFalsely : Prop := liveWindowsRow.holds Tryd.pinned (OpenSpec.ofChange liveWindowsWrong)

/-- 'saturatelaw50.LiveReplaces': WHATEVER THE INPUT: true; the input reads as it did. -/
def liveReplacesSpec : ChangeSpec := { name := "liveReplaces", fn := fun _ => fun
  | [d1, d2, d3] => { results := [.lit (.bool true)], args := [d1, d2, d3] }
  | _ => none }
def liveReplacesRow : OpenClaim := { program := "ythffbnfbjjnabaadoor", sum := "3bffad1c754c214eccd9b5a07098e547795738a4acda8c842d7ea79f83599e12", func := "saturate/saturatelaw50.LiveReplaces", spec := "liveReplaces", unfollowed := true, recurses := true, named := ["saturate/isa.operations"], apart := false, laid := [("saturate/isa.operations", laid_saturate_isa_operations)] }
def LiveReplacesSaid : Prop := liveReplacesRow.holds Tryd.pinned (OpenSpec.ofChange liveReplacesSpec)

/-- ITS FALSE NEIGHBOUR: 'it returns false'. Refute it at one input. -/
def liveReplacesWrong : ChangeSpec := { name := "liveReplaces", fn := fun _ => fun
  | [d1, d2, d3] => { results := [.lit (.bool false)], args := [d1, d2, d3] }
  | _ => none }
def LiveReplacesWrongFalsely : Prop := liveReplacesRow.holds Tryd.pinned (OpenSpec.ofChange liveReplacesWrong)

/-- 'saturatelaw50.LivePuts': WHATEVER THE INPUT: true; the input reads as it did. -/
def livePutsSpec : ChangeSpec := { name := "livePuts", fn := fun _ => fun
  | [d1, d2, d3] => { results := [.lit (.bool true)], args := [d1, d2, d3] }
  | _ => none }
def livePutsRow : OpenClaim := { program := "ythffbnfbjjnabaadoor", sum := "3bffad1c754c214eccd9b5a07098e547795738a4acda8c842d7ea79f83599e12", func := "saturate/saturatelaw50.LivePuts", spec := "livePuts", unfollowed := true, recurses := true, named := ["saturate/isa.operations"], apart := false, laid := [("saturate/isa.operations", laid_saturate_isa_operations)] }
def LivePutsSaid : Prop := livePutsRow.holds Tryd.pinned (OpenSpec.ofChange livePutsSpec)

/-- ITS FALSE NEIGHBOUR: 'it returns false'. Refute it at one input. -/
def livePutsWrong : ChangeSpec := { name := "livePuts", fn := fun _ => fun
  | [d1, d2, d3] => { results := [.lit (.bool false)], args := [d1, d2, d3] }
  | _ => none }
def LivePutsWrongFalsely : Prop := livePutsRow.holds Tryd.pinned (OpenSpec.ofChange livePutsWrong)

/-- 'saturatelaw50.LiveSets': WHATEVER THE INPUT: true; the input reads as it did. -/
def liveSetsSpec : ChangeSpec := { name := "liveSets", fn := fun _ => fun
  | [d1, d2] => { results := [.lit (.bool true)], args := [d1, d2] }
  | _ => none }
def liveSetsRow : OpenClaim := { program := "ythffbnfbjjnabaadoor", sum := "3bffad1c754c214eccd9b5a07098e547795738a4acda8c842d7ea79f83599e12", func := "saturate/saturatelaw50.LiveSets", spec := "liveSets", unfollowed := true, recurses := true, named := ["saturate/isa.operations"], apart := false, laid := [("saturate/isa.operations", laid_saturate_isa_operations)] }
def LiveSetsSaid : Prop := liveSetsRow.holds Tryd.pinned (OpenSpec.ofChange liveSetsSpec)

/-- ITS FALSE NEIGHBOUR: 'it returns false'. Refute it at one input. -/
def liveSetsWrong : ChangeSpec := { name := "liveSets", fn := fun _ => fun
  | [d1, d2] => { results := [.lit (.bool false)], args := [d1, d2] }
  | _ => none }
def LiveSetsWrongFalsely : Prop := liveSetsRow.holds Tryd.pinned (OpenSpec.ofChange liveSetsWrong)

/- THE SECOND FORM. 'bulk': how many values and letters a reading holds, each counted each time it is reached (what is shared counts as often as it is met; a slice's spare places count too). A statement '..UptoSaid' is the law's where the arguments, and the package variables that the reading takes, are together of bulk at most 1048576: NARROWER than '..Said'. Prove '..Said' where nothing that the law and all that it calls make is longer than what came in: it says more and counts as full. Else prove '..UptoSaid'. A law counts once. -/
mutual
def uptoBulk {H : Type} : DataW H → Nat
  | .lit (.string bytes) => bytes.length + 1
  | .lit _ => 1
  | .nil => 1
  | .ptr d => uptoBulk d + 1
  | .slice elems spare => uptoBulkAll elems + uptoBulkAll spare + 1
  | .agg parts => uptoBulkAll parts + 1
  | .iface _ d => uptoBulk d + 1
  | .map entries => uptoBulkEntries entries + 1
  | .held _ => 1
def uptoBulkAll {H : Type} : List (DataW H) → Nat
  | [] => 0
  | d :: r => uptoBulk d + uptoBulkAll r
def uptoBulkEntries {H : Type} : List (Lit × DataW H) → Nat
  | [] => 0
  | x :: r => uptoBulkEntry x + uptoBulkEntries r
def uptoBulkEntry {H : Type} : Lit × DataW H → Nat
  | (.string bytes, d) => bytes.length + uptoBulk d + 1
  | (_, d) => uptoBulk d + 1
 end
def uptoSmall : (H : Type) → List (DataW H) → Bool := fun _ ds => decide (uptoBulkAll ds ≤ 1048576)
def OpenSpec.upto (s : _root_.Go.ChangeSpec) : _root_.Go.OpenSpec := { _root_.Go.OpenSpec.ofChange s with cond := some uptoSmall }

/-- 'saturatelaw50.LiveDead', WHERE WHAT IT READS IS OF BULK AT MOST 1048576: true; the input reads as it did. -/
def liveDeadUptoRow : OpenClaim := { program := "ythffbnfbjjnabaadoor", sum := "3bffad1c754c214eccd9b5a07098e547795738a4acda8c842d7ea79f83599e12", func := "saturate/saturatelaw50.LiveDead", spec := "liveDead", unfollowed := true, recurses := true, named := ["saturate/isa.operations"], apart := false, laid := [("saturate/isa.operations", laid_saturate_isa_operations)], narrowed := true }
def LiveDeadUptoSaid : Prop := liveDeadUptoRow.holds Tryd.pinned (OpenSpec.upto liveDeadSpec)

/-- 'saturatelaw50.LiveInputs', WHERE WHAT IT READS IS OF BULK AT MOST 1048576: true; the input reads as it did. -/
def liveInputsUptoRow : OpenClaim := { program := "ythffbnfbjjnabaadoor", sum := "3bffad1c754c214eccd9b5a07098e547795738a4acda8c842d7ea79f83599e12", func := "saturate/saturatelaw50.LiveInputs", spec := "liveInputs", unfollowed := true, recurses := true, named := ["saturate/isa.operations"], apart := false, laid := [("saturate/isa.operations", laid_saturate_isa_operations)], narrowed := true }
def LiveInputsUptoSaid : Prop := liveInputsUptoRow.holds Tryd.pinned (OpenSpec.upto liveInputsSpec)

/-- 'saturatelaw50.LiveRemoves', WHERE WHAT IT READS IS OF BULK AT MOST 1048576: true; the input reads as it did. -/
def liveRemovesUptoRow : OpenClaim := { program := "ythffbnfbjjnabaadoor", sum := "3bffad1c754c214eccd9b5a07098e547795738a4acda8c842d7ea79f83599e12", func := "saturate/saturatelaw50.LiveRemoves", spec := "liveRemoves", unfollowed := true, recurses := true, named := ["saturate/isa.operations"], apart := false, laid := [("saturate/isa.operations", laid_saturate_isa_operations)], narrowed := true }
def LiveRemovesUptoSaid : Prop := liveRemovesUptoRow.holds Tryd.pinned (OpenSpec.upto liveRemovesSpec)

/-- 'saturatelaw50.LiveWindows', WHERE WHAT IT READS IS OF BULK AT MOST 1048576: true; the input reads as it did. -/
def liveWindowsUptoRow : OpenClaim := { program := "ythffbnfbjjnabaadoor", sum := "3bffad1c754c214eccd9b5a07098e547795738a4acda8c842d7ea79f83599e12", func := "saturate/saturatelaw50.LiveWindows", spec := "liveWindows", unfollowed := true, recurses := true, named := ["saturate/isa.operations"], apart := false, laid := [("saturate/isa.operations", laid_saturate_isa_operations)], narrowed := true }
def LiveWindowsUptoSaid : Prop := liveWindowsUptoRow.holds Tryd.pinned (OpenSpec.upto liveWindowsSpec)

/-- 'saturatelaw50.LiveReplaces', WHERE WHAT IT READS IS OF BULK AT MOST 1048576: true; the input reads as it did. -/
def liveReplacesUptoRow : OpenClaim := { program := "ythffbnfbjjnabaadoor", sum := "3bffad1c754c214eccd9b5a07098e547795738a4acda8c842d7ea79f83599e12", func := "saturate/saturatelaw50.LiveReplaces", spec := "liveReplaces", unfollowed := true, recurses := true, named := ["saturate/isa.operations"], apart := false, laid := [("saturate/isa.operations", laid_saturate_isa_operations)], narrowed := true }
def LiveReplacesUptoSaid : Prop := liveReplacesUptoRow.holds Tryd.pinned (OpenSpec.upto liveReplacesSpec)

/-- 'saturatelaw50.LivePuts', WHERE WHAT IT READS IS OF BULK AT MOST 1048576: true; the input reads as it did. -/
def livePutsUptoRow : OpenClaim := { program := "ythffbnfbjjnabaadoor", sum := "3bffad1c754c214eccd9b5a07098e547795738a4acda8c842d7ea79f83599e12", func := "saturate/saturatelaw50.LivePuts", spec := "livePuts", unfollowed := true, recurses := true, named := ["saturate/isa.operations"], apart := false, laid := [("saturate/isa.operations", laid_saturate_isa_operations)], narrowed := true }
def LivePutsUptoSaid : Prop := livePutsUptoRow.holds Tryd.pinned (OpenSpec.upto livePutsSpec)

/-- 'saturatelaw50.LiveSets', WHERE WHAT IT READS IS OF BULK AT MOST 1048576: true; the input reads as it did. -/
def liveSetsUptoRow : OpenClaim := { program := "ythffbnfbjjnabaadoor", sum := "3bffad1c754c214eccd9b5a07098e547795738a4acda8c842d7ea79f83599e12", func := "saturate/saturatelaw50.LiveSets", spec := "liveSets", unfollowed := true, recurses := true, named := ["saturate/isa.operations"], apart := false, laid := [("saturate/isa.operations", laid_saturate_isa_operations)], narrowed := true }
def LiveSetsUptoSaid : Prop := liveSetsUptoRow.holds Tryd.pinned (OpenSpec.upto liveSetsSpec)

end Rows
end Go.Proofs.YthffbnfbjjnabaaDoor
