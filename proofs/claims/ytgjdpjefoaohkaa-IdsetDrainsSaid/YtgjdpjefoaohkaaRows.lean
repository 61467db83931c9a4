/-
  No cell of these rows narrows 'for every input' (looked for: loops, veiled, ifaces, maps, wideKeys, modest, calm, conditions, laid).
  DERIVED. THE GIVEN ROWS OF THIS SEAT. 6 by the template 'for every input the law returns true; each argument reads behind the call as it read before'; 0 by the template 'total and deterministic' (their statements: YtgjdpjefoaohkaaTotals.lean).
  GIVEN WITH THE SEED: the statements are not yours to turn. If you find one false, say at which input.
  Laid BY PROGRAM, IN A SANDBOX (cutbox-rows.mjs): the forced cells as the released guide's own fill.sh prints them over the translation a75fd56c967852b0… (all of the seat's roots in one cut). By AI agents, Wed Nov 11 2026. No macro, syntax, notation, axiom, sorry.
-/
import Derived.Test.YtgjdpjefoaohkaaChecked
import GoSem.Claim
import GoSem.ClaimJoined
import GoSem.ClaimMapViews
import Derived.JoinedTies
import Derived.KernelRfl
namespace Go.Proofs.Ytgjdpjefoaohkaa
/- THE CELL 'sum', in the pinned program and in every row, IS THE sha256 OF THE DUMP (.gsa) THAT YtgjdpjefoaohkaaProg.lean LOADS. Nothing in Lean hashes anything: it is a label: what it is worth is what the hold of that sum in a sandbox is worth. -/
noncomputable def Try.pinned : Pinned := { name := "ytgjdpjefoaohkaa", sum := "a75fd56c967852b07d88a26cc62ea5f3b5f17a6db0b08909b18f06d0901ac751", checked := Try.checked }
namespace Rows
def none {H : Type} : Left H := { results := [], args := [] }

/-- 'saturatelaw03.IdsetDrains': WHATEVER THE INPUT: true; the input reads as it did. -/
def idsetDrainsSpec : ChangeSpec := { name := "idsetDrains", fn := fun _ => fun
  | [d] => { results := [.lit (.bool true)], args := [d] }
  | _ => none }
def idsetDrainsRow : OpenClaim := { program := "ytgjdpjefoaohkaa", sum := "a75fd56c967852b07d88a26cc62ea5f3b5f17a6db0b08909b18f06d0901ac751", func := "saturate/saturatelaw03.IdsetDrains", spec := "idsetDrains", inPlace := ["slices.overlaps[int]"], recurses := true, apart := false }
def IdsetDrainsSaid : Prop := idsetDrainsRow.holds Try.pinned (OpenSpec.ofChange idsetDrainsSpec)

/-- ITS FALSE NEIGHBOUR: 'it returns false'. Refute it at one input. -/
def idsetDrainsWrong : ChangeSpec := { name := "idsetDrains", fn := fun _ => fun
  | [d] => { results := [.lit (.bool false)], args := [d] }
  | _ => none }
def IdsetDrainsWrongFalsely : Prop := idsetDrainsRow.holds Try.pinned (OpenSpec.ofChange idsetDrainsWrong)

/-- 'saturatelaw03.IdsetQueue': WHATEVER THE INPUT: true; the input reads as it did. -/
def idsetQueueSpec : ChangeSpec := { name := "idsetQueue", fn := fun _ => fun
  | [d] => { results := [.lit (.bool true)], args := [d] }
  | _ => none }
def idsetQueueRow : OpenClaim := { program := "ytgjdpjefoaohkaa", sum := "a75fd56c967852b07d88a26cc62ea5f3b5f17a6db0b08909b18f06d0901ac751", func := "saturate/saturatelaw03.IdsetQueue", spec := "idsetQueue", inPlace := ["slices.overlaps[int]"], recurses := true, apart := false }
def IdsetQueueSaid : Prop := idsetQueueRow.holds Try.pinned (OpenSpec.ofChange idsetQueueSpec)

/-- ITS FALSE NEIGHBOUR: 'it returns false'. Refute it at one input. -/
def idsetQueueWrong : ChangeSpec := { name := "idsetQueue", fn := fun _ => fun
  | [d] => { results := [.lit (.bool false)], args := [d] }
  | _ => none }
def IdsetQueueWrongFalsely : Prop := idsetQueueRow.holds Try.pinned (OpenSpec.ofChange idsetQueueWrong)

/-- 'saturatelaw03.IdsetNone': WHATEVER THE INPUT: true; the input reads as it did. -/
def idsetNoneSpec : ChangeSpec := { name := "idsetNone", fn := fun _ => fun
  | [d] => { results := [.lit (.bool true)], args := [d] }
  | _ => none }
def idsetNoneRow : OpenClaim := { program := "ytgjdpjefoaohkaa", sum := "a75fd56c967852b07d88a26cc62ea5f3b5f17a6db0b08909b18f06d0901ac751", func := "saturate/saturatelaw03.IdsetNone", spec := "idsetNone", inPlace := ["slices.overlaps[int]"], recurses := true, apart := false }
def IdsetNoneSaid : Prop := idsetNoneRow.holds Try.pinned (OpenSpec.ofChange idsetNoneSpec)

/-- ITS FALSE NEIGHBOUR: 'it returns false'. Refute it at one input. -/
def idsetNoneWrong : ChangeSpec := { name := "idsetNone", fn := fun _ => fun
  | [d] => { results := [.lit (.bool false)], args := [d] }
  | _ => none }
def IdsetNoneWrongFalsely : Prop := idsetNoneRow.holds Try.pinned (OpenSpec.ofChange idsetNoneWrong)

/-- 'saturatelaw03.IdsetForms': WHATEVER THE INPUT: true; the input reads as it did. -/
def idsetFormsSpec : ChangeSpec := { name := "idsetForms", fn := fun _ => fun
  | [d1, d2] => { results := [.lit (.bool true)], args := [d1, d2] }
  | _ => none }
def idsetFormsRow : OpenClaim := { program := "ytgjdpjefoaohkaa", sum := "a75fd56c967852b07d88a26cc62ea5f3b5f17a6db0b08909b18f06d0901ac751", func := "saturate/saturatelaw03.IdsetForms", spec := "idsetForms", inPlace := ["slices.overlaps[int]"], unfollowed := true, recurses := true, apart := false }
def IdsetFormsSaid : Prop := idsetFormsRow.holds Try.pinned (OpenSpec.ofChange idsetFormsSpec)

/-- ITS FALSE NEIGHBOUR: 'it returns false'. Refute it at one input. -/
def idsetFormsWrong : ChangeSpec := { name := "idsetForms", fn := fun _ => fun
  | [d1, d2] => { results := [.lit (.bool false)], args := [d1, d2] }
  | _ => none }
def IdsetFormsWrongFalsely : Prop := idsetFormsRow.holds Try.pinned (OpenSpec.ofChange idsetFormsWrong)

/-- 'saturatelaw03.IdsetPairs': WHATEVER THE INPUT: true; the input reads as it did. -/
def idsetPairsSpec : ChangeSpec := { name := "idsetPairs", fn := fun _ => fun
  | [d1, d2] => { results := [.lit (.bool true)], args := [d1, d2] }
  | _ => none }
def idsetPairsRow : OpenClaim := { program := "ytgjdpjefoaohkaa", sum := "a75fd56c967852b07d88a26cc62ea5f3b5f17a6db0b08909b18f06d0901ac751", func := "saturate/saturatelaw03.IdsetPairs", spec := "idsetPairs", inPlace := ["slices.overlaps[int]"], unfollowed := true, recurses := true, apart := false }
def IdsetPairsSaid : Prop := idsetPairsRow.holds Try.pinned (OpenSpec.ofChange idsetPairsSpec)

/-- ITS FALSE NEIGHBOUR: 'it returns false'. Refute it at one input. -/
def idsetPairsWrong : ChangeSpec := { name := "idsetPairs", fn := fun _ => fun
  | [d1, d2] => { results := [.lit (.bool false)], args := [d1, d2] }
  | _ => none }
def IdsetPairsWrongFalsely : Prop := idsetPairsRow.holds Try.pinned (OpenSpec.ofChange idsetPairsWrong)

/-- 'saturatelaw03.IdsetLaws': WHATEVER THE INPUT: true; the input reads as it did. -/
def idsetLawsSpec : ChangeSpec := { name := "idsetLaws", fn := fun _ => fun
  | [d1, d2, d3] => { results := [.lit (.bool true)], args := [d1, d2, d3] }
  | _ => none }
def idsetLawsRow : OpenClaim := { program := "ytgjdpjefoaohkaa", sum := "a75fd56c967852b07d88a26cc62ea5f3b5f17a6db0b08909b18f06d0901ac751", func := "saturate/saturatelaw03.IdsetLaws", spec := "idsetLaws", inPlace := ["slices.overlaps[int]"], unfollowed := true, recurses := true, apart := false }
def IdsetLawsSaid : Prop := idsetLawsRow.holds Try.pinned (OpenSpec.ofChange idsetLawsSpec)

/-- ITS FALSE NEIGHBOUR: 'it returns false'. Refute it at one input. -/
def idsetLawsWrong : ChangeSpec := { name := "idsetLaws", fn := fun _ => fun
  | [d1, d2, d3] => { results := [.lit (.bool false)], args := [d1, d2, d3] }
  | _ => none }
def IdsetLawsWrongFalsely : Prop := idsetLawsRow.holds Try.pinned (OpenSpec.ofChange idsetLawsWrong)

/- THE SECOND FORM. 'bulk': how many values and letters a reading holds, each counted each time it is reached (what is shared counts as often as it is met; a slice's spare places count too). A statement '..UptoSaid' is the law's where the arguments, and the package variables that the reading takes, are together of bulk at most 1048576: NARROWER than '..Said'. Prove '..Said' where nothing that the law and all that it calls make is longer than what came in: it says more and counts as full. Else prove '..UptoSaid'. A law counts once. -/
mutual
def uptoBulk {H : Type} : DataW H → Nat
  | .lit (.string bytes) => bytes.length + 1
  | .lit _ => 1
  | .nil => 1
  | .ptr d => uptoBulk d + 1
  | .slice elems spare => uptoBulkAll elems + uptoBulkAll spare + 1
  | .agg parts => uptoBulkAll parts + 1
  | .iface _ d => uptoBulk d + 1
  | .map entries => uptoBulkEntries entries + 1
  | .held _ => 1
def uptoBulkAll {H : Type} : List (DataW H) → Nat
  | [] => 0
  | d :: r => uptoBulk d + uptoBulkAll r
def uptoBulkEntries {H : Type} : List (Lit × DataW H) → Nat
  | [] => 0
  | x :: r => uptoBulkEntry x + uptoBulkEntries r
def uptoBulkEntry {H : Type} : Lit × DataW H → Nat
  | (.string bytes, d) => bytes.length + uptoBulk d + 1
  | (_, d) => uptoBulk d + 1
 end
def uptoSmall : (H : Type) → List (DataW H) → Bool := fun _ ds => decide (uptoBulkAll ds ≤ 1048576)
def OpenSpec.upto (s : _root_.Go.ChangeSpec) : _root_.Go.OpenSpec := { _root_.Go.OpenSpec.ofChange s with cond := some uptoSmall }

/-- 'saturatelaw03.IdsetDrains', WHERE WHAT IT READS IS OF BULK AT MOST 1048576: true; the input reads as it did. -/
def idsetDrainsUptoRow : OpenClaim := { program := "ytgjdpjefoaohkaa", sum := "a75fd56c967852b07d88a26cc62ea5f3b5f17a6db0b08909b18f06d0901ac751", func := "saturate/saturatelaw03.IdsetDrains", spec := "idsetDrains", inPlace := ["slices.overlaps[int]"], recurses := true, apart := false, narrowed := true }
def IdsetDrainsUptoSaid : Prop := idsetDrainsUptoRow.holds Try.pinned (OpenSpec.upto idsetDrainsSpec)

/-- 'saturatelaw03.IdsetQueue', WHERE WHAT IT READS IS OF BULK AT MOST 1048576: true; the input reads as it did. -/
def idsetQueueUptoRow : OpenClaim := { program := "ytgjdpjefoaohkaa", sum := "a75fd56c967852b07d88a26cc62ea5f3b5f17a6db0b08909b18f06d0901ac751", func := "saturate/saturatelaw03.IdsetQueue", spec := "idsetQueue", inPlace := ["slices.overlaps[int]"], recurses := true, apart := false, narrowed := true }
def IdsetQueueUptoSaid : Prop := idsetQueueUptoRow.holds Try.pinned (OpenSpec.upto idsetQueueSpec)

/-- 'saturatelaw03.IdsetNone', WHERE WHAT IT READS IS OF BULK AT MOST 1048576: true; the input reads as it did. -/
def idsetNoneUptoRow : OpenClaim := { program := "ytgjdpjefoaohkaa", sum := "a75fd56c967852b07d88a26cc62ea5f3b5f17a6db0b08909b18f06d0901ac751", func := "saturate/saturatelaw03.IdsetNone", spec := "idsetNone", inPlace := ["slices.overlaps[int]"], recurses := true, apart := false, narrowed := true }
def IdsetNoneUptoSaid : Prop := idsetNoneUptoRow.holds Try.pinned (OpenSpec.upto idsetNoneSpec)

/-- 'saturatelaw03.IdsetForms', WHERE WHAT IT READS IS OF BULK AT MOST 1048576: true; the input reads as it did. -/
def idsetFormsUptoRow : OpenClaim := { program := "ytgjdpjefoaohkaa", sum := "a75fd56c967852b07d88a26cc62ea5f3b5f17a6db0b08909b18f06d0901ac751", func := "saturate/saturatelaw03.IdsetForms", spec := "idsetForms", inPlace := ["slices.overlaps[int]"], unfollowed := true, recurses := true, apart := false, narrowed := true }
def IdsetFormsUptoSaid : Prop := idsetFormsUptoRow.holds Try.pinned (OpenSpec.upto idsetFormsSpec)

/-- 'saturatelaw03.IdsetPairs', WHERE WHAT IT READS IS OF BULK AT MOST 1048576: true; the input reads as it did. -/
def idsetPairsUptoRow : OpenClaim := { program := "ytgjdpjefoaohkaa", sum := "a75fd56c967852b07d88a26cc62ea5f3b5f17a6db0b08909b18f06d0901ac751", func := "saturate/saturatelaw03.IdsetPairs", spec := "idsetPairs", inPlace := ["slices.overlaps[int]"], unfollowed := true, recurses := true, apart := false, narrowed := true }
def IdsetPairsUptoSaid : Prop := idsetPairsUptoRow.holds Try.pinned (OpenSpec.upto idsetPairsSpec)

/-- 'saturatelaw03.IdsetLaws', WHERE WHAT IT READS IS OF BULK AT MOST 1048576: true; the input reads as it did. -/
def idsetLawsUptoRow : OpenClaim := { program := "ytgjdpjefoaohkaa", sum := "a75fd56c967852b07d88a26cc62ea5f3b5f17a6db0b08909b18f06d0901ac751", func := "saturate/saturatelaw03.IdsetLaws", spec := "idsetLaws", inPlace := ["slices.overlaps[int]"], unfollowed := true, recurses := true, apart := false, narrowed := true }
def IdsetLawsUptoSaid : Prop := idsetLawsUptoRow.holds Try.pinned (OpenSpec.upto idsetLawsSpec)

end Rows
end Go.Proofs.Ytgjdpjefoaohkaa
