/-
  No cell of these rows narrows 'for every input' (looked for: loops, veiled, ifaces, maps, wideKeys, modest, calm, conditions, laid).
  DERIVED. THE GIVEN ROWS OF THIS SEAT. 11 by the template 'for every input the law returns true; each argument reads behind the call as it read before'; 0 by the template 'total and deterministic' (their statements: YtcefenlblnediaaTotals.lean).
  GIVEN WITH THE SEED: the statements are not yours to turn. If you find one false, say at which input.
  Laid BY PROGRAM, IN A SANDBOX (cutbox-rows.mjs): the forced cells as the released guide's own fill.sh prints them over the translation a4a5eaf220ac2b4e… (all of the seat's roots in one cut). By AI agents, Wed Nov 11 2026. No macro, syntax, notation, axiom, sorry.
-/
import Derived.Test.YtcefenlblnediaaChecked
import GoSem.Claim
import GoSem.ClaimJoined
import GoSem.ClaimMapViews
import Derived.JoinedTies
import Derived.KernelRfl
namespace Go.Proofs.Ytcefenlblnediaa
/- THE CELL 'sum', in the pinned program and in every row, IS THE sha256 OF THE DUMP (.gsa) THAT YtcefenlblnediaaProg.lean LOADS. Nothing in Lean hashes anything: it is a label: what it is worth is what the hold of that sum in a sandbox is worth. -/
noncomputable def Try.pinned : Pinned := { name := "ytcefenlblnediaa", sum := "a4a5eaf220ac2b4ee206b2ab75f1181a45b2f1805a01a3a456a770d36723172d", checked := Try.checked }
namespace Rows
def none {H : Type} : Left H := { results := [], args := [] }

/-- 'laws.FnExactTextOf': WHATEVER THE INPUT: true; the input reads as it did. -/
def fnExactTextOfSpec : ChangeSpec := { name := "fnExactTextOf", fn := fun _ => fun
  | [d] => { results := [.lit (.bool true)], args := [d] }
  | _ => none }
def fnExactTextOfRow : OpenClaim := { program := "ytcefenlblnediaa", sum := "a4a5eaf220ac2b4ee206b2ab75f1181a45b2f1805a01a3a456a770d36723172d", func := "loop.example/g00825/laws.FnExactTextOf", spec := "fnExactTextOf", inPlace := ["internal/bytealg.IndexByteString", "internal/bytealg.IndexString", "internal/abi.NoEscape", "internal/bytealg.MakeNoZero"], unfollowed := true, recurses := true, named := ["internal/bytealg.MaxLen"], apart := false }
def FnExactTextOfSaid : Prop := fnExactTextOfRow.holds Try.pinned (OpenSpec.ofChange fnExactTextOfSpec)

/-- ITS FALSE NEIGHBOUR: 'it returns false'. Refute it at one input. -/
def fnExactTextOfWrong : ChangeSpec := { name := "fnExactTextOf", fn := fun _ => fun
  | [d] => { results := [.lit (.bool false)], args := [d] }
  | _ => none }
def FnExactTextOfWrongFalsely : Prop := fnExactTextOfRow.holds Try.pinned (OpenSpec.ofChange fnExactTextOfWrong)

/-- 'laws.FnExactWidthOf': WHATEVER THE INPUT: true; the input reads as it did. -/
def fnExactWidthOfSpec : ChangeSpec := { name := "fnExactWidthOf", fn := fun _ => fun
  | [d] => { results := [.lit (.bool true)], args := [d] }
  | _ => none }
def fnExactWidthOfRow : OpenClaim := { program := "ytcefenlblnediaa", sum := "a4a5eaf220ac2b4ee206b2ab75f1181a45b2f1805a01a3a456a770d36723172d", func := "loop.example/g00825/laws.FnExactWidthOf", spec := "fnExactWidthOf", inPlace := ["internal/bytealg.IndexByteString", "internal/bytealg.IndexString"], unfollowed := true, recurses := true, named := ["internal/bytealg.MaxLen"], apart := false }
def FnExactWidthOfSaid : Prop := fnExactWidthOfRow.holds Try.pinned (OpenSpec.ofChange fnExactWidthOfSpec)

/-- ITS FALSE NEIGHBOUR: 'it returns false'. Refute it at one input. -/
def fnExactWidthOfWrong : ChangeSpec := { name := "fnExactWidthOf", fn := fun _ => fun
  | [d] => { results := [.lit (.bool false)], args := [d] }
  | _ => none }
def FnExactWidthOfWrongFalsely : Prop := fnExactWidthOfRow.holds Try.pinned (OpenSpec.ofChange fnExactWidthOfWrong)

/-- 'laws.FnExactJoinHunks': WHATEVER THE INPUT: true; the input reads as it did. -/
def fnExactJoinHunksSpec : ChangeSpec := { name := "fnExactJoinHunks", fn := fun _ => fun
  | [d1, d2, d3] => { results := [.lit (.bool true)], args := [d1, d2, d3] }
  | _ => none }
def fnExactJoinHunksRow : OpenClaim := { program := "ytcefenlblnediaa", sum := "a4a5eaf220ac2b4ee206b2ab75f1181a45b2f1805a01a3a456a770d36723172d", func := "loop.example/g00825/laws.FnExactJoinHunks", spec := "fnExactJoinHunks", inPlace := ["internal/bytealg.IndexByteString", "internal/bytealg.IndexString"], unfollowed := true, recurses := true, named := ["internal/bytealg.MaxLen"], apart := false }
def FnExactJoinHunksSaid : Prop := fnExactJoinHunksRow.holds Try.pinned (OpenSpec.ofChange fnExactJoinHunksSpec)

/-- ITS FALSE NEIGHBOUR: 'it returns false'. Refute it at one input. -/
def fnExactJoinHunksWrong : ChangeSpec := { name := "fnExactJoinHunks", fn := fun _ => fun
  | [d1, d2, d3] => { results := [.lit (.bool false)], args := [d1, d2, d3] }
  | _ => none }
def FnExactJoinHunksWrongFalsely : Prop := fnExactJoinHunksRow.holds Try.pinned (OpenSpec.ofChange fnExactJoinHunksWrong)

/-- 'laws.FnJoined': WHATEVER THE INPUT: true; the input reads as it did. -/
def fnJoinedSpec : ChangeSpec := { name := "fnJoined", fn := fun _ => fun
  | [d1, d2] => { results := [.lit (.bool true)], args := [d1, d2] }
  | _ => none }
def fnJoinedRow : OpenClaim := { program := "ytcefenlblnediaa", sum := "a4a5eaf220ac2b4ee206b2ab75f1181a45b2f1805a01a3a456a770d36723172d", func := "loop.example/g00825/laws.FnJoined", spec := "fnJoined", inPlace := ["internal/bytealg.IndexByteString", "internal/bytealg.IndexString"], unfollowed := true, recurses := true, named := ["internal/bytealg.MaxLen"], apart := false }
def FnJoinedSaid : Prop := fnJoinedRow.holds Try.pinned (OpenSpec.ofChange fnJoinedSpec)

/-- ITS FALSE NEIGHBOUR: 'it returns false'. Refute it at one input. -/
def fnJoinedWrong : ChangeSpec := { name := "fnJoined", fn := fun _ => fun
  | [d1, d2] => { results := [.lit (.bool false)], args := [d1, d2] }
  | _ => none }
def FnJoinedWrongFalsely : Prop := fnJoinedRow.holds Try.pinned (OpenSpec.ofChange fnJoinedWrong)

/-- 'laws.FnTrimmed': WHATEVER THE INPUT: true; the input reads as it did. -/
def fnTrimmedSpec : ChangeSpec := { name := "fnTrimmed", fn := fun _ => fun
  | [d1, d2] => { results := [.lit (.bool true)], args := [d1, d2] }
  | _ => none }
def fnTrimmedRow : OpenClaim := { program := "ytcefenlblnediaa", sum := "a4a5eaf220ac2b4ee206b2ab75f1181a45b2f1805a01a3a456a770d36723172d", func := "loop.example/g00825/laws.FnTrimmed", spec := "fnTrimmed", inPlace := ["internal/bytealg.IndexByteString", "internal/bytealg.IndexString"], unfollowed := true, recurses := true, named := ["internal/bytealg.MaxLen"], apart := false }
def FnTrimmedSaid : Prop := fnTrimmedRow.holds Try.pinned (OpenSpec.ofChange fnTrimmedSpec)

/-- ITS FALSE NEIGHBOUR: 'it returns false'. Refute it at one input. -/
def fnTrimmedWrong : ChangeSpec := { name := "fnTrimmed", fn := fun _ => fun
  | [d1, d2] => { results := [.lit (.bool false)], args := [d1, d2] }
  | _ => none }
def FnTrimmedWrongFalsely : Prop := fnTrimmedRow.holds Try.pinned (OpenSpec.ofChange fnTrimmedWrong)

/-- 'laws.FnPatches': WHATEVER THE INPUT: true; the input reads as it did. -/
def fnPatchesSpec : ChangeSpec := { name := "fnPatches", fn := fun _ => fun
  | [d1, d2] => { results := [.lit (.bool true)], args := [d1, d2] }
  | _ => none }
def fnPatchesRow : OpenClaim := { program := "ytcefenlblnediaa", sum := "a4a5eaf220ac2b4ee206b2ab75f1181a45b2f1805a01a3a456a770d36723172d", func := "loop.example/g00825/laws.FnPatches", spec := "fnPatches", inPlace := ["internal/bytealg.IndexByteString", "internal/bytealg.IndexString"], unfollowed := true, recurses := true, named := ["internal/bytealg.MaxLen"], apart := false }
def FnPatchesSaid : Prop := fnPatchesRow.holds Try.pinned (OpenSpec.ofChange fnPatchesSpec)

/-- ITS FALSE NEIGHBOUR: 'it returns false'. Refute it at one input. -/
def fnPatchesWrong : ChangeSpec := { name := "fnPatches", fn := fun _ => fun
  | [d1, d2] => { results := [.lit (.bool false)], args := [d1, d2] }
  | _ => none }
def FnPatchesWrongFalsely : Prop := fnPatchesRow.holds Try.pinned (OpenSpec.ofChange fnPatchesWrong)

/-- 'laws.FnExactGroupsOf': WHATEVER THE INPUT: true; the input reads as it did. -/
def fnExactGroupsOfSpec : ChangeSpec := { name := "fnExactGroupsOf", fn := fun _ => fun
  | [d1, d2, d3] => { results := [.lit (.bool true)], args := [d1, d2, d3] }
  | _ => none }
def fnExactGroupsOfRow : OpenClaim := { program := "ytcefenlblnediaa", sum := "a4a5eaf220ac2b4ee206b2ab75f1181a45b2f1805a01a3a456a770d36723172d", func := "loop.example/g00825/laws.FnExactGroupsOf", spec := "fnExactGroupsOf", inPlace := ["internal/bytealg.IndexByteString", "internal/bytealg.IndexString"], unfollowed := true, recurses := true, named := ["internal/bytealg.MaxLen"], apart := false }
def FnExactGroupsOfSaid : Prop := fnExactGroupsOfRow.holds Try.pinned (OpenSpec.ofChange fnExactGroupsOfSpec)

/-- ITS FALSE NEIGHBOUR: 'it returns false'. Refute it at one input. -/
def fnExactGroupsOfWrong : ChangeSpec := { name := "fnExactGroupsOf", fn := fun _ => fun
  | [d1, d2, d3] => { results := [.lit (.bool false)], args := [d1, d2, d3] }
  | _ => none }
def FnExactGroupsOfWrongFalsely : Prop := fnExactGroupsOfRow.holds Try.pinned (OpenSpec.ofChange fnExactGroupsOfWrong)

/-- 'laws.FnExactStepsHunks': WHATEVER THE INPUT: true; the input reads as it did. -/
def fnExactStepsHunksSpec : ChangeSpec := { name := "fnExactStepsHunks", fn := fun _ => fun
  | [d1, d2] => { results := [.lit (.bool true)], args := [d1, d2] }
  | _ => none }
def fnExactStepsHunksRow : OpenClaim := { program := "ytcefenlblnediaa", sum := "a4a5eaf220ac2b4ee206b2ab75f1181a45b2f1805a01a3a456a770d36723172d", func := "loop.example/g00825/laws.FnExactStepsHunks", spec := "fnExactStepsHunks", inPlace := ["internal/bytealg.IndexByteString", "internal/bytealg.IndexString"], unfollowed := true, recurses := true, named := ["internal/bytealg.MaxLen"], apart := false }
def FnExactStepsHunksSaid : Prop := fnExactStepsHunksRow.holds Try.pinned (OpenSpec.ofChange fnExactStepsHunksSpec)

/-- ITS FALSE NEIGHBOUR: 'it returns false'. Refute it at one input. -/
def fnExactStepsHunksWrong : ChangeSpec := { name := "fnExactStepsHunks", fn := fun _ => fun
  | [d1, d2] => { results := [.lit (.bool false)], args := [d1, d2] }
  | _ => none }
def FnExactStepsHunksWrongFalsely : Prop := fnExactStepsHunksRow.holds Try.pinned (OpenSpec.ofChange fnExactStepsHunksWrong)

/-- 'laws.FnExactApplySteps': WHATEVER THE INPUT: true; the input reads as it did. -/
def fnExactApplyStepsSpec : ChangeSpec := { name := "fnExactApplySteps", fn := fun _ => fun
  | [d1, d2] => { results := [.lit (.bool true)], args := [d1, d2] }
  | _ => none }
def fnExactApplyStepsRow : OpenClaim := { program := "ytcefenlblnediaa", sum := "a4a5eaf220ac2b4ee206b2ab75f1181a45b2f1805a01a3a456a770d36723172d", func := "loop.example/g00825/laws.FnExactApplySteps", spec := "fnExactApplySteps", inPlace := ["internal/bytealg.IndexByteString", "internal/bytealg.IndexString"], unfollowed := true, recurses := true, named := ["internal/bytealg.MaxLen"], apart := false }
def FnExactApplyStepsSaid : Prop := fnExactApplyStepsRow.holds Try.pinned (OpenSpec.ofChange fnExactApplyStepsSpec)

/-- ITS FALSE NEIGHBOUR: 'it returns false'. Refute it at one input. -/
def fnExactApplyStepsWrong : ChangeSpec := { name := "fnExactApplySteps", fn := fun _ => fun
  | [d1, d2] => { results := [.lit (.bool false)], args := [d1, d2] }
  | _ => none }
def FnExactApplyStepsWrongFalsely : Prop := fnExactApplyStepsRow.holds Try.pinned (OpenSpec.ofChange fnExactApplyStepsWrong)

/-- 'laws.FnExactSplitGroup': WHATEVER THE INPUT: true; the input reads as it did. -/
def fnExactSplitGroupSpec : ChangeSpec := { name := "fnExactSplitGroup", fn := fun _ => fun
  | [d1, d2] => { results := [.lit (.bool true)], args := [d1, d2] }
  | _ => none }
def fnExactSplitGroupRow : OpenClaim := { program := "ytcefenlblnediaa", sum := "a4a5eaf220ac2b4ee206b2ab75f1181a45b2f1805a01a3a456a770d36723172d", func := "loop.example/g00825/laws.FnExactSplitGroup", spec := "fnExactSplitGroup", inPlace := ["internal/bytealg.IndexByteString", "internal/bytealg.IndexString"], unfollowed := true, recurses := true, named := ["internal/bytealg.MaxLen"], apart := false }
def FnExactSplitGroupSaid : Prop := fnExactSplitGroupRow.holds Try.pinned (OpenSpec.ofChange fnExactSplitGroupSpec)

/-- ITS FALSE NEIGHBOUR: 'it returns false'. Refute it at one input. -/
def fnExactSplitGroupWrong : ChangeSpec := { name := "fnExactSplitGroup", fn := fun _ => fun
  | [d1, d2] => { results := [.lit (.bool false)], args := [d1, d2] }
  | _ => none }
def FnExactSplitGroupWrongFalsely : Prop := fnExactSplitGroupRow.holds Try.pinned (OpenSpec.ofChange fnExactSplitGroupWrong)

/-- 'laws.FnExactGroupHunks': WHATEVER THE INPUT: true; the input reads as it did. -/
def fnExactGroupHunksSpec : ChangeSpec := { name := "fnExactGroupHunks", fn := fun _ => fun
  | [d1, d2] => { results := [.lit (.bool true)], args := [d1, d2] }
  | _ => none }
def fnExactGroupHunksRow : OpenClaim := { program := "ytcefenlblnediaa", sum := "a4a5eaf220ac2b4ee206b2ab75f1181a45b2f1805a01a3a456a770d36723172d", func := "loop.example/g00825/laws.FnExactGroupHunks", spec := "fnExactGroupHunks", inPlace := ["internal/bytealg.IndexByteString", "internal/bytealg.IndexString"], unfollowed := true, recurses := true, named := ["internal/bytealg.MaxLen"], apart := false }
def FnExactGroupHunksSaid : Prop := fnExactGroupHunksRow.holds Try.pinned (OpenSpec.ofChange fnExactGroupHunksSpec)

/-- ITS FALSE NEIGHBOUR: 'it returns false'. Refute it at one input. -/
def fnExactGroupHunksWrong : ChangeSpec := { name := "fnExactGroupHunks", fn := fun _ => fun
  | [d1, d2] => { results := [.lit (.bool false)], args := [d1, d2] }
  | _ => none }
def FnExactGroupHunksWrongFalsely : Prop := fnExactGroupHunksRow.holds Try.pinned (OpenSpec.ofChange fnExactGroupHunksWrong)

/- THE SECOND FORM. 'bulk': how many values and letters a reading holds, each counted each time it is reached (what is shared counts as often as it is met; a slice's spare places count too). A statement '..UptoSaid' is the law's where the arguments, and the package variables that the reading takes, are together of bulk at most 1048576: NARROWER than '..Said'. Prove '..Said' where nothing that the law and all that it calls make is longer than what came in: it says more and counts as full. Else prove '..UptoSaid'. A law counts once. -/
mutual
def uptoBulk {H : Type} : DataW H → Nat
  | .lit (.string bytes) => bytes.length + 1
  | .lit _ => 1
  | .nil => 1
  | .ptr d => uptoBulk d + 1
  | .slice elems spare => uptoBulkAll elems + uptoBulkAll spare + 1
  | .agg parts => uptoBulkAll parts + 1
  | .iface _ d => uptoBulk d + 1
  | .map entries => uptoBulkEntries entries + 1
  | .held _ => 1
def uptoBulkAll {H : Type} : List (DataW H) → Nat
  | [] => 0
  | d :: r => uptoBulk d + uptoBulkAll r
def uptoBulkEntries {H : Type} : List (Lit × DataW H) → Nat
  | [] => 0
  | x :: r => uptoBulkEntry x + uptoBulkEntries r
def uptoBulkEntry {H : Type} : Lit × DataW H → Nat
  | (.string bytes, d) => bytes.length + uptoBulk d + 1
  | (_, d) => uptoBulk d + 1
 end
def uptoSmall : (H : Type) → List (DataW H) → Bool := fun _ ds => decide (uptoBulkAll ds ≤ 1048576)
def OpenSpec.upto (s : _root_.Go.ChangeSpec) : _root_.Go.OpenSpec := { _root_.Go.OpenSpec.ofChange s with cond := some uptoSmall }

/-- 'laws.FnExactTextOf', WHERE WHAT IT READS IS OF BULK AT MOST 1048576: true; the input reads as it did. -/
def fnExactTextOfUptoRow : OpenClaim := { program := "ytcefenlblnediaa", sum := "a4a5eaf220ac2b4ee206b2ab75f1181a45b2f1805a01a3a456a770d36723172d", func := "loop.example/g00825/laws.FnExactTextOf", spec := "fnExactTextOf", inPlace := ["internal/bytealg.IndexByteString", "internal/bytealg.IndexString", "internal/abi.NoEscape", "internal/bytealg.MakeNoZero"], unfollowed := true, recurses := true, named := ["internal/bytealg.MaxLen"], apart := false, narrowed := true }
def FnExactTextOfUptoSaid : Prop := fnExactTextOfUptoRow.holds Try.pinned (OpenSpec.upto fnExactTextOfSpec)

/-- 'laws.FnExactWidthOf', WHERE WHAT IT READS IS OF BULK AT MOST 1048576: true; the input reads as it did. -/
def fnExactWidthOfUptoRow : OpenClaim := { program := "ytcefenlblnediaa", sum := "a4a5eaf220ac2b4ee206b2ab75f1181a45b2f1805a01a3a456a770d36723172d", func := "loop.example/g00825/laws.FnExactWidthOf", spec := "fnExactWidthOf", inPlace := ["internal/bytealg.IndexByteString", "internal/bytealg.IndexString"], unfollowed := true, recurses := true, named := ["internal/bytealg.MaxLen"], apart := false, narrowed := true }
def FnExactWidthOfUptoSaid : Prop := fnExactWidthOfUptoRow.holds Try.pinned (OpenSpec.upto fnExactWidthOfSpec)

/-- 'laws.FnExactJoinHunks', WHERE WHAT IT READS IS OF BULK AT MOST 1048576: true; the input reads as it did. -/
def fnExactJoinHunksUptoRow : OpenClaim := { program := "ytcefenlblnediaa", sum := "a4a5eaf220ac2b4ee206b2ab75f1181a45b2f1805a01a3a456a770d36723172d", func := "loop.example/g00825/laws.FnExactJoinHunks", spec := "fnExactJoinHunks", inPlace := ["internal/bytealg.IndexByteString", "internal/bytealg.IndexString"], unfollowed := true, recurses := true, named := ["internal/bytealg.MaxLen"], apart := false, narrowed := true }
def FnExactJoinHunksUptoSaid : Prop := fnExactJoinHunksUptoRow.holds Try.pinned (OpenSpec.upto fnExactJoinHunksSpec)

/-- 'laws.FnJoined', WHERE WHAT IT READS IS OF BULK AT MOST 1048576: true; the input reads as it did. -/
def fnJoinedUptoRow : OpenClaim := { program := "ytcefenlblnediaa", sum := "a4a5eaf220ac2b4ee206b2ab75f1181a45b2f1805a01a3a456a770d36723172d", func := "loop.example/g00825/laws.FnJoined", spec := "fnJoined", inPlace := ["internal/bytealg.IndexByteString", "internal/bytealg.IndexString"], unfollowed := true, recurses := true, named := ["internal/bytealg.MaxLen"], apart := false, narrowed := true }
def FnJoinedUptoSaid : Prop := fnJoinedUptoRow.holds Try.pinned (OpenSpec.upto fnJoinedSpec)

/-- 'laws.FnTrimmed', WHERE WHAT IT READS IS OF BULK AT MOST 1048576: true; the input reads as it did. -/
def fnTrimmedUptoRow : OpenClaim := { program := "ytcefenlblnediaa", sum := "a4a5eaf220ac2b4ee206b2ab75f1181a45b2f1805a01a3a456a770d36723172d", func := "loop.example/g00825/laws.FnTrimmed", spec := "fnTrimmed", inPlace := ["internal/bytealg.IndexByteString", "internal/bytealg.IndexString"], unfollowed := true, recurses := true, named := ["internal/bytealg.MaxLen"], apart := false, narrowed := true }
def FnTrimmedUptoSaid : Prop := fnTrimmedUptoRow.holds Try.pinned (OpenSpec.upto fnTrimmedSpec)

/-- 'laws.FnPatches', WHERE WHAT IT READS IS OF BULK AT MOST 1048576: true; the input reads as it did. -/
def fnPatchesUptoRow : OpenClaim := { program := "ytcefenlblnediaa", sum := "a4a5eaf220ac2b4ee206b2ab75f1181a45b2f1805a01a3a456a770d36723172d", func := "loop.example/g00825/laws.FnPatches", spec := "fnPatches", inPlace := ["internal/bytealg.IndexByteString", "internal/bytealg.IndexString"], unfollowed := true, recurses := true, named := ["internal/bytealg.MaxLen"], apart := false, narrowed := true }
def FnPatchesUptoSaid : Prop := fnPatchesUptoRow.holds Try.pinned (OpenSpec.upto fnPatchesSpec)

/-- 'laws.FnExactGroupsOf', WHERE WHAT IT READS IS OF BULK AT MOST 1048576: true; the input reads as it did. -/
def fnExactGroupsOfUptoRow : OpenClaim := { program := "ytcefenlblnediaa", sum := "a4a5eaf220ac2b4ee206b2ab75f1181a45b2f1805a01a3a456a770d36723172d", func := "loop.example/g00825/laws.FnExactGroupsOf", spec := "fnExactGroupsOf", inPlace := ["internal/bytealg.IndexByteString", "internal/bytealg.IndexString"], unfollowed := true, recurses := true, named := ["internal/bytealg.MaxLen"], apart := false, narrowed := true }
def FnExactGroupsOfUptoSaid : Prop := fnExactGroupsOfUptoRow.holds Try.pinned (OpenSpec.upto fnExactGroupsOfSpec)

/-- 'laws.FnExactStepsHunks', WHERE WHAT IT READS IS OF BULK AT MOST 1048576: true; the input reads as it did. -/
def fnExactStepsHunksUptoRow : OpenClaim := { program := "ytcefenlblnediaa", sum := "a4a5eaf220ac2b4ee206b2ab75f1181a45b2f1805a01a3a456a770d36723172d", func := "loop.example/g00825/laws.FnExactStepsHunks", spec := "fnExactStepsHunks", inPlace := ["internal/bytealg.IndexByteString", "internal/bytealg.IndexString"], unfollowed := true, recurses := true, named := ["internal/bytealg.MaxLen"], apart := false, narrowed := true }
def FnExactStepsHunksUptoSaid : Prop := fnExactStepsHunksUptoRow.holds Try.pinned (OpenSpec.upto fnExactStepsHunksSpec)

/-- 'laws.FnExactApplySteps', WHERE WHAT IT READS IS OF BULK AT MOST 1048576: true; the input reads as it did. -/
def fnExactApplyStepsUptoRow : OpenClaim := { program := "ytcefenlblnediaa", sum := "a4a5eaf220ac2b4ee206b2ab75f1181a45b2f1805a01a3a456a770d36723172d", func := "loop.example/g00825/laws.FnExactApplySteps", spec := "fnExactApplySteps", inPlace := ["internal/bytealg.IndexByteString", "internal/bytealg.IndexString"], unfollowed := true, recurses := true, named := ["internal/bytealg.MaxLen"], apart := false, narrowed := true }
def FnExactApplyStepsUptoSaid : Prop := fnExactApplyStepsUptoRow.holds Try.pinned (OpenSpec.upto fnExactApplyStepsSpec)

/-- 'laws.FnExactSplitGroup', WHERE WHAT IT READS IS OF BULK AT MOST 1048576: true; the input reads as it did. -/
def fnExactSplitGroupUptoRow : OpenClaim := { program := "ytcefenlblnediaa", sum := "a4a5eaf220ac2b4ee206b2ab75f1181a45b2f1805a01a3a456a770d36723172d", func := "loop.example/g00825/laws.FnExactSplitGroup", spec := "fnExactSplitGroup", inPlace := ["internal/bytealg.IndexByteString", "internal/bytealg.IndexString"], unfollowed := true, recurses := true, named := ["internal/bytealg.MaxLen"], apart := false, narrowed := true }
def FnExactSplitGroupUptoSaid : Prop := fnExactSplitGroupUptoRow.holds Try.pinned (OpenSpec.upto fnExactSplitGroupSpec)

/-- 'laws.FnExactGroupHunks', WHERE WHAT IT READS IS OF BULK AT MOST 1048576: true; the input reads as it did. -/
def fnExactGroupHunksUptoRow : OpenClaim := { program := "ytcefenlblnediaa", sum := "a4a5eaf220ac2b4ee206b2ab75f1181a45b2f1805a01a3a456a770d36723172d", func := "loop.example/g00825/laws.FnExactGroupHunks", spec := "fnExactGroupHunks", inPlace := ["internal/bytealg.IndexByteString", "internal/bytealg.IndexString"], unfollowed := true, recurses := true, named := ["internal/bytealg.MaxLen"], apart := false, narrowed := true }
def FnExactGroupHunksUptoSaid : Prop := fnExactGroupHunksUptoRow.holds Try.pinned (OpenSpec.upto fnExactGroupHunksSpec)

end Rows
end Go.Proofs.Ytcefenlblnediaa
