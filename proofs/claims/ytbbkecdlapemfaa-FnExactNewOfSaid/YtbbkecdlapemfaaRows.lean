/-
  No cell of these rows narrows 'for every input' (looked for: loops, veiled, ifaces, maps, wideKeys, modest, calm, conditions, laid).
  DERIVED. THE GIVEN ROWS OF THIS SEAT. 12 by the template 'for every input the law returns true; each argument reads behind the call as it read before'; 0 by the template 'total and deterministic' (their statements: YtbbkecdlapemfaaTotals.lean).
  GIVEN WITH THE SEED: the statements are not yours to turn. If you find one false, say at which input.
  Laid BY PROGRAM, IN A SANDBOX (cutbox-rows.mjs): the forced cells as the released guide's own fill.sh prints them over the translation c0f8cf998ebb1aa0… (all of the seat's roots in one cut). By AI agents, Wed Nov 11 2026. No macro, syntax, notation, axiom, sorry.
-/
import Derived.Test.YtbbkecdlapemfaaChecked
import GoSem.Claim
import GoSem.ClaimJoined
import GoSem.ClaimMapViews
import Derived.JoinedTies
import Derived.KernelRfl
namespace Go.Proofs.Ytbbkecdlapemfaa
/- THE CELL 'sum', in the pinned program and in every row, IS THE sha256 OF THE DUMP (.gsa) THAT YtbbkecdlapemfaaProg.lean LOADS. Nothing in Lean hashes anything: it is a label: what it is worth is what the hold of that sum in a sandbox is worth. -/
noncomputable def Try.pinned : Pinned := { name := "ytbbkecdlapemfaa", sum := "c0f8cf998ebb1aa09482b2db30ee194df64359e582a7793fe80b00452a1b8c27", checked := Try.checked }
namespace Rows
def none {H : Type} : Left H := { results := [], args := [] }

/-- 'laws.FnExactGoodHunks': WHATEVER THE INPUT: true; the input reads as it did. -/
def fnExactGoodHunksSpec : ChangeSpec := { name := "fnExactGoodHunks", fn := fun _ => fun
  | [d1, d2] => { results := [.lit (.bool true)], args := [d1, d2] }
  | _ => none }
def fnExactGoodHunksRow : OpenClaim := { program := "ytbbkecdlapemfaa", sum := "c0f8cf998ebb1aa09482b2db30ee194df64359e582a7793fe80b00452a1b8c27", func := "loop.example/g00825/laws.FnExactGoodHunks", spec := "fnExactGoodHunks", inPlace := ["internal/bytealg.IndexByteString", "internal/bytealg.IndexString"], unfollowed := true, recurses := true, named := ["internal/bytealg.MaxLen"], apart := false }
def FnExactGoodHunksSaid : Prop := fnExactGoodHunksRow.holds Try.pinned (OpenSpec.ofChange fnExactGoodHunksSpec)

/-- ITS FALSE NEIGHBOUR: 'it returns false'. Refute it at one input. -/
def fnExactGoodHunksWrong : ChangeSpec := { name := "fnExactGoodHunks", fn := fun _ => fun
  | [d1, d2] => { results := [.lit (.bool false)], args := [d1, d2] }
  | _ => none }
def FnExactGoodHunksWrongFalsely : Prop := fnExactGoodHunksRow.holds Try.pinned (OpenSpec.ofChange fnExactGoodHunksWrong)

/-- 'laws.FnExactAlikeOf': WHATEVER THE INPUT: true; the input reads as it did. -/
def fnExactAlikeOfSpec : ChangeSpec := { name := "fnExactAlikeOf", fn := fun _ => fun
  | [d1, d2] => { results := [.lit (.bool true)], args := [d1, d2] }
  | _ => none }
def fnExactAlikeOfRow : OpenClaim := { program := "ytbbkecdlapemfaa", sum := "c0f8cf998ebb1aa09482b2db30ee194df64359e582a7793fe80b00452a1b8c27", func := "loop.example/g00825/laws.FnExactAlikeOf", spec := "fnExactAlikeOf", inPlace := ["internal/bytealg.IndexByteString", "internal/bytealg.IndexString"], unfollowed := true, recurses := true, named := ["internal/bytealg.MaxLen"], apart := false }
def FnExactAlikeOfSaid : Prop := fnExactAlikeOfRow.holds Try.pinned (OpenSpec.ofChange fnExactAlikeOfSpec)

/-- ITS FALSE NEIGHBOUR: 'it returns false'. Refute it at one input. -/
def fnExactAlikeOfWrong : ChangeSpec := { name := "fnExactAlikeOf", fn := fun _ => fun
  | [d1, d2] => { results := [.lit (.bool false)], args := [d1, d2] }
  | _ => none }
def FnExactAlikeOfWrongFalsely : Prop := fnExactAlikeOfRow.holds Try.pinned (OpenSpec.ofChange fnExactAlikeOfWrong)

/-- 'laws.FnExactPlaceOf': WHATEVER THE INPUT: true; the input reads as it did. -/
def fnExactPlaceOfSpec : ChangeSpec := { name := "fnExactPlaceOf", fn := fun _ => fun
  | [d1, d2, d3] => { results := [.lit (.bool true)], args := [d1, d2, d3] }
  | _ => none }
def fnExactPlaceOfRow : OpenClaim := { program := "ytbbkecdlapemfaa", sum := "c0f8cf998ebb1aa09482b2db30ee194df64359e582a7793fe80b00452a1b8c27", func := "loop.example/g00825/laws.FnExactPlaceOf", spec := "fnExactPlaceOf", inPlace := ["internal/bytealg.IndexByteString", "internal/bytealg.IndexString"], unfollowed := true, recurses := true, named := ["internal/bytealg.MaxLen"], apart := false }
def FnExactPlaceOfSaid : Prop := fnExactPlaceOfRow.holds Try.pinned (OpenSpec.ofChange fnExactPlaceOfSpec)

/-- ITS FALSE NEIGHBOUR: 'it returns false'. Refute it at one input. -/
def fnExactPlaceOfWrong : ChangeSpec := { name := "fnExactPlaceOf", fn := fun _ => fun
  | [d1, d2, d3] => { results := [.lit (.bool false)], args := [d1, d2, d3] }
  | _ => none }
def FnExactPlaceOfWrongFalsely : Prop := fnExactPlaceOfRow.holds Try.pinned (OpenSpec.ofChange fnExactPlaceOfWrong)

/-- 'laws.FnCutInTwo': WHATEVER THE INPUT: true; the input reads as it did. -/
def fnCutInTwoSpec : ChangeSpec := { name := "fnCutInTwo", fn := fun _ => fun
  | [d1, d2] => { results := [.lit (.bool true)], args := [d1, d2] }
  | _ => none }
def fnCutInTwoRow : OpenClaim := { program := "ytbbkecdlapemfaa", sum := "c0f8cf998ebb1aa09482b2db30ee194df64359e582a7793fe80b00452a1b8c27", func := "loop.example/g00825/laws.FnCutInTwo", spec := "fnCutInTwo", inPlace := ["internal/bytealg.IndexByteString", "internal/bytealg.IndexString"], unfollowed := true, recurses := true, named := ["internal/bytealg.MaxLen"], apart := false }
def FnCutInTwoSaid : Prop := fnCutInTwoRow.holds Try.pinned (OpenSpec.ofChange fnCutInTwoSpec)

/-- ITS FALSE NEIGHBOUR: 'it returns false'. Refute it at one input. -/
def fnCutInTwoWrong : ChangeSpec := { name := "fnCutInTwo", fn := fun _ => fun
  | [d1, d2] => { results := [.lit (.bool false)], args := [d1, d2] }
  | _ => none }
def FnCutInTwoWrongFalsely : Prop := fnCutInTwoRow.holds Try.pinned (OpenSpec.ofChange fnCutInTwoWrong)

/-- 'laws.FnExactGoodSteps': WHATEVER THE INPUT: true; the input reads as it did. -/
def fnExactGoodStepsSpec : ChangeSpec := { name := "fnExactGoodSteps", fn := fun _ => fun
  | [d] => { results := [.lit (.bool true)], args := [d] }
  | _ => none }
def fnExactGoodStepsRow : OpenClaim := { program := "ytbbkecdlapemfaa", sum := "c0f8cf998ebb1aa09482b2db30ee194df64359e582a7793fe80b00452a1b8c27", func := "loop.example/g00825/laws.FnExactGoodSteps", spec := "fnExactGoodSteps", inPlace := ["internal/bytealg.IndexByteString", "internal/bytealg.IndexString"], unfollowed := true, recurses := true, named := ["internal/bytealg.MaxLen"], apart := false }
def FnExactGoodStepsSaid : Prop := fnExactGoodStepsRow.holds Try.pinned (OpenSpec.ofChange fnExactGoodStepsSpec)

/-- ITS FALSE NEIGHBOUR: 'it returns false'. Refute it at one input. -/
def fnExactGoodStepsWrong : ChangeSpec := { name := "fnExactGoodSteps", fn := fun _ => fun
  | [d] => { results := [.lit (.bool false)], args := [d] }
  | _ => none }
def FnExactGoodStepsWrongFalsely : Prop := fnExactGoodStepsRow.holds Try.pinned (OpenSpec.ofChange fnExactGoodStepsWrong)

/-- 'laws.FnExactPatch': WHATEVER THE INPUT: true; the input reads as it did. -/
def fnExactPatchSpec : ChangeSpec := { name := "fnExactPatch", fn := fun _ => fun
  | [d1, d2] => { results := [.lit (.bool true)], args := [d1, d2] }
  | _ => none }
def fnExactPatchRow : OpenClaim := { program := "ytbbkecdlapemfaa", sum := "c0f8cf998ebb1aa09482b2db30ee194df64359e582a7793fe80b00452a1b8c27", func := "loop.example/g00825/laws.FnExactPatch", spec := "fnExactPatch", inPlace := ["internal/bytealg.IndexByteString", "internal/bytealg.IndexString"], unfollowed := true, recurses := true, named := ["internal/bytealg.MaxLen"], apart := false }
def FnExactPatchSaid : Prop := fnExactPatchRow.holds Try.pinned (OpenSpec.ofChange fnExactPatchSpec)

/-- ITS FALSE NEIGHBOUR: 'it returns false'. Refute it at one input. -/
def fnExactPatchWrong : ChangeSpec := { name := "fnExactPatch", fn := fun _ => fun
  | [d1, d2] => { results := [.lit (.bool false)], args := [d1, d2] }
  | _ => none }
def FnExactPatchWrongFalsely : Prop := fnExactPatchRow.holds Try.pinned (OpenSpec.ofChange fnExactPatchWrong)

/-- 'laws.FnExactGoodGroups': WHATEVER THE INPUT: true; the input reads as it did. -/
def fnExactGoodGroupsSpec : ChangeSpec := { name := "fnExactGoodGroups", fn := fun _ => fun
  | [d] => { results := [.lit (.bool true)], args := [d] }
  | _ => none }
def fnExactGoodGroupsRow : OpenClaim := { program := "ytbbkecdlapemfaa", sum := "c0f8cf998ebb1aa09482b2db30ee194df64359e582a7793fe80b00452a1b8c27", func := "loop.example/g00825/laws.FnExactGoodGroups", spec := "fnExactGoodGroups", inPlace := ["internal/bytealg.IndexByteString", "internal/bytealg.IndexString"], unfollowed := true, recurses := true, named := ["internal/bytealg.MaxLen"], apart := false }
def FnExactGoodGroupsSaid : Prop := fnExactGoodGroupsRow.holds Try.pinned (OpenSpec.ofChange fnExactGoodGroupsSpec)

/-- ITS FALSE NEIGHBOUR: 'it returns false'. Refute it at one input. -/
def fnExactGoodGroupsWrong : ChangeSpec := { name := "fnExactGoodGroups", fn := fun _ => fun
  | [d] => { results := [.lit (.bool false)], args := [d] }
  | _ => none }
def FnExactGoodGroupsWrongFalsely : Prop := fnExactGoodGroupsRow.holds Try.pinned (OpenSpec.ofChange fnExactGoodGroupsWrong)

/-- 'laws.FnExactNewOf': WHATEVER THE INPUT: true; the input reads as it did. -/
def fnExactNewOfSpec : ChangeSpec := { name := "fnExactNewOf", fn := fun _ => fun
  | [d] => { results := [.lit (.bool true)], args := [d] }
  | _ => none }
def fnExactNewOfRow : OpenClaim := { program := "ytbbkecdlapemfaa", sum := "c0f8cf998ebb1aa09482b2db30ee194df64359e582a7793fe80b00452a1b8c27", func := "loop.example/g00825/laws.FnExactNewOf", spec := "fnExactNewOf", inPlace := ["internal/bytealg.IndexByteString", "internal/bytealg.IndexString"], unfollowed := true, recurses := true, named := ["internal/bytealg.MaxLen"], apart := false }
def FnExactNewOfSaid : Prop := fnExactNewOfRow.holds Try.pinned (OpenSpec.ofChange fnExactNewOfSpec)

/-- ITS FALSE NEIGHBOUR: 'it returns false'. Refute it at one input. -/
def fnExactNewOfWrong : ChangeSpec := { name := "fnExactNewOf", fn := fun _ => fun
  | [d] => { results := [.lit (.bool false)], args := [d] }
  | _ => none }
def FnExactNewOfWrongFalsely : Prop := fnExactNewOfRow.holds Try.pinned (OpenSpec.ofChange fnExactNewOfWrong)

/-- 'laws.FnExactOldOf': WHATEVER THE INPUT: true; the input reads as it did. -/
def fnExactOldOfSpec : ChangeSpec := { name := "fnExactOldOf", fn := fun _ => fun
  | [d] => { results := [.lit (.bool true)], args := [d] }
  | _ => none }
def fnExactOldOfRow : OpenClaim := { program := "ytbbkecdlapemfaa", sum := "c0f8cf998ebb1aa09482b2db30ee194df64359e582a7793fe80b00452a1b8c27", func := "loop.example/g00825/laws.FnExactOldOf", spec := "fnExactOldOf", inPlace := ["internal/bytealg.IndexByteString", "internal/bytealg.IndexString"], unfollowed := true, recurses := true, named := ["internal/bytealg.MaxLen"], apart := false }
def FnExactOldOfSaid : Prop := fnExactOldOfRow.holds Try.pinned (OpenSpec.ofChange fnExactOldOfSpec)

/-- ITS FALSE NEIGHBOUR: 'it returns false'. Refute it at one input. -/
def fnExactOldOfWrong : ChangeSpec := { name := "fnExactOldOf", fn := fun _ => fun
  | [d] => { results := [.lit (.bool false)], args := [d] }
  | _ => none }
def FnExactOldOfWrongFalsely : Prop := fnExactOldOfRow.holds Try.pinned (OpenSpec.ofChange fnExactOldOfWrong)

/-- 'laws.FnExactBackHunks': WHATEVER THE INPUT: true; the input reads as it did. -/
def fnExactBackHunksSpec : ChangeSpec := { name := "fnExactBackHunks", fn := fun _ => fun
  | [d1, d2] => { results := [.lit (.bool true)], args := [d1, d2] }
  | _ => none }
def fnExactBackHunksRow : OpenClaim := { program := "ytbbkecdlapemfaa", sum := "c0f8cf998ebb1aa09482b2db30ee194df64359e582a7793fe80b00452a1b8c27", func := "loop.example/g00825/laws.FnExactBackHunks", spec := "fnExactBackHunks", inPlace := ["internal/bytealg.IndexByteString", "internal/bytealg.IndexString"], unfollowed := true, recurses := true, named := ["internal/bytealg.MaxLen"], apart := false }
def FnExactBackHunksSaid : Prop := fnExactBackHunksRow.holds Try.pinned (OpenSpec.ofChange fnExactBackHunksSpec)

/-- ITS FALSE NEIGHBOUR: 'it returns false'. Refute it at one input. -/
def fnExactBackHunksWrong : ChangeSpec := { name := "fnExactBackHunks", fn := fun _ => fun
  | [d1, d2] => { results := [.lit (.bool false)], args := [d1, d2] }
  | _ => none }
def FnExactBackHunksWrongFalsely : Prop := fnExactBackHunksRow.holds Try.pinned (OpenSpec.ofChange fnExactBackHunksWrong)

/-- 'laws.FnExactTrimHunks': WHATEVER THE INPUT: true; the input reads as it did. -/
def fnExactTrimHunksSpec : ChangeSpec := { name := "fnExactTrimHunks", fn := fun _ => fun
  | [d1, d2] => { results := [.lit (.bool true)], args := [d1, d2] }
  | _ => none }
def fnExactTrimHunksRow : OpenClaim := { program := "ytbbkecdlapemfaa", sum := "c0f8cf998ebb1aa09482b2db30ee194df64359e582a7793fe80b00452a1b8c27", func := "loop.example/g00825/laws.FnExactTrimHunks", spec := "fnExactTrimHunks", inPlace := ["internal/bytealg.IndexByteString", "internal/bytealg.IndexString"], unfollowed := true, recurses := true, named := ["internal/bytealg.MaxLen"], apart := false }
def FnExactTrimHunksSaid : Prop := fnExactTrimHunksRow.holds Try.pinned (OpenSpec.ofChange fnExactTrimHunksSpec)

/-- ITS FALSE NEIGHBOUR: 'it returns false'. Refute it at one input. -/
def fnExactTrimHunksWrong : ChangeSpec := { name := "fnExactTrimHunks", fn := fun _ => fun
  | [d1, d2] => { results := [.lit (.bool false)], args := [d1, d2] }
  | _ => none }
def FnExactTrimHunksWrongFalsely : Prop := fnExactTrimHunksRow.holds Try.pinned (OpenSpec.ofChange fnExactTrimHunksWrong)

/-- 'laws.FnExactNormalSteps': WHATEVER THE INPUT: true; the input reads as it did. -/
def fnExactNormalStepsSpec : ChangeSpec := { name := "fnExactNormalSteps", fn := fun _ => fun
  | [d1, d2] => { results := [.lit (.bool true)], args := [d1, d2] }
  | _ => none }
def fnExactNormalStepsRow : OpenClaim := { program := "ytbbkecdlapemfaa", sum := "c0f8cf998ebb1aa09482b2db30ee194df64359e582a7793fe80b00452a1b8c27", func := "loop.example/g00825/laws.FnExactNormalSteps", spec := "fnExactNormalSteps", inPlace := ["internal/bytealg.IndexByteString", "internal/bytealg.IndexString"], unfollowed := true, recurses := true, named := ["internal/bytealg.MaxLen"], apart := false }
def FnExactNormalStepsSaid : Prop := fnExactNormalStepsRow.holds Try.pinned (OpenSpec.ofChange fnExactNormalStepsSpec)

/-- ITS FALSE NEIGHBOUR: 'it returns false'. Refute it at one input. -/
def fnExactNormalStepsWrong : ChangeSpec := { name := "fnExactNormalSteps", fn := fun _ => fun
  | [d1, d2] => { results := [.lit (.bool false)], args := [d1, d2] }
  | _ => none }
def FnExactNormalStepsWrongFalsely : Prop := fnExactNormalStepsRow.holds Try.pinned (OpenSpec.ofChange fnExactNormalStepsWrong)

/- THE SECOND FORM. 'bulk': how many values and letters a reading holds, each counted each time it is reached (what is shared counts as often as it is met; a slice's spare places count too). A statement '..UptoSaid' is the law's where the arguments, and the package variables that the reading takes, are together of bulk at most 1048576: NARROWER than '..Said'. Prove '..Said' where nothing that the law and all that it calls make is longer than what came in: it says more and counts as full. Else prove '..UptoSaid'. A law counts once. -/
mutual
def uptoBulk {H : Type} : DataW H → Nat
  | .lit (.string bytes) => bytes.length + 1
  | .lit _ => 1
  | .nil => 1
  | .ptr d => uptoBulk d + 1
  | .slice elems spare => uptoBulkAll elems + uptoBulkAll spare + 1
  | .agg parts => uptoBulkAll parts + 1
  | .iface _ d => uptoBulk d + 1
  | .map entries => uptoBulkEntries entries + 1
  | .held _ => 1
def uptoBulkAll {H : Type} : List (DataW H) → Nat
  | [] => 0
  | d :: r => uptoBulk d + uptoBulkAll r
def uptoBulkEntries {H : Type} : List (Lit × DataW H) → Nat
  | [] => 0
  | x :: r => uptoBulkEntry x + uptoBulkEntries r
def uptoBulkEntry {H : Type} : Lit × DataW H → Nat
  | (.string bytes, d) => bytes.length + uptoBulk d + 1
  | (_, d) => uptoBulk d + 1
 end
def uptoSmall : (H : Type) → List (DataW H) → Bool := fun _ ds => decide (uptoBulkAll ds ≤ 1048576)
def OpenSpec.upto (s : _root_.Go.ChangeSpec) : _root_.Go.OpenSpec := { _root_.Go.OpenSpec.ofChange s with cond := some uptoSmall }

/-- 'laws.FnExactGoodHunks', WHERE WHAT IT READS IS OF BULK AT MOST 1048576: true; the input reads as it did. -/
def fnExactGoodHunksUptoRow : OpenClaim := { program := "ytbbkecdlapemfaa", sum := "c0f8cf998ebb1aa09482b2db30ee194df64359e582a7793fe80b00452a1b8c27", func := "loop.example/g00825/laws.FnExactGoodHunks", spec := "fnExactGoodHunks", inPlace := ["internal/bytealg.IndexByteString", "internal/bytealg.IndexString"], unfollowed := true, recurses := true, named := ["internal/bytealg.MaxLen"], apart := false, narrowed := true }
def FnExactGoodHunksUptoSaid : Prop := fnExactGoodHunksUptoRow.holds Try.pinned (OpenSpec.upto fnExactGoodHunksSpec)

/-- 'laws.FnExactAlikeOf', WHERE WHAT IT READS IS OF BULK AT MOST 1048576: true; the input reads as it did. -/
def fnExactAlikeOfUptoRow : OpenClaim := { program := "ytbbkecdlapemfaa", sum := "c0f8cf998ebb1aa09482b2db30ee194df64359e582a7793fe80b00452a1b8c27", func := "loop.example/g00825/laws.FnExactAlikeOf", spec := "fnExactAlikeOf", inPlace := ["internal/bytealg.IndexByteString", "internal/bytealg.IndexString"], unfollowed := true, recurses := true, named := ["internal/bytealg.MaxLen"], apart := false, narrowed := true }
def FnExactAlikeOfUptoSaid : Prop := fnExactAlikeOfUptoRow.holds Try.pinned (OpenSpec.upto fnExactAlikeOfSpec)

/-- 'laws.FnExactPlaceOf', WHERE WHAT IT READS IS OF BULK AT MOST 1048576: true; the input reads as it did. -/
def fnExactPlaceOfUptoRow : OpenClaim := { program := "ytbbkecdlapemfaa", sum := "c0f8cf998ebb1aa09482b2db30ee194df64359e582a7793fe80b00452a1b8c27", func := "loop.example/g00825/laws.FnExactPlaceOf", spec := "fnExactPlaceOf", inPlace := ["internal/bytealg.IndexByteString", "internal/bytealg.IndexString"], unfollowed := true, recurses := true, named := ["internal/bytealg.MaxLen"], apart := false, narrowed := true }
def FnExactPlaceOfUptoSaid : Prop := fnExactPlaceOfUptoRow.holds Try.pinned (OpenSpec.upto fnExactPlaceOfSpec)

/-- 'laws.FnCutInTwo', WHERE WHAT IT READS IS OF BULK AT MOST 1048576: true; the input reads as it did. -/
def fnCutInTwoUptoRow : OpenClaim := { program := "ytbbkecdlapemfaa", sum := "c0f8cf998ebb1aa09482b2db30ee194df64359e582a7793fe80b00452a1b8c27", func := "loop.example/g00825/laws.FnCutInTwo", spec := "fnCutInTwo", inPlace := ["internal/bytealg.IndexByteString", "internal/bytealg.IndexString"], unfollowed := true, recurses := true, named := ["internal/bytealg.MaxLen"], apart := false, narrowed := true }
def FnCutInTwoUptoSaid : Prop := fnCutInTwoUptoRow.holds Try.pinned (OpenSpec.upto fnCutInTwoSpec)

/-- 'laws.FnExactGoodSteps', WHERE WHAT IT READS IS OF BULK AT MOST 1048576: true; the input reads as it did. -/
def fnExactGoodStepsUptoRow : OpenClaim := { program := "ytbbkecdlapemfaa", sum := "c0f8cf998ebb1aa09482b2db30ee194df64359e582a7793fe80b00452a1b8c27", func := "loop.example/g00825/laws.FnExactGoodSteps", spec := "fnExactGoodSteps", inPlace := ["internal/bytealg.IndexByteString", "internal/bytealg.IndexString"], unfollowed := true, recurses := true, named := ["internal/bytealg.MaxLen"], apart := false, narrowed := true }
def FnExactGoodStepsUptoSaid : Prop := fnExactGoodStepsUptoRow.holds Try.pinned (OpenSpec.upto fnExactGoodStepsSpec)

/-- 'laws.FnExactPatch', WHERE WHAT IT READS IS OF BULK AT MOST 1048576: true; the input reads as it did. -/
def fnExactPatchUptoRow : OpenClaim := { program := "ytbbkecdlapemfaa", sum := "c0f8cf998ebb1aa09482b2db30ee194df64359e582a7793fe80b00452a1b8c27", func := "loop.example/g00825/laws.FnExactPatch", spec := "fnExactPatch", inPlace := ["internal/bytealg.IndexByteString", "internal/bytealg.IndexString"], unfollowed := true, recurses := true, named := ["internal/bytealg.MaxLen"], apart := false, narrowed := true }
def FnExactPatchUptoSaid : Prop := fnExactPatchUptoRow.holds Try.pinned (OpenSpec.upto fnExactPatchSpec)

/-- 'laws.FnExactGoodGroups', WHERE WHAT IT READS IS OF BULK AT MOST 1048576: true; the input reads as it did. -/
def fnExactGoodGroupsUptoRow : OpenClaim := { program := "ytbbkecdlapemfaa", sum := "c0f8cf998ebb1aa09482b2db30ee194df64359e582a7793fe80b00452a1b8c27", func := "loop.example/g00825/laws.FnExactGoodGroups", spec := "fnExactGoodGroups", inPlace := ["internal/bytealg.IndexByteString", "internal/bytealg.IndexString"], unfollowed := true, recurses := true, named := ["internal/bytealg.MaxLen"], apart := false, narrowed := true }
def FnExactGoodGroupsUptoSaid : Prop := fnExactGoodGroupsUptoRow.holds Try.pinned (OpenSpec.upto fnExactGoodGroupsSpec)

/-- 'laws.FnExactNewOf', WHERE WHAT IT READS IS OF BULK AT MOST 1048576: true; the input reads as it did. -/
def fnExactNewOfUptoRow : OpenClaim := { program := "ytbbkecdlapemfaa", sum := "c0f8cf998ebb1aa09482b2db30ee194df64359e582a7793fe80b00452a1b8c27", func := "loop.example/g00825/laws.FnExactNewOf", spec := "fnExactNewOf", inPlace := ["internal/bytealg.IndexByteString", "internal/bytealg.IndexString"], unfollowed := true, recurses := true, named := ["internal/bytealg.MaxLen"], apart := false, narrowed := true }
def FnExactNewOfUptoSaid : Prop := fnExactNewOfUptoRow.holds Try.pinned (OpenSpec.upto fnExactNewOfSpec)

/-- 'laws.FnExactOldOf', WHERE WHAT IT READS IS OF BULK AT MOST 1048576: true; the input reads as it did. -/
def fnExactOldOfUptoRow : OpenClaim := { program := "ytbbkecdlapemfaa", sum := "c0f8cf998ebb1aa09482b2db30ee194df64359e582a7793fe80b00452a1b8c27", func := "loop.example/g00825/laws.FnExactOldOf", spec := "fnExactOldOf", inPlace := ["internal/bytealg.IndexByteString", "internal/bytealg.IndexString"], unfollowed := true, recurses := true, named := ["internal/bytealg.MaxLen"], apart := false, narrowed := true }
def FnExactOldOfUptoSaid : Prop := fnExactOldOfUptoRow.holds Try.pinned (OpenSpec.upto fnExactOldOfSpec)

/-- 'laws.FnExactBackHunks', WHERE WHAT IT READS IS OF BULK AT MOST 1048576: true; the input reads as it did. -/
def fnExactBackHunksUptoRow : OpenClaim := { program := "ytbbkecdlapemfaa", sum := "c0f8cf998ebb1aa09482b2db30ee194df64359e582a7793fe80b00452a1b8c27", func := "loop.example/g00825/laws.FnExactBackHunks", spec := "fnExactBackHunks", inPlace := ["internal/bytealg.IndexByteString", "internal/bytealg.IndexString"], unfollowed := true, recurses := true, named := ["internal/bytealg.MaxLen"], apart := false, narrowed := true }
def FnExactBackHunksUptoSaid : Prop := fnExactBackHunksUptoRow.holds Try.pinned (OpenSpec.upto fnExactBackHunksSpec)

/-- 'laws.FnExactTrimHunks', WHERE WHAT IT READS IS OF BULK AT MOST 1048576: true; the input reads as it did. -/
def fnExactTrimHunksUptoRow : OpenClaim := { program := "ytbbkecdlapemfaa", sum := "c0f8cf998ebb1aa09482b2db30ee194df64359e582a7793fe80b00452a1b8c27", func := "loop.example/g00825/laws.FnExactTrimHunks", spec := "fnExactTrimHunks", inPlace := ["internal/bytealg.IndexByteString", "internal/bytealg.IndexString"], unfollowed := true, recurses := true, named := ["internal/bytealg.MaxLen"], apart := false, narrowed := true }
def FnExactTrimHunksUptoSaid : Prop := fnExactTrimHunksUptoRow.holds Try.pinned (OpenSpec.upto fnExactTrimHunksSpec)

/-- 'laws.FnExactNormalSteps', WHERE WHAT IT READS IS OF BULK AT MOST 1048576: true; the input reads as it did. -/
def fnExactNormalStepsUptoRow : OpenClaim := { program := "ytbbkecdlapemfaa", sum := "c0f8cf998ebb1aa09482b2db30ee194df64359e582a7793fe80b00452a1b8c27", func := "loop.example/g00825/laws.FnExactNormalSteps", spec := "fnExactNormalSteps", inPlace := ["internal/bytealg.IndexByteString", "internal/bytealg.IndexString"], unfollowed := true, recurses := true, named := ["internal/bytealg.MaxLen"], apart := false, narrowed := true }
def FnExactNormalStepsUptoSaid : Prop := fnExactNormalStepsUptoRow.holds Try.pinned (OpenSpec.upto fnExactNormalStepsSpec)

end Rows
end Go.Proofs.Ytbbkecdlapemfaa
