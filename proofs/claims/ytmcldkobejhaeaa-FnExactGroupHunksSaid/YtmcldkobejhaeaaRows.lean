/-
  No cell of these rows narrows 'for every input' (looked for: loops, veiled, ifaces, maps, wideKeys, modest, calm, conditions, laid).
  DERIVED. THE GIVEN ROWS OF THIS SEAT. 6 by the template 'for every input the law returns true; each argument reads behind the call as it read before'; 0 by the template 'total and deterministic' (their statements: YtmcldkobejhaeaaTotals.lean).
  GIVEN WITH THE SEED: the statements are not yours to turn. If you find one false, say at which input.
  Laid BY PROGRAM, IN A SANDBOX (cutbox-rows.mjs): the forced cells as the released guide's own fill.sh prints them over the translation 50d7302d9f0b4f8d… (all of the seat's roots in one cut). By AI agents, Wed Nov 11 2026. No macro, syntax, notation, axiom, sorry.
-/
import Derived.Test.YtmcldkobejhaeaaChecked
import GoSem.Claim
import GoSem.ClaimJoined
import GoSem.ClaimMapViews
import Derived.JoinedTies
import Derived.KernelRfl
namespace Go.Proofs.Ytmcldkobejhaeaa
/- THE CELL 'sum', in the pinned program and in every row, IS THE sha256 OF THE DUMP (.gsa) THAT YtmcldkobejhaeaaProg.lean LOADS. Nothing in Lean hashes anything: it is a label: what it is worth is what the hold of that sum in a sandbox is worth. -/
noncomputable def Try.pinned : Pinned := { name := "ytmcldkobejhaeaa", sum := "50d7302d9f0b4f8d6e4739a24a9bb62627b64f8ceb766e8db8c51dbc60260c6d", checked := Try.checked }
namespace Rows
def none {H : Type} : Left H := { results := [], args := [] }

/-- 'laws.FnCutInTwo': WHATEVER THE INPUT: true; the input reads as it did. -/
def fnCutInTwoSpec : ChangeSpec := { name := "fnCutInTwo", fn := fun _ => fun
  | [d1, d2] => { results := [.lit (.bool true)], args := [d1, d2] }
  | _ => none }
def fnCutInTwoRow : OpenClaim := { program := "ytmcldkobejhaeaa", sum := "50d7302d9f0b4f8d6e4739a24a9bb62627b64f8ceb766e8db8c51dbc60260c6d", func := "loop.example/g00825/laws.FnCutInTwo", spec := "fnCutInTwo", inPlace := ["internal/bytealg.IndexByteString", "internal/bytealg.IndexString"], unfollowed := true, recurses := true, named := ["internal/bytealg.MaxLen"], apart := false }
def FnCutInTwoSaid : Prop := fnCutInTwoRow.holds Try.pinned (OpenSpec.ofChange fnCutInTwoSpec)

/-- ITS FALSE NEIGHBOUR: 'it returns false'. Refute it at one input. -/
def fnCutInTwoWrong : ChangeSpec := { name := "fnCutInTwo", fn := fun _ => fun
  | [d1, d2] => { results := [.lit (.bool false)], args := [d1, d2] }
  | _ => none }
def FnCutInTwoWrongFalsely : Prop := fnCutInTwoRow.holds Try.pinned (OpenSpec.ofChange fnCutInTwoWrong)

/-- 'laws.FnCommon': WHATEVER THE INPUT: true; the input reads as it did. -/
def fnCommonSpec : ChangeSpec := { name := "fnCommon", fn := fun _ => fun
  | [d1, d2] => { results := [.lit (.bool true)], args := [d1, d2] }
  | _ => none }
def fnCommonRow : OpenClaim := { program := "ytmcldkobejhaeaa", sum := "50d7302d9f0b4f8d6e4739a24a9bb62627b64f8ceb766e8db8c51dbc60260c6d", func := "loop.example/g00825/laws.FnCommon", spec := "fnCommon", inPlace := ["internal/bytealg.IndexByteString", "internal/bytealg.IndexString"], unfollowed := true, recurses := true, named := ["internal/bytealg.MaxLen"], apart := false }
def FnCommonSaid : Prop := fnCommonRow.holds Try.pinned (OpenSpec.ofChange fnCommonSpec)

/-- ITS FALSE NEIGHBOUR: 'it returns false'. Refute it at one input. -/
def fnCommonWrong : ChangeSpec := { name := "fnCommon", fn := fun _ => fun
  | [d1, d2] => { results := [.lit (.bool false)], args := [d1, d2] }
  | _ => none }
def FnCommonWrongFalsely : Prop := fnCommonRow.holds Try.pinned (OpenSpec.ofChange fnCommonWrong)

/-- 'laws.FnTrimmed': WHATEVER THE INPUT: true; the input reads as it did. -/
def fnTrimmedSpec : ChangeSpec := { name := "fnTrimmed", fn := fun _ => fun
  | [d1, d2] => { results := [.lit (.bool true)], args := [d1, d2] }
  | _ => none }
def fnTrimmedRow : OpenClaim := { program := "ytmcldkobejhaeaa", sum := "50d7302d9f0b4f8d6e4739a24a9bb62627b64f8ceb766e8db8c51dbc60260c6d", func := "loop.example/g00825/laws.FnTrimmed", spec := "fnTrimmed", inPlace := ["internal/bytealg.IndexByteString", "internal/bytealg.IndexString"], unfollowed := true, recurses := true, named := ["internal/bytealg.MaxLen"], apart := false }
def FnTrimmedSaid : Prop := fnTrimmedRow.holds Try.pinned (OpenSpec.ofChange fnTrimmedSpec)

/-- ITS FALSE NEIGHBOUR: 'it returns false'. Refute it at one input. -/
def fnTrimmedWrong : ChangeSpec := { name := "fnTrimmed", fn := fun _ => fun
  | [d1, d2] => { results := [.lit (.bool false)], args := [d1, d2] }
  | _ => none }
def FnTrimmedWrongFalsely : Prop := fnTrimmedRow.holds Try.pinned (OpenSpec.ofChange fnTrimmedWrong)

/-- 'laws.FnExactGroupsOf': WHATEVER THE INPUT: true; the input reads as it did. -/
def fnExactGroupsOfSpec : ChangeSpec := { name := "fnExactGroupsOf", fn := fun _ => fun
  | [d1, d2, d3] => { results := [.lit (.bool true)], args := [d1, d2, d3] }
  | _ => none }
def fnExactGroupsOfRow : OpenClaim := { program := "ytmcldkobejhaeaa", sum := "50d7302d9f0b4f8d6e4739a24a9bb62627b64f8ceb766e8db8c51dbc60260c6d", func := "loop.example/g00825/laws.FnExactGroupsOf", spec := "fnExactGroupsOf", inPlace := ["internal/bytealg.IndexByteString", "internal/bytealg.IndexString"], unfollowed := true, recurses := true, named := ["internal/bytealg.MaxLen"], apart := false }
def FnExactGroupsOfSaid : Prop := fnExactGroupsOfRow.holds Try.pinned (OpenSpec.ofChange fnExactGroupsOfSpec)

/-- ITS FALSE NEIGHBOUR: 'it returns false'. Refute it at one input. -/
def fnExactGroupsOfWrong : ChangeSpec := { name := "fnExactGroupsOf", fn := fun _ => fun
  | [d1, d2, d3] => { results := [.lit (.bool false)], args := [d1, d2, d3] }
  | _ => none }
def FnExactGroupsOfWrongFalsely : Prop := fnExactGroupsOfRow.holds Try.pinned (OpenSpec.ofChange fnExactGroupsOfWrong)

/-- 'laws.FnExactSplitGroup': WHATEVER THE INPUT: true; the input reads as it did. -/
def fnExactSplitGroupSpec : ChangeSpec := { name := "fnExactSplitGroup", fn := fun _ => fun
  | [d1, d2] => { results := [.lit (.bool true)], args := [d1, d2] }
  | _ => none }
def fnExactSplitGroupRow : OpenClaim := { program := "ytmcldkobejhaeaa", sum := "50d7302d9f0b4f8d6e4739a24a9bb62627b64f8ceb766e8db8c51dbc60260c6d", func := "loop.example/g00825/laws.FnExactSplitGroup", spec := "fnExactSplitGroup", inPlace := ["internal/bytealg.IndexByteString", "internal/bytealg.IndexString"], unfollowed := true, recurses := true, named := ["internal/bytealg.MaxLen"], apart := false }
def FnExactSplitGroupSaid : Prop := fnExactSplitGroupRow.holds Try.pinned (OpenSpec.ofChange fnExactSplitGroupSpec)

/-- ITS FALSE NEIGHBOUR: 'it returns false'. Refute it at one input. -/
def fnExactSplitGroupWrong : ChangeSpec := { name := "fnExactSplitGroup", fn := fun _ => fun
  | [d1, d2] => { results := [.lit (.bool false)], args := [d1, d2] }
  | _ => none }
def FnExactSplitGroupWrongFalsely : Prop := fnExactSplitGroupRow.holds Try.pinned (OpenSpec.ofChange fnExactSplitGroupWrong)

/-- 'laws.FnExactGroupHunks': WHATEVER THE INPUT: true; the input reads as it did. -/
def fnExactGroupHunksSpec : ChangeSpec := { name := "fnExactGroupHunks", fn := fun _ => fun
  | [d1, d2] => { results := [.lit (.bool true)], args := [d1, d2] }
  | _ => none }
def fnExactGroupHunksRow : OpenClaim := { program := "ytmcldkobejhaeaa", sum := "50d7302d9f0b4f8d6e4739a24a9bb62627b64f8ceb766e8db8c51dbc60260c6d", func := "loop.example/g00825/laws.FnExactGroupHunks", spec := "fnExactGroupHunks", inPlace := ["internal/bytealg.IndexByteString", "internal/bytealg.IndexString"], unfollowed := true, recurses := true, named := ["internal/bytealg.MaxLen"], apart := false }
def FnExactGroupHunksSaid : Prop := fnExactGroupHunksRow.holds Try.pinned (OpenSpec.ofChange fnExactGroupHunksSpec)

/-- ITS FALSE NEIGHBOUR: 'it returns false'. Refute it at one input. -/
def fnExactGroupHunksWrong : ChangeSpec := { name := "fnExactGroupHunks", fn := fun _ => fun
  | [d1, d2] => { results := [.lit (.bool false)], args := [d1, d2] }
  | _ => none }
def FnExactGroupHunksWrongFalsely : Prop := fnExactGroupHunksRow.holds Try.pinned (OpenSpec.ofChange fnExactGroupHunksWrong)

/- THE SECOND FORM. 'bulk': how many values and letters a reading holds, each counted each time it is reached (what is shared counts as often as it is met; a slice's spare places count too). A statement '..UptoSaid' is the law's where the arguments, and the package variables that the reading takes, are together of bulk at most 1048576: NARROWER than '..Said'. Prove '..Said' where nothing that the law and all that it calls make is longer than what came in: it says more and counts as full. Else prove '..UptoSaid'. A law counts once. -/
mutual
def uptoBulk {H : Type} : DataW H → Nat
  | .lit (.string bytes) => bytes.length + 1
  | .lit _ => 1
  | .nil => 1
  | .ptr d => uptoBulk d + 1
  | .slice elems spare => uptoBulkAll elems + uptoBulkAll spare + 1
  | .agg parts => uptoBulkAll parts + 1
  | .iface _ d => uptoBulk d + 1
  | .map entries => uptoBulkEntries entries + 1
  | .held _ => 1
def uptoBulkAll {H : Type} : List (DataW H) → Nat
  | [] => 0
  | d :: r => uptoBulk d + uptoBulkAll r
def uptoBulkEntries {H : Type} : List (Lit × DataW H) → Nat
  | [] => 0
  | x :: r => uptoBulkEntry x + uptoBulkEntries r
def uptoBulkEntry {H : Type} : Lit × DataW H → Nat
  | (.string bytes, d) => bytes.length + uptoBulk d + 1
  | (_, d) => uptoBulk d + 1
 end
def uptoSmall : (H : Type) → List (DataW H) → Bool := fun _ ds => decide (uptoBulkAll ds ≤ 1048576)
def OpenSpec.upto (s : _root_.Go.ChangeSpec) : _root_.Go.OpenSpec := { _root_.Go.OpenSpec.ofChange s with cond := some uptoSmall }

/-- 'laws.FnCutInTwo', WHERE WHAT IT READS IS OF BULK AT MOST 1048576: true; the input reads as it did. -/
def fnCutInTwoUptoRow : OpenClaim := { program := "ytmcldkobejhaeaa", sum := "50d7302d9f0b4f8d6e4739a24a9bb62627b64f8ceb766e8db8c51dbc60260c6d", func := "loop.example/g00825/laws.FnCutInTwo", spec := "fnCutInTwo", inPlace := ["internal/bytealg.IndexByteString", "internal/bytealg.IndexString"], unfollowed := true, recurses := true, named := ["internal/bytealg.MaxLen"], apart := false, narrowed := true }
def FnCutInTwoUptoSaid : Prop := fnCutInTwoUptoRow.holds Try.pinned (OpenSpec.upto fnCutInTwoSpec)

/-- 'laws.FnCommon', WHERE WHAT IT READS IS OF BULK AT MOST 1048576: true; the input reads as it did. -/
def fnCommonUptoRow : OpenClaim := { program := "ytmcldkobejhaeaa", sum := "50d7302d9f0b4f8d6e4739a24a9bb62627b64f8ceb766e8db8c51dbc60260c6d", func := "loop.example/g00825/laws.FnCommon", spec := "fnCommon", inPlace := ["internal/bytealg.IndexByteString", "internal/bytealg.IndexString"], unfollowed := true, recurses := true, named := ["internal/bytealg.MaxLen"], apart := false, narrowed := true }
def FnCommonUptoSaid : Prop := fnCommonUptoRow.holds Try.pinned (OpenSpec.upto fnCommonSpec)

/-- 'laws.FnTrimmed', WHERE WHAT IT READS IS OF BULK AT MOST 1048576: true; the input reads as it did. -/
def fnTrimmedUptoRow : OpenClaim := { program := "ytmcldkobejhaeaa", sum := "50d7302d9f0b4f8d6e4739a24a9bb62627b64f8ceb766e8db8c51dbc60260c6d", func := "loop.example/g00825/laws.FnTrimmed", spec := "fnTrimmed", inPlace := ["internal/bytealg.IndexByteString", "internal/bytealg.IndexString"], unfollowed := true, recurses := true, named := ["internal/bytealg.MaxLen"], apart := false, narrowed := true }
def FnTrimmedUptoSaid : Prop := fnTrimmedUptoRow.holds Try.pinned (OpenSpec.upto fnTrimmedSpec)

/-- 'laws.FnExactGroupsOf', WHERE WHAT IT READS IS OF BULK AT MOST 1048576: true; the input reads as it did. -/
def fnExactGroupsOfUptoRow : OpenClaim := { program := "ytmcldkobejhaeaa", sum := "50d7302d9f0b4f8d6e4739a24a9bb62627b64f8ceb766e8db8c51dbc60260c6d", func := "loop.example/g00825/laws.FnExactGroupsOf", spec := "fnExactGroupsOf", inPlace := ["internal/bytealg.IndexByteString", "internal/bytealg.IndexString"], unfollowed := true, recurses := true, named := ["internal/bytealg.MaxLen"], apart := false, narrowed := true }
def FnExactGroupsOfUptoSaid : Prop := fnExactGroupsOfUptoRow.holds Try.pinned (OpenSpec.upto fnExactGroupsOfSpec)

/-- 'laws.FnExactSplitGroup', WHERE WHAT IT READS IS OF BULK AT MOST 1048576: true; the input reads as it did. -/
def fnExactSplitGroupUptoRow : OpenClaim := { program := "ytmcldkobejhaeaa", sum := "50d7302d9f0b4f8d6e4739a24a9bb62627b64f8ceb766e8db8c51dbc60260c6d", func := "loop.example/g00825/laws.FnExactSplitGroup", spec := "fnExactSplitGroup", inPlace := ["internal/bytealg.IndexByteString", "internal/bytealg.IndexString"], unfollowed := true, recurses := true, named := ["internal/bytealg.MaxLen"], apart := false, narrowed := true }
def FnExactSplitGroupUptoSaid : Prop := fnExactSplitGroupUptoRow.holds Try.pinned (OpenSpec.upto fnExactSplitGroupSpec)

/-- 'laws.FnExactGroupHunks', WHERE WHAT IT READS IS OF BULK AT MOST 1048576: true; the input reads as it did. -/
def fnExactGroupHunksUptoRow : OpenClaim := { program := "ytmcldkobejhaeaa", sum := "50d7302d9f0b4f8d6e4739a24a9bb62627b64f8ceb766e8db8c51dbc60260c6d", func := "loop.example/g00825/laws.FnExactGroupHunks", spec := "fnExactGroupHunks", inPlace := ["internal/bytealg.IndexByteString", "internal/bytealg.IndexString"], unfollowed := true, recurses := true, named := ["internal/bytealg.MaxLen"], apart := false, narrowed := true }
def FnExactGroupHunksUptoSaid : Prop := fnExactGroupHunksUptoRow.holds Try.pinned (OpenSpec.upto fnExactGroupHunksSpec)

end Rows
end Go.Proofs.Ytmcldkobejhaeaa
