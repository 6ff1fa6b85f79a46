/-
  No cell of these rows narrows 'for every input' (looked for: loops, veiled, ifaces, maps, wideKeys, modest, calm, conditions, laid).
  DERIVED. THE GIVEN ROWS OF THIS SEAT. 10 by the template 'for every input the law returns true; each argument reads behind the call as it read before'; 0 by the template 'total and deterministic' (their statements: YthcflhakmbjcmaaTotals.lean).
  GIVEN WITH THE SEED: the statements are not yours to turn. If you find one false, say at which input.
  Laid BY PROGRAM, IN A SANDBOX (cutbox-rows.mjs): the forced cells as the released guide's own fill.sh prints them over the translation 998f7fd942ea4e84… (all of the seat's roots in one cut). By AI agents, Wed Nov 11 2026. No macro, syntax, notation, axiom, sorry.
-/
import Derived.Test.YthcflhakmbjcmaaChecked
import GoSem.Claim
import GoSem.ClaimJoined
import GoSem.ClaimMapViews
import Derived.JoinedTies
import Derived.KernelRfl
namespace Go.Proofs.Ythcflhakmbjcmaa
/- THE CELL 'sum', in the pinned program and in every row, IS THE sha256 OF THE DUMP (.gsa) THAT YthcflhakmbjcmaaProg.lean LOADS. Nothing in Lean hashes anything: it is a label: what it is worth is what the hold of that sum in a sandbox is worth. -/
noncomputable def Try.pinned : Pinned := { name := "ythcflhakmbjcmaa", sum := "998f7fd942ea4e8452fca2c970bae4f4f00669d40c5663d12bdeb972515576ae", checked := Try.checked }
namespace Rows
def none {H : Type} : Left H := { results := [], args := [] }

/-- 'laws.FnExactConstants': WHATEVER THE INPUT: true; the input reads as it did. -/
def fnExactConstantsSpec : ChangeSpec := { name := "fnExactConstants", fn := fun _ => fun
  | [] => { results := [.lit (.bool true)], args := [] }
  | _ => none }
def fnExactConstantsRow : OpenClaim := { program := "ythcflhakmbjcmaa", sum := "998f7fd942ea4e8452fca2c970bae4f4f00669d40c5663d12bdeb972515576ae", func := "loop.example/g00825/laws.FnExactConstants", spec := "fnExactConstants", apart := false }
def FnExactConstantsSaid : Prop := fnExactConstantsRow.holds Try.pinned (OpenSpec.ofChange fnExactConstantsSpec)

/-- ITS FALSE NEIGHBOUR: 'it returns false'. Refute it at one input. -/
def fnExactConstantsWrong : ChangeSpec := { name := "fnExactConstants", fn := fun _ => fun
  | [] => { results := [.lit (.bool false)], args := [] }
  | _ => none }
def FnExactConstantsWrongFalsely : Prop := fnExactConstantsRow.holds Try.pinned (OpenSpec.ofChange fnExactConstantsWrong)

/-- 'laws.FnExactSameHunks': WHATEVER THE INPUT: true; the input reads as it did. -/
def fnExactSameHunksSpec : ChangeSpec := { name := "fnExactSameHunks", fn := fun _ => fun
  | [d1, d2] => { results := [.lit (.bool true)], args := [d1, d2] }
  | _ => none }
def fnExactSameHunksRow : OpenClaim := { program := "ythcflhakmbjcmaa", sum := "998f7fd942ea4e8452fca2c970bae4f4f00669d40c5663d12bdeb972515576ae", func := "loop.example/g00825/laws.FnExactSameHunks", spec := "fnExactSameHunks", unfollowed := true, recurses := true, apart := false }
def FnExactSameHunksSaid : Prop := fnExactSameHunksRow.holds Try.pinned (OpenSpec.ofChange fnExactSameHunksSpec)

/-- ITS FALSE NEIGHBOUR: 'it returns false'. Refute it at one input. -/
def fnExactSameHunksWrong : ChangeSpec := { name := "fnExactSameHunks", fn := fun _ => fun
  | [d1, d2] => { results := [.lit (.bool false)], args := [d1, d2] }
  | _ => none }
def FnExactSameHunksWrongFalsely : Prop := fnExactSameHunksRow.holds Try.pinned (OpenSpec.ofChange fnExactSameHunksWrong)

/-- 'laws.FnExactPlainOf': WHATEVER THE INPUT: true; the input reads as it did. -/
def fnExactPlainOfSpec : ChangeSpec := { name := "fnExactPlainOf", fn := fun _ => fun
  | [d] => { results := [.lit (.bool true)], args := [d] }
  | _ => none }
def fnExactPlainOfRow : OpenClaim := { program := "ythcflhakmbjcmaa", sum := "998f7fd942ea4e8452fca2c970bae4f4f00669d40c5663d12bdeb972515576ae", func := "loop.example/g00825/laws.FnExactPlainOf", spec := "fnExactPlainOf", inPlace := ["internal/bytealg.IndexByteString", "internal/bytealg.IndexString"], named := ["internal/bytealg.MaxLen"], apart := false }
def FnExactPlainOfSaid : Prop := fnExactPlainOfRow.holds Try.pinned (OpenSpec.ofChange fnExactPlainOfSpec)

/-- ITS FALSE NEIGHBOUR: 'it returns false'. Refute it at one input. -/
def fnExactPlainOfWrong : ChangeSpec := { name := "fnExactPlainOf", fn := fun _ => fun
  | [d] => { results := [.lit (.bool false)], args := [d] }
  | _ => none }
def FnExactPlainOfWrongFalsely : Prop := fnExactPlainOfRow.holds Try.pinned (OpenSpec.ofChange fnExactPlainOfWrong)

/-- 'laws.FnExactGoodLines': WHATEVER THE INPUT: true; the input reads as it did. -/
def fnExactGoodLinesSpec : ChangeSpec := { name := "fnExactGoodLines", fn := fun _ => fun
  | [d] => { results := [.lit (.bool true)], args := [d] }
  | _ => none }
def fnExactGoodLinesRow : OpenClaim := { program := "ythcflhakmbjcmaa", sum := "998f7fd942ea4e8452fca2c970bae4f4f00669d40c5663d12bdeb972515576ae", func := "loop.example/g00825/laws.FnExactGoodLines", spec := "fnExactGoodLines", inPlace := ["internal/bytealg.IndexByteString", "internal/bytealg.IndexString"], unfollowed := true, recurses := true, named := ["internal/bytealg.MaxLen"], apart := false }
def FnExactGoodLinesSaid : Prop := fnExactGoodLinesRow.holds Try.pinned (OpenSpec.ofChange fnExactGoodLinesSpec)

/-- ITS FALSE NEIGHBOUR: 'it returns false'. Refute it at one input. -/
def fnExactGoodLinesWrong : ChangeSpec := { name := "fnExactGoodLines", fn := fun _ => fun
  | [d] => { results := [.lit (.bool false)], args := [d] }
  | _ => none }
def FnExactGoodLinesWrongFalsely : Prop := fnExactGoodLinesRow.holds Try.pinned (OpenSpec.ofChange fnExactGoodLinesWrong)

/-- 'laws.FnExactIsWhole': WHATEVER THE INPUT: true; the input reads as it did. -/
def fnExactIsWholeSpec : ChangeSpec := { name := "fnExactIsWhole", fn := fun _ => fun
  | [d] => { results := [.lit (.bool true)], args := [d] }
  | _ => none }
def fnExactIsWholeRow : OpenClaim := { program := "ythcflhakmbjcmaa", sum := "998f7fd942ea4e8452fca2c970bae4f4f00669d40c5663d12bdeb972515576ae", func := "loop.example/g00825/laws.FnExactIsWhole", spec := "fnExactIsWhole", inPlace := ["internal/bytealg.IndexByteString", "internal/bytealg.IndexString"], unfollowed := true, recurses := true, named := ["internal/bytealg.MaxLen"], apart := false }
def FnExactIsWholeSaid : Prop := fnExactIsWholeRow.holds Try.pinned (OpenSpec.ofChange fnExactIsWholeSpec)

/-- ITS FALSE NEIGHBOUR: 'it returns false'. Refute it at one input. -/
def fnExactIsWholeWrong : ChangeSpec := { name := "fnExactIsWhole", fn := fun _ => fun
  | [d] => { results := [.lit (.bool false)], args := [d] }
  | _ => none }
def FnExactIsWholeWrongFalsely : Prop := fnExactIsWholeRow.holds Try.pinned (OpenSpec.ofChange fnExactIsWholeWrong)

/-- 'laws.FnExactSameAhead': WHATEVER THE INPUT: true; the input reads as it did. -/
def fnExactSameAheadSpec : ChangeSpec := { name := "fnExactSameAhead", fn := fun _ => fun
  | [d1, d2] => { results := [.lit (.bool true)], args := [d1, d2] }
  | _ => none }
def fnExactSameAheadRow : OpenClaim := { program := "ythcflhakmbjcmaa", sum := "998f7fd942ea4e8452fca2c970bae4f4f00669d40c5663d12bdeb972515576ae", func := "loop.example/g00825/laws.FnExactSameAhead", spec := "fnExactSameAhead", inPlace := ["internal/bytealg.IndexByteString", "internal/bytealg.IndexString"], unfollowed := true, recurses := true, named := ["internal/bytealg.MaxLen"], apart := false }
def FnExactSameAheadSaid : Prop := fnExactSameAheadRow.holds Try.pinned (OpenSpec.ofChange fnExactSameAheadSpec)

/-- ITS FALSE NEIGHBOUR: 'it returns false'. Refute it at one input. -/
def fnExactSameAheadWrong : ChangeSpec := { name := "fnExactSameAhead", fn := fun _ => fun
  | [d1, d2] => { results := [.lit (.bool false)], args := [d1, d2] }
  | _ => none }
def FnExactSameAheadWrongFalsely : Prop := fnExactSameAheadRow.holds Try.pinned (OpenSpec.ofChange fnExactSameAheadWrong)

/-- 'laws.FnExactSameBehind': WHATEVER THE INPUT: true; the input reads as it did. -/
def fnExactSameBehindSpec : ChangeSpec := { name := "fnExactSameBehind", fn := fun _ => fun
  | [d1, d2] => { results := [.lit (.bool true)], args := [d1, d2] }
  | _ => none }
def fnExactSameBehindRow : OpenClaim := { program := "ythcflhakmbjcmaa", sum := "998f7fd942ea4e8452fca2c970bae4f4f00669d40c5663d12bdeb972515576ae", func := "loop.example/g00825/laws.FnExactSameBehind", spec := "fnExactSameBehind", inPlace := ["internal/bytealg.IndexByteString", "internal/bytealg.IndexString"], unfollowed := true, recurses := true, named := ["internal/bytealg.MaxLen"], apart := false }
def FnExactSameBehindSaid : Prop := fnExactSameBehindRow.holds Try.pinned (OpenSpec.ofChange fnExactSameBehindSpec)

/-- ITS FALSE NEIGHBOUR: 'it returns false'. Refute it at one input. -/
def fnExactSameBehindWrong : ChangeSpec := { name := "fnExactSameBehind", fn := fun _ => fun
  | [d1, d2] => { results := [.lit (.bool false)], args := [d1, d2] }
  | _ => none }
def FnExactSameBehindWrongFalsely : Prop := fnExactSameBehindRow.holds Try.pinned (OpenSpec.ofChange fnExactSameBehindWrong)

/-- 'laws.FnExactCommon': WHATEVER THE INPUT: true; the input reads as it did. -/
def fnExactCommonSpec : ChangeSpec := { name := "fnExactCommon", fn := fun _ => fun
  | [d1, d2] => { results := [.lit (.bool true)], args := [d1, d2] }
  | _ => none }
def fnExactCommonRow : OpenClaim := { program := "ythcflhakmbjcmaa", sum := "998f7fd942ea4e8452fca2c970bae4f4f00669d40c5663d12bdeb972515576ae", func := "loop.example/g00825/laws.FnExactCommon", spec := "fnExactCommon", inPlace := ["internal/bytealg.IndexByteString", "internal/bytealg.IndexString"], unfollowed := true, recurses := true, named := ["internal/bytealg.MaxLen"], apart := false }
def FnExactCommonSaid : Prop := fnExactCommonRow.holds Try.pinned (OpenSpec.ofChange fnExactCommonSpec)

/-- ITS FALSE NEIGHBOUR: 'it returns false'. Refute it at one input. -/
def fnExactCommonWrong : ChangeSpec := { name := "fnExactCommon", fn := fun _ => fun
  | [d1, d2] => { results := [.lit (.bool false)], args := [d1, d2] }
  | _ => none }
def FnExactCommonWrongFalsely : Prop := fnExactCommonRow.holds Try.pinned (OpenSpec.ofChange fnExactCommonWrong)

/-- 'laws.FnExactPartOf': WHATEVER THE INPUT: true; the input reads as it did. -/
def fnExactPartOfSpec : ChangeSpec := { name := "fnExactPartOf", fn := fun _ => fun
  | [d1, d2, d3] => { results := [.lit (.bool true)], args := [d1, d2, d3] }
  | _ => none }
def fnExactPartOfRow : OpenClaim := { program := "ythcflhakmbjcmaa", sum := "998f7fd942ea4e8452fca2c970bae4f4f00669d40c5663d12bdeb972515576ae", func := "loop.example/g00825/laws.FnExactPartOf", spec := "fnExactPartOf", inPlace := ["internal/bytealg.IndexByteString", "internal/bytealg.IndexString"], unfollowed := true, recurses := true, named := ["internal/bytealg.MaxLen"], apart := false }
def FnExactPartOfSaid : Prop := fnExactPartOfRow.holds Try.pinned (OpenSpec.ofChange fnExactPartOfSpec)

/-- ITS FALSE NEIGHBOUR: 'it returns false'. Refute it at one input. -/
def fnExactPartOfWrong : ChangeSpec := { name := "fnExactPartOf", fn := fun _ => fun
  | [d1, d2, d3] => { results := [.lit (.bool false)], args := [d1, d2, d3] }
  | _ => none }
def FnExactPartOfWrongFalsely : Prop := fnExactPartOfRow.holds Try.pinned (OpenSpec.ofChange fnExactPartOfWrong)

/-- 'laws.FnExactFarApart': WHATEVER THE INPUT: true; the input reads as it did. -/
def fnExactFarApartSpec : ChangeSpec := { name := "fnExactFarApart", fn := fun _ => fun
  | [d1, d2] => { results := [.lit (.bool true)], args := [d1, d2] }
  | _ => none }
def fnExactFarApartRow : OpenClaim := { program := "ythcflhakmbjcmaa", sum := "998f7fd942ea4e8452fca2c970bae4f4f00669d40c5663d12bdeb972515576ae", func := "loop.example/g00825/laws.FnExactFarApart", spec := "fnExactFarApart", inPlace := ["internal/bytealg.IndexByteString", "internal/bytealg.IndexString"], unfollowed := true, recurses := true, named := ["internal/bytealg.MaxLen"], apart := false }
def FnExactFarApartSaid : Prop := fnExactFarApartRow.holds Try.pinned (OpenSpec.ofChange fnExactFarApartSpec)

/-- ITS FALSE NEIGHBOUR: 'it returns false'. Refute it at one input. -/
def fnExactFarApartWrong : ChangeSpec := { name := "fnExactFarApart", fn := fun _ => fun
  | [d1, d2] => { results := [.lit (.bool false)], args := [d1, d2] }
  | _ => none }
def FnExactFarApartWrongFalsely : Prop := fnExactFarApartRow.holds Try.pinned (OpenSpec.ofChange fnExactFarApartWrong)

/- THE SECOND FORM. 'bulk': how many values and letters a reading holds, each counted each time it is reached (what is shared counts as often as it is met; a slice's spare places count too). A statement '..UptoSaid' is the law's where the arguments, and the package variables that the reading takes, are together of bulk at most 1048576: NARROWER than '..Said'. Prove '..Said' where nothing that the law and all that it calls make is longer than what came in: it says more and counts as full. Else prove '..UptoSaid'. A law counts once. -/
mutual
def uptoBulk {H : Type} : DataW H → Nat
  | .lit (.string bytes) => bytes.length + 1
  | .lit _ => 1
  | .nil => 1
  | .ptr d => uptoBulk d + 1
  | .slice elems spare => uptoBulkAll elems + uptoBulkAll spare + 1
  | .agg parts => uptoBulkAll parts + 1
  | .iface _ d => uptoBulk d + 1
  | .map entries => uptoBulkEntries entries + 1
  | .held _ => 1
def uptoBulkAll {H : Type} : List (DataW H) → Nat
  | [] => 0
  | d :: r => uptoBulk d + uptoBulkAll r
def uptoBulkEntries {H : Type} : List (Lit × DataW H) → Nat
  | [] => 0
  | x :: r => uptoBulkEntry x + uptoBulkEntries r
def uptoBulkEntry {H : Type} : Lit × DataW H → Nat
  | (.string bytes, d) => bytes.length + uptoBulk d + 1
  | (_, d) => uptoBulk d + 1
 end
def uptoSmall : (H : Type) → List (DataW H) → Bool := fun _ ds => decide (uptoBulkAll ds ≤ 1048576)
def OpenSpec.upto (s : _root_.Go.ChangeSpec) : _root_.Go.OpenSpec := { _root_.Go.OpenSpec.ofChange s with cond := some uptoSmall }

/-- 'laws.FnExactConstants', WHERE WHAT IT READS IS OF BULK AT MOST 1048576: true; the input reads as it did. -/
def fnExactConstantsUptoRow : OpenClaim := { program := "ythcflhakmbjcmaa", sum := "998f7fd942ea4e8452fca2c970bae4f4f00669d40c5663d12bdeb972515576ae", func := "loop.example/g00825/laws.FnExactConstants", spec := "fnExactConstants", apart := false, narrowed := true }
def FnExactConstantsUptoSaid : Prop := fnExactConstantsUptoRow.holds Try.pinned (OpenSpec.upto fnExactConstantsSpec)

/-- 'laws.FnExactSameHunks', WHERE WHAT IT READS IS OF BULK AT MOST 1048576: true; the input reads as it did. -/
def fnExactSameHunksUptoRow : OpenClaim := { program := "ythcflhakmbjcmaa", sum := "998f7fd942ea4e8452fca2c970bae4f4f00669d40c5663d12bdeb972515576ae", func := "loop.example/g00825/laws.FnExactSameHunks", spec := "fnExactSameHunks", unfollowed := true, recurses := true, apart := false, narrowed := true }
def FnExactSameHunksUptoSaid : Prop := fnExactSameHunksUptoRow.holds Try.pinned (OpenSpec.upto fnExactSameHunksSpec)

/-- 'laws.FnExactPlainOf', WHERE WHAT IT READS IS OF BULK AT MOST 1048576: true; the input reads as it did. -/
def fnExactPlainOfUptoRow : OpenClaim := { program := "ythcflhakmbjcmaa", sum := "998f7fd942ea4e8452fca2c970bae4f4f00669d40c5663d12bdeb972515576ae", func := "loop.example/g00825/laws.FnExactPlainOf", spec := "fnExactPlainOf", inPlace := ["internal/bytealg.IndexByteString", "internal/bytealg.IndexString"], named := ["internal/bytealg.MaxLen"], apart := false, narrowed := true }
def FnExactPlainOfUptoSaid : Prop := fnExactPlainOfUptoRow.holds Try.pinned (OpenSpec.upto fnExactPlainOfSpec)

/-- 'laws.FnExactGoodLines', WHERE WHAT IT READS IS OF BULK AT MOST 1048576: true; the input reads as it did. -/
def fnExactGoodLinesUptoRow : OpenClaim := { program := "ythcflhakmbjcmaa", sum := "998f7fd942ea4e8452fca2c970bae4f4f00669d40c5663d12bdeb972515576ae", func := "loop.example/g00825/laws.FnExactGoodLines", spec := "fnExactGoodLines", inPlace := ["internal/bytealg.IndexByteString", "internal/bytealg.IndexString"], unfollowed := true, recurses := true, named := ["internal/bytealg.MaxLen"], apart := false, narrowed := true }
def FnExactGoodLinesUptoSaid : Prop := fnExactGoodLinesUptoRow.holds Try.pinned (OpenSpec.upto fnExactGoodLinesSpec)

/-- 'laws.FnExactIsWhole', WHERE WHAT IT READS IS OF BULK AT MOST 1048576: true; the input reads as it did. -/
def fnExactIsWholeUptoRow : OpenClaim := { program := "ythcflhakmbjcmaa", sum := "998f7fd942ea4e8452fca2c970bae4f4f00669d40c5663d12bdeb972515576ae", func := "loop.example/g00825/laws.FnExactIsWhole", spec := "fnExactIsWhole", inPlace := ["internal/bytealg.IndexByteString", "internal/bytealg.IndexString"], unfollowed := true, recurses := true, named := ["internal/bytealg.MaxLen"], apart := false, narrowed := true }
def FnExactIsWholeUptoSaid : Prop := fnExactIsWholeUptoRow.holds Try.pinned (OpenSpec.upto fnExactIsWholeSpec)

/-- 'laws.FnExactSameAhead', WHERE WHAT IT READS IS OF BULK AT MOST 1048576: true; the input reads as it did. -/
def fnExactSameAheadUptoRow : OpenClaim := { program := "ythcflhakmbjcmaa", sum := "998f7fd942ea4e8452fca2c970bae4f4f00669d40c5663d12bdeb972515576ae", func := "loop.example/g00825/laws.FnExactSameAhead", spec := "fnExactSameAhead", inPlace := ["internal/bytealg.IndexByteString", "internal/bytealg.IndexString"], unfollowed := true, recurses := true, named := ["internal/bytealg.MaxLen"], apart := false, narrowed := true }
def FnExactSameAheadUptoSaid : Prop := fnExactSameAheadUptoRow.holds Try.pinned (OpenSpec.upto fnExactSameAheadSpec)

/-- 'laws.FnExactSameBehind', WHERE WHAT IT READS IS OF BULK AT MOST 1048576: true; the input reads as it did. -/
def fnExactSameBehindUptoRow : OpenClaim := { program := "ythcflhakmbjcmaa", sum := "998f7fd942ea4e8452fca2c970bae4f4f00669d40c5663d12bdeb972515576ae", func := "loop.example/g00825/laws.FnExactSameBehind", spec := "fnExactSameBehind", inPlace := ["internal/bytealg.IndexByteString", "internal/bytealg.IndexString"], unfollowed := true, recurses := true, named := ["internal/bytealg.MaxLen"], apart := false, narrowed := true }
def FnExactSameBehindUptoSaid : Prop := fnExactSameBehindUptoRow.holds Try.pinned (OpenSpec.upto fnExactSameBehindSpec)

/-- 'laws.FnExactCommon', WHERE WHAT IT READS IS OF BULK AT MOST 1048576: true; the input reads as it did. -/
def fnExactCommonUptoRow : OpenClaim := { program := "ythcflhakmbjcmaa", sum := "998f7fd942ea4e8452fca2c970bae4f4f00669d40c5663d12bdeb972515576ae", func := "loop.example/g00825/laws.FnExactCommon", spec := "fnExactCommon", inPlace := ["internal/bytealg.IndexByteString", "internal/bytealg.IndexString"], unfollowed := true, recurses := true, named := ["internal/bytealg.MaxLen"], apart := false, narrowed := true }
def FnExactCommonUptoSaid : Prop := fnExactCommonUptoRow.holds Try.pinned (OpenSpec.upto fnExactCommonSpec)

/-- 'laws.FnExactPartOf', WHERE WHAT IT READS IS OF BULK AT MOST 1048576: true; the input reads as it did. -/
def fnExactPartOfUptoRow : OpenClaim := { program := "ythcflhakmbjcmaa", sum := "998f7fd942ea4e8452fca2c970bae4f4f00669d40c5663d12bdeb972515576ae", func := "loop.example/g00825/laws.FnExactPartOf", spec := "fnExactPartOf", inPlace := ["internal/bytealg.IndexByteString", "internal/bytealg.IndexString"], unfollowed := true, recurses := true, named := ["internal/bytealg.MaxLen"], apart := false, narrowed := true }
def FnExactPartOfUptoSaid : Prop := fnExactPartOfUptoRow.holds Try.pinned (OpenSpec.upto fnExactPartOfSpec)

/-- 'laws.FnExactFarApart', WHERE WHAT IT READS IS OF BULK AT MOST 1048576: true; the input reads as it did. -/
def fnExactFarApartUptoRow : OpenClaim := { program := "ythcflhakmbjcmaa", sum := "998f7fd942ea4e8452fca2c970bae4f4f00669d40c5663d12bdeb972515576ae", func := "loop.example/g00825/laws.FnExactFarApart", spec := "fnExactFarApart", inPlace := ["internal/bytealg.IndexByteString", "internal/bytealg.IndexString"], unfollowed := true, recurses := true, named := ["internal/bytealg.MaxLen"], apart := false, narrowed := true }
def FnExactFarApartUptoSaid : Prop := fnExactFarApartUptoRow.holds Try.pinned (OpenSpec.upto fnExactFarApartSpec)

end Rows
end Go.Proofs.Ythcflhakmbjcmaa
