/-
  DERIVED. GIVEN WITH THE SEED: THE CARDS: each row of YtfmbpldjbmhnnaaDoorRows.lean that lists a variable, with what it lists TIED to the program's text (the seventh form; the later family's looks); each row that meets fmt, with fmt's text TOLD by the authors' own Lean function (tested against real Go, not proved from fmt's source: count such statements apart). THE CARD IS WHAT COUNTS. Prove the row's statement (the work); the ties are given (YtfmbpldjbmhnnaaDoorTie.lean); close each card by the builder's one call (the guide's Derived/Test/ToyasCard.lean, 'card_holds'). Laid BY PROGRAM, IN A SANDBOX (cutbox-door.mjs). By AI agents, Wed Nov 11 2026. No macro, syntax, notation, axiom, sorry.
-/
import Derived.Test.YtfmbpldjbmhnnaaDoorRows
import GoSem.ClaimSeven
namespace Go.Proofs.YtfmbpldjbmhnnaaDoor
namespace Rows

/-- THE TIED CARD OF 'laws.FnExactPairText'. -/
def fnExactPairTextCard : Claim7 := { stood := { row := fnExactPairTextRow, standIns := [], harness := (true, "31310bc6a93e47952742f2075c8416d7f3377163b9c5a80de61c1374fb6cb9fe"), looks := true }, kinds := [], alts := [], laidByText := true, laidKinds := [.data, .data, .data], laidTests := true, laidLooks := .later }
def FnExactPairTextCardSaid : Prop := Claim7.holds Tryd.pinned (.plain (OpenSpec.ofChange fnExactPairTextSpec)) fnExactPairTextCard

/-- THE TIED CARD OF 'laws.FnExactEndText'. -/
def fnExactEndTextCard : Claim7 := { stood := { row := fnExactEndTextRow, standIns := [], harness := (true, "31310bc6a93e47952742f2075c8416d7f3377163b9c5a80de61c1374fb6cb9fe"), looks := true }, kinds := [], alts := [], laidByText := true, laidKinds := [.data, .data, .data], laidTests := true, laidLooks := .later }
def FnExactEndTextCardSaid : Prop := Claim7.holds Tryd.pinned (.plain (OpenSpec.ofChange fnExactEndTextSpec)) fnExactEndTextCard

/-- THE TIED CARD OF 'laws.FnExactReadNumber'. -/
def fnExactReadNumberCard : Claim7 := { stood := { row := fnExactReadNumberRow, standIns := [], harness := (true, "31310bc6a93e47952742f2075c8416d7f3377163b9c5a80de61c1374fb6cb9fe"), looks := true }, kinds := [], alts := [], laidByText := true, laidKinds := [.data, .data, .data, .sentinel, .sentinel], laidTests := true, laidLooks := .later }
def FnExactReadNumberCardSaid : Prop := Claim7.holds Tryd.pinned (.plain (OpenSpec.ofChange fnExactReadNumberSpec)) fnExactReadNumberCard

/-- THE TIED CARD OF 'laws.FnExactStepsText'. -/
def fnExactStepsTextCard : Claim7 := { stood := { row := fnExactStepsTextRow, standIns := [], harness := (true, "31310bc6a93e47952742f2075c8416d7f3377163b9c5a80de61c1374fb6cb9fe"), looks := true }, kinds := [], alts := [], laidByText := true, laidKinds := [.data, .data, .data], laidTests := true, laidLooks := .later }
def FnExactStepsTextCardSaid : Prop := Claim7.holds Tryd.pinned (.plain (OpenSpec.ofChange fnExactStepsTextSpec)) fnExactStepsTextCard

/-- THE TIED CARD OF 'laws.FnExactReadEnd'. -/
def fnExactReadEndCard : Claim7 := { stood := { row := fnExactReadEndRow, standIns := [], harness := (true, "31310bc6a93e47952742f2075c8416d7f3377163b9c5a80de61c1374fb6cb9fe"), looks := true }, kinds := [], alts := [], laidByText := true, laidKinds := [.data, .data, .data, .sentinel, .sentinel], laidTests := true, laidLooks := .later }
def FnExactReadEndCardSaid : Prop := Claim7.holds Tryd.pinned (.plain (OpenSpec.ofChange fnExactReadEndSpec)) fnExactReadEndCard

/-- THE TIED CARD OF 'laws.FnExactReadPair'. -/
def fnExactReadPairCard : Claim7 := { stood := { row := fnExactReadPairRow, standIns := [], harness := (true, "31310bc6a93e47952742f2075c8416d7f3377163b9c5a80de61c1374fb6cb9fe"), looks := true }, kinds := [], alts := [], laidByText := true, laidKinds := [.data, .data, .data, .sentinel, .sentinel], laidTests := true, laidLooks := .later }
def FnExactReadPairCardSaid : Prop := Claim7.holds Tryd.pinned (.plain (OpenSpec.ofChange fnExactReadPairSpec)) fnExactReadPairCard

/-- THE TIED CARD OF 'laws.FnExactReadCount'. -/
def fnExactReadCountCard : Claim7 := { stood := { row := fnExactReadCountRow, standIns := [], harness := (true, "31310bc6a93e47952742f2075c8416d7f3377163b9c5a80de61c1374fb6cb9fe"), looks := true }, kinds := [], alts := [], laidByText := true, laidKinds := [.data, .data, .data, .sentinel, .sentinel], laidTests := true, laidLooks := .later }
def FnExactReadCountCardSaid : Prop := Claim7.holds Tryd.pinned (.plain (OpenSpec.ofChange fnExactReadCountSpec)) fnExactReadCountCard

/-- THE TIED CARD OF 'laws.FnExactNormalText'. -/
def fnExactNormalTextCard : Claim7 := { stood := { row := fnExactNormalTextRow, standIns := [], harness := (true, "31310bc6a93e47952742f2075c8416d7f3377163b9c5a80de61c1374fb6cb9fe"), looks := true }, kinds := [], alts := [], laidByText := true, laidKinds := [.data, .data, .data], laidTests := true, laidLooks := .later }
def FnExactNormalTextCardSaid : Prop := Claim7.holds Tryd.pinned (.plain (OpenSpec.ofChange fnExactNormalTextSpec)) fnExactNormalTextCard

/-- THE SECOND FORM's CARD OF 'laws.FnExactPairText'. -/
def fnExactPairTextUptoCard : Claim7 := { stood := { row := fnExactPairTextUptoRow, standIns := [], harness := (true, "31310bc6a93e47952742f2075c8416d7f3377163b9c5a80de61c1374fb6cb9fe"), looks := true }, kinds := [], alts := [], laidByText := true, laidKinds := [.data, .data, .data], laidTests := true, laidLooks := .later }
def FnExactPairTextUptoCardSaid : Prop := Claim7.holds Tryd.pinned (.plain (OpenSpec.upto fnExactPairTextSpec)) fnExactPairTextUptoCard

/-- THE SECOND FORM's CARD OF 'laws.FnExactEndText'. -/
def fnExactEndTextUptoCard : Claim7 := { stood := { row := fnExactEndTextUptoRow, standIns := [], harness := (true, "31310bc6a93e47952742f2075c8416d7f3377163b9c5a80de61c1374fb6cb9fe"), looks := true }, kinds := [], alts := [], laidByText := true, laidKinds := [.data, .data, .data], laidTests := true, laidLooks := .later }
def FnExactEndTextUptoCardSaid : Prop := Claim7.holds Tryd.pinned (.plain (OpenSpec.upto fnExactEndTextSpec)) fnExactEndTextUptoCard

/-- THE SECOND FORM's CARD OF 'laws.FnExactReadNumber'. -/
def fnExactReadNumberUptoCard : Claim7 := { stood := { row := fnExactReadNumberUptoRow, standIns := [], harness := (true, "31310bc6a93e47952742f2075c8416d7f3377163b9c5a80de61c1374fb6cb9fe"), looks := true }, kinds := [], alts := [], laidByText := true, laidKinds := [.data, .data, .data, .sentinel, .sentinel], laidTests := true, laidLooks := .later }
def FnExactReadNumberUptoCardSaid : Prop := Claim7.holds Tryd.pinned (.plain (OpenSpec.upto fnExactReadNumberSpec)) fnExactReadNumberUptoCard

/-- THE SECOND FORM's CARD OF 'laws.FnExactStepsText'. -/
def fnExactStepsTextUptoCard : Claim7 := { stood := { row := fnExactStepsTextUptoRow, standIns := [], harness := (true, "31310bc6a93e47952742f2075c8416d7f3377163b9c5a80de61c1374fb6cb9fe"), looks := true }, kinds := [], alts := [], laidByText := true, laidKinds := [.data, .data, .data], laidTests := true, laidLooks := .later }
def FnExactStepsTextUptoCardSaid : Prop := Claim7.holds Tryd.pinned (.plain (OpenSpec.upto fnExactStepsTextSpec)) fnExactStepsTextUptoCard

/-- THE SECOND FORM's CARD OF 'laws.FnExactReadEnd'. -/
def fnExactReadEndUptoCard : Claim7 := { stood := { row := fnExactReadEndUptoRow, standIns := [], harness := (true, "31310bc6a93e47952742f2075c8416d7f3377163b9c5a80de61c1374fb6cb9fe"), looks := true }, kinds := [], alts := [], laidByText := true, laidKinds := [.data, .data, .data, .sentinel, .sentinel], laidTests := true, laidLooks := .later }
def FnExactReadEndUptoCardSaid : Prop := Claim7.holds Tryd.pinned (.plain (OpenSpec.upto fnExactReadEndSpec)) fnExactReadEndUptoCard

/-- THE SECOND FORM's CARD OF 'laws.FnExactReadPair'. -/
def fnExactReadPairUptoCard : Claim7 := { stood := { row := fnExactReadPairUptoRow, standIns := [], harness := (true, "31310bc6a93e47952742f2075c8416d7f3377163b9c5a80de61c1374fb6cb9fe"), looks := true }, kinds := [], alts := [], laidByText := true, laidKinds := [.data, .data, .data, .sentinel, .sentinel], laidTests := true, laidLooks := .later }
def FnExactReadPairUptoCardSaid : Prop := Claim7.holds Tryd.pinned (.plain (OpenSpec.upto fnExactReadPairSpec)) fnExactReadPairUptoCard

/-- THE SECOND FORM's CARD OF 'laws.FnExactReadCount'. -/
def fnExactReadCountUptoCard : Claim7 := { stood := { row := fnExactReadCountUptoRow, standIns := [], harness := (true, "31310bc6a93e47952742f2075c8416d7f3377163b9c5a80de61c1374fb6cb9fe"), looks := true }, kinds := [], alts := [], laidByText := true, laidKinds := [.data, .data, .data, .sentinel, .sentinel], laidTests := true, laidLooks := .later }
def FnExactReadCountUptoCardSaid : Prop := Claim7.holds Tryd.pinned (.plain (OpenSpec.upto fnExactReadCountSpec)) fnExactReadCountUptoCard

/-- THE SECOND FORM's CARD OF 'laws.FnExactNormalText'. -/
def fnExactNormalTextUptoCard : Claim7 := { stood := { row := fnExactNormalTextUptoRow, standIns := [], harness := (true, "31310bc6a93e47952742f2075c8416d7f3377163b9c5a80de61c1374fb6cb9fe"), looks := true }, kinds := [], alts := [], laidByText := true, laidKinds := [.data, .data, .data], laidTests := true, laidLooks := .later }
def FnExactNormalTextUptoCardSaid : Prop := Claim7.holds Tryd.pinned (.plain (OpenSpec.upto fnExactNormalTextSpec)) fnExactNormalTextUptoCard
end Rows
end Go.Proofs.YtfmbpldjbmhnnaaDoor
