/-
  DERIVED. GIVEN WITH THE SEED: THE CARDS: each row of YtmcldkobejhaeaaGreatDoorRows.lean that lists a variable, with what it lists TIED to the program's text (the seventh form; the later family's looks); each row that meets fmt, with fmt's text TOLD by the authors' own Lean function (tested against real Go, not proved from fmt's source: count such statements apart). THE CARD IS WHAT COUNTS. Prove the row's statement (the work); the ties are given (YtmcldkobejhaeaaGreatDoorTie.lean); close each card by the builder's one call (the guide's Derived/Test/ToyasCard.lean, 'card_holds'). Laid BY PROGRAM, IN A SANDBOX (cutbox-door.mjs). By AI agents, Wed Nov 11 2026. No macro, syntax, notation, axiom, sorry.
-/
import Derived.Test.YtmcldkobejhaeaaGreatDoorRows
import GoSem.ClaimSeven
namespace Go.Proofs.YtmcldkobejhaeaaGreatDoor
namespace Rows

/-- THE TIED CARD OF 'laws.FnNormal'. -/
def fnNormalCard : Claim7 := { stood := { row := fnNormalRow, standIns := [], harness := (true, "63312e048a7d98012912cd4b8978261ee691c673fe96d80c207e400bca6b5639"), looks := true }, kinds := [], alts := [], laidByText := true, laidKinds := [.data, .data, .data], laidTests := true, laidLooks := .later }
def FnNormalCardSaid : Prop := Claim7.holds Tryz.pinned (.plain (OpenSpec.ofChange fnNormalSpec)) fnNormalCard

/-- THE TIED CARD OF 'laws.FnExactReadNormal'. -/
def fnExactReadNormalCard : Claim7 := { stood := { row := fnExactReadNormalRow, standIns := [], harness := (true, "63312e048a7d98012912cd4b8978261ee691c673fe96d80c207e400bca6b5639"), looks := true }, kinds := [], alts := [], laidByText := true, laidKinds := [.data, .data, .data, .data, .sentinel, .sentinel, .pinned], laidTests := true, laidLooks := .later }
def FnExactReadNormalCardSaid : Prop := Claim7.holds Tryz.pinned (.plain (OpenSpec.ofChange fnExactReadNormalSpec)) fnExactReadNormalCard

/-- THE SECOND FORM's CARD OF 'laws.FnNormal'. -/
def fnNormalUptoCard : Claim7 := { stood := { row := fnNormalUptoRow, standIns := [], harness := (true, "63312e048a7d98012912cd4b8978261ee691c673fe96d80c207e400bca6b5639"), looks := true }, kinds := [], alts := [], laidByText := true, laidKinds := [.data, .data, .data], laidTests := true, laidLooks := .later }
def FnNormalUptoCardSaid : Prop := Claim7.holds Tryz.pinned (.plain (OpenSpec.upto fnNormalSpec)) fnNormalUptoCard

/-- THE SECOND FORM's CARD OF 'laws.FnExactReadNormal'. -/
def fnExactReadNormalUptoCard : Claim7 := { stood := { row := fnExactReadNormalUptoRow, standIns := [], harness := (true, "63312e048a7d98012912cd4b8978261ee691c673fe96d80c207e400bca6b5639"), looks := true }, kinds := [], alts := [], laidByText := true, laidKinds := [.data, .data, .data, .data, .sentinel, .sentinel, .pinned], laidTests := true, laidLooks := .later }
def FnExactReadNormalUptoCardSaid : Prop := Claim7.holds Tryz.pinned (.plain (OpenSpec.upto fnExactReadNormalSpec)) fnExactReadNormalUptoCard
end Rows
end Go.Proofs.YtmcldkobejhaeaaGreatDoor
