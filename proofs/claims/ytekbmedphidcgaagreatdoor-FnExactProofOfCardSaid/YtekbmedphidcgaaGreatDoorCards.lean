/-
  DERIVED. GIVEN WITH THE SEED: THE CARDS: each row of YtekbmedphidcgaaGreatDoorRows.lean that lists a variable, with what it lists TIED to the program's text (the seventh form; the later family's looks); each row that meets fmt, with fmt's text TOLD by the authors' own Lean function (tested against real Go, not proved from fmt's source: count such statements apart). THE CARD IS WHAT COUNTS. Prove the row's statement (the work); the ties are given (YtekbmedphidcgaaGreatDoorTie.lean); close each card by the builder's one call (the guide's Derived/Test/ToyasCard.lean, 'card_holds'). Laid BY PROGRAM, IN A SANDBOX (cutbox-door.mjs). By AI agents, Wed Nov 11 2026. No macro, syntax, notation, axiom, sorry.
-/
import Derived.Test.YtekbmedphidcgaaGreatDoorRows
import GoSem.ClaimSeven
namespace Go.Proofs.YtekbmedphidcgaaGreatDoor
namespace Rows

/-- THE TIED CARD OF 'laws.FnExactDerivedOf'. -/
def fnExactDerivedOfCard : Claim7 := { stood := { row := fnExactDerivedOfRow, standIns := [], harness := (true, "6247140c6fb1777caa617b80306d7b7d3347d271c202ce96d02c111c89ebba22"), looks := true }, kinds := [], alts := [], laidByText := true, laidKinds := [.data, .data, .data, .sentinel, .sentinel], laidTests := true, laidLooks := .later }
def FnExactDerivedOfCardSaid : Prop := Claim7.holds Tryz.pinned (.plain (OpenSpec.ofChange fnExactDerivedOfSpec)) fnExactDerivedOfCard

/-- THE TIED CARD OF 'laws.FnExactAskModel'. -/
def fnExactAskModelCard : Claim7 := { stood := { row := fnExactAskModelRow, standIns := [], harness := (true, "6247140c6fb1777caa617b80306d7b7d3347d271c202ce96d02c111c89ebba22"), looks := true }, kinds := [], alts := [], laidByText := true, laidKinds := [.data, .data, .data, .sentinel, .sentinel], laidTests := true, laidLooks := .later }
def FnExactAskModelCardSaid : Prop := Claim7.holds Tryz.pinned (.plain (OpenSpec.ofChange fnExactAskModelSpec)) fnExactAskModelCard

/-- THE TIED CARD OF 'laws.FnAsked'. -/
def fnAskedCard : Claim7 := { stood := { row := fnAskedRow, standIns := [], harness := (true, "6247140c6fb1777caa617b80306d7b7d3347d271c202ce96d02c111c89ebba22"), looks := true }, kinds := [], alts := [], laidByText := true, laidKinds := [.data, .data, .data, .sentinel, .sentinel], laidTests := true, laidLooks := .later }
def FnAskedCardSaid : Prop := Claim7.holds Tryz.pinned (.plain (OpenSpec.ofChange fnAskedSpec)) fnAskedCard

/-- THE TIED CARD OF 'laws.FnExactProofOf'. -/
def fnExactProofOfCard : Claim7 := { stood := { row := fnExactProofOfRow, standIns := [], harness := (true, "6247140c6fb1777caa617b80306d7b7d3347d271c202ce96d02c111c89ebba22"), looks := true }, kinds := [], alts := [], laidByText := true, laidKinds := [.data, .data, .data, .sentinel, .sentinel], laidTests := true, laidLooks := .later }
def FnExactProofOfCardSaid : Prop := Claim7.holds Tryz.pinned (.plain (OpenSpec.ofChange fnExactProofOfSpec)) fnExactProofOfCard

/-- THE TIED CARD OF 'laws.FnProved'. -/
def fnProvedCard : Claim7 := { stood := { row := fnProvedRow, standIns := [], harness := (true, "6247140c6fb1777caa617b80306d7b7d3347d271c202ce96d02c111c89ebba22"), looks := true }, kinds := [], alts := [], laidByText := true, laidKinds := [.data, .data, .data, .sentinel, .sentinel], laidTests := true, laidLooks := .later }
def FnProvedCardSaid : Prop := Claim7.holds Tryz.pinned (.plain (OpenSpec.ofChange fnProvedSpec)) fnProvedCard

/-- THE TIED CARD OF 'laws.FnGivenEnough'. -/
def fnGivenEnoughCard : Claim7 := { stood := { row := fnGivenEnoughRow, standIns := [], harness := (true, "6247140c6fb1777caa617b80306d7b7d3347d271c202ce96d02c111c89ebba22"), looks := true }, kinds := [], alts := [], laidByText := true, laidKinds := [.data, .data, .data, .sentinel, .sentinel], laidTests := true, laidLooks := .later }
def FnGivenEnoughCardSaid : Prop := Claim7.holds Tryz.pinned (.plain (OpenSpec.ofChange fnGivenEnoughSpec)) fnGivenEnoughCard

/-- THE TIED CARD OF 'laws.FnGround'. -/
def fnGroundCard : Claim7 := { stood := { row := fnGroundRow, standIns := [], harness := (true, "6247140c6fb1777caa617b80306d7b7d3347d271c202ce96d02c111c89ebba22"), looks := true }, kinds := [], alts := [], laidByText := true, laidKinds := [.data, .data, .data, .sentinel, .sentinel], laidTests := true, laidLooks := .later }
def FnGroundCardSaid : Prop := Claim7.holds Tryz.pinned (.plain (OpenSpec.ofChange fnGroundSpec)) fnGroundCard

/-- THE SECOND FORM's CARD OF 'laws.FnExactDerivedOf'. -/
def fnExactDerivedOfUptoCard : Claim7 := { stood := { row := fnExactDerivedOfUptoRow, standIns := [], harness := (true, "6247140c6fb1777caa617b80306d7b7d3347d271c202ce96d02c111c89ebba22"), looks := true }, kinds := [], alts := [], laidByText := true, laidKinds := [.data, .data, .data, .sentinel, .sentinel], laidTests := true, laidLooks := .later }
def FnExactDerivedOfUptoCardSaid : Prop := Claim7.holds Tryz.pinned (.plain (OpenSpec.upto fnExactDerivedOfSpec)) fnExactDerivedOfUptoCard

/-- THE SECOND FORM's CARD OF 'laws.FnExactAskModel'. -/
def fnExactAskModelUptoCard : Claim7 := { stood := { row := fnExactAskModelUptoRow, standIns := [], harness := (true, "6247140c6fb1777caa617b80306d7b7d3347d271c202ce96d02c111c89ebba22"), looks := true }, kinds := [], alts := [], laidByText := true, laidKinds := [.data, .data, .data, .sentinel, .sentinel], laidTests := true, laidLooks := .later }
def FnExactAskModelUptoCardSaid : Prop := Claim7.holds Tryz.pinned (.plain (OpenSpec.upto fnExactAskModelSpec)) fnExactAskModelUptoCard

/-- THE SECOND FORM's CARD OF 'laws.FnAsked'. -/
def fnAskedUptoCard : Claim7 := { stood := { row := fnAskedUptoRow, standIns := [], harness := (true, "6247140c6fb1777caa617b80306d7b7d3347d271c202ce96d02c111c89ebba22"), looks := true }, kinds := [], alts := [], laidByText := true, laidKinds := [.data, .data, .data, .sentinel, .sentinel], laidTests := true, laidLooks := .later }
def FnAskedUptoCardSaid : Prop := Claim7.holds Tryz.pinned (.plain (OpenSpec.upto fnAskedSpec)) fnAskedUptoCard

/-- THE SECOND FORM's CARD OF 'laws.FnExactProofOf'. -/
def fnExactProofOfUptoCard : Claim7 := { stood := { row := fnExactProofOfUptoRow, standIns := [], harness := (true, "6247140c6fb1777caa617b80306d7b7d3347d271c202ce96d02c111c89ebba22"), looks := true }, kinds := [], alts := [], laidByText := true, laidKinds := [.data, .data, .data, .sentinel, .sentinel], laidTests := true, laidLooks := .later }
def FnExactProofOfUptoCardSaid : Prop := Claim7.holds Tryz.pinned (.plain (OpenSpec.upto fnExactProofOfSpec)) fnExactProofOfUptoCard

/-- THE SECOND FORM's CARD OF 'laws.FnProved'. -/
def fnProvedUptoCard : Claim7 := { stood := { row := fnProvedUptoRow, standIns := [], harness := (true, "6247140c6fb1777caa617b80306d7b7d3347d271c202ce96d02c111c89ebba22"), looks := true }, kinds := [], alts := [], laidByText := true, laidKinds := [.data, .data, .data, .sentinel, .sentinel], laidTests := true, laidLooks := .later }
def FnProvedUptoCardSaid : Prop := Claim7.holds Tryz.pinned (.plain (OpenSpec.upto fnProvedSpec)) fnProvedUptoCard

/-- THE SECOND FORM's CARD OF 'laws.FnGivenEnough'. -/
def fnGivenEnoughUptoCard : Claim7 := { stood := { row := fnGivenEnoughUptoRow, standIns := [], harness := (true, "6247140c6fb1777caa617b80306d7b7d3347d271c202ce96d02c111c89ebba22"), looks := true }, kinds := [], alts := [], laidByText := true, laidKinds := [.data, .data, .data, .sentinel, .sentinel], laidTests := true, laidLooks := .later }
def FnGivenEnoughUptoCardSaid : Prop := Claim7.holds Tryz.pinned (.plain (OpenSpec.upto fnGivenEnoughSpec)) fnGivenEnoughUptoCard

/-- THE SECOND FORM's CARD OF 'laws.FnGround'. -/
def fnGroundUptoCard : Claim7 := { stood := { row := fnGroundUptoRow, standIns := [], harness := (true, "6247140c6fb1777caa617b80306d7b7d3347d271c202ce96d02c111c89ebba22"), looks := true }, kinds := [], alts := [], laidByText := true, laidKinds := [.data, .data, .data, .sentinel, .sentinel], laidTests := true, laidLooks := .later }
def FnGroundUptoCardSaid : Prop := Claim7.holds Tryz.pinned (.plain (OpenSpec.upto fnGroundSpec)) fnGroundUptoCard
end Rows
end Go.Proofs.YtekbmedphidcgaaGreatDoor
