/-
  DERIVED. GIVEN WITH THE SEED: THE CARDS: each row of YtlpkbfjcdaanmaaGreatDoorRows.lean that lists a variable, with what it lists TIED to the program's text (the seventh form; the later family's looks); each row that meets fmt, with fmt's text TOLD by the authors' own Lean function (tested against real Go, not proved from fmt's source: count such statements apart). THE CARD IS WHAT COUNTS. Prove the row's statement (the work); the ties are given (YtlpkbfjcdaanmaaGreatDoorTie.lean); close each card by the builder's one call (the guide's Derived/Test/ToyasCard.lean, 'card_holds'). Laid BY PROGRAM, IN A SANDBOX (cutbox-door.mjs). By AI agents, Wed Nov 11 2026. No macro, syntax, notation, axiom, sorry.
-/
import Derived.Test.YtlpkbfjcdaanmaaGreatDoorRows
import GoSem.ClaimSeven
namespace Go.Proofs.YtlpkbfjcdaanmaaGreatDoor
namespace Rows

/-- THE TIED CARD OF 'laws.FnExactAskModel'. -/
def fnExactAskModelCard : Claim7 := { stood := { row := fnExactAskModelRow, standIns := [], harness := (true, "f70615ed70b139af261171f6b94a2039783fc7f1940cbf56a31b7c66ca984dd3"), looks := true }, kinds := [], alts := [], laidByText := true, laidKinds := [.data, .data, .data, .sentinel, .sentinel], laidTests := true, laidLooks := .later }
def FnExactAskModelCardSaid : Prop := Claim7.holds Tryz.pinned (.plain (OpenSpec.ofChange fnExactAskModelSpec)) fnExactAskModelCard

/-- THE TIED CARD OF 'laws.FnExactWhyNot'. -/
def fnExactWhyNotCard : Claim7 := { stood := { row := fnExactWhyNotRow, standIns := [], harness := (true, "f70615ed70b139af261171f6b94a2039783fc7f1940cbf56a31b7c66ca984dd3"), looks := true }, kinds := [], alts := [], laidByText := true, laidKinds := [.data, .data, .data, .sentinel, .sentinel, .data], laidTests := true, laidLooks := .later }
def FnExactWhyNotCardSaid : Prop := Claim7.holds Tryz.pinned (.plain (OpenSpec.ofChange fnExactWhyNotSpec)) fnExactWhyNotCard

/-- THE TIED CARD OF 'laws.FnExactExplainFact'. -/
def fnExactExplainFactCard : Claim7 := { stood := { row := fnExactExplainFactRow, standIns := [], harness := (true, "f70615ed70b139af261171f6b94a2039783fc7f1940cbf56a31b7c66ca984dd3"), looks := true }, kinds := [], alts := [], laidByText := true, laidKinds := [.data, .data, .data, .sentinel, .sentinel, .data], laidTests := true, laidLooks := .later }
def FnExactExplainFactCardSaid : Prop := Claim7.holds Tryz.pinned (.plain (OpenSpec.ofChange fnExactExplainFactSpec)) fnExactExplainFactCard

/-- THE TIED CARD OF 'laws.FnMissed'. -/
def fnMissedCard : Claim7 := { stood := { row := fnMissedRow, standIns := [], harness := (true, "f70615ed70b139af261171f6b94a2039783fc7f1940cbf56a31b7c66ca984dd3"), looks := true }, kinds := [], alts := [], laidByText := true, laidKinds := [.data, .data, .data, .sentinel, .sentinel, .data], laidTests := true, laidLooks := .later }
def FnMissedCardSaid : Prop := Claim7.holds Tryz.pinned (.plain (OpenSpec.ofChange fnMissedSpec)) fnMissedCard

/-- THE TIED CARD OF 'laws.FnSound'. -/
def fnSoundCard : Claim7 := { stood := { row := fnSoundRow, standIns := [], harness := (true, "f70615ed70b139af261171f6b94a2039783fc7f1940cbf56a31b7c66ca984dd3"), looks := true }, kinds := [], alts := [], laidByText := true, laidKinds := [.data, .data, .data, .sentinel, .sentinel], laidTests := true, laidLooks := .later }
def FnSoundCardSaid : Prop := Claim7.holds Tryz.pinned (.plain (OpenSpec.ofChange fnSoundSpec)) fnSoundCard

/-- THE TIED CARD OF 'laws.FnTrimmed'. -/
def fnTrimmedCard : Claim7 := { stood := { row := fnTrimmedRow, standIns := [], harness := (true, "f70615ed70b139af261171f6b94a2039783fc7f1940cbf56a31b7c66ca984dd3"), looks := true }, kinds := [], alts := [], laidByText := true, laidKinds := [.data, .data, .data, .sentinel, .sentinel], laidTests := true, laidLooks := .later }
def FnTrimmedCardSaid : Prop := Claim7.holds Tryz.pinned (.plain (OpenSpec.ofChange fnTrimmedSpec)) fnTrimmedCard

/-- THE SECOND FORM's CARD OF 'laws.FnExactAskModel'. -/
def fnExactAskModelUptoCard : Claim7 := { stood := { row := fnExactAskModelUptoRow, standIns := [], harness := (true, "f70615ed70b139af261171f6b94a2039783fc7f1940cbf56a31b7c66ca984dd3"), looks := true }, kinds := [], alts := [], laidByText := true, laidKinds := [.data, .data, .data, .sentinel, .sentinel], laidTests := true, laidLooks := .later }
def FnExactAskModelUptoCardSaid : Prop := Claim7.holds Tryz.pinned (.plain (OpenSpec.upto fnExactAskModelSpec)) fnExactAskModelUptoCard

/-- THE SECOND FORM's CARD OF 'laws.FnExactWhyNot'. -/
def fnExactWhyNotUptoCard : Claim7 := { stood := { row := fnExactWhyNotUptoRow, standIns := [], harness := (true, "f70615ed70b139af261171f6b94a2039783fc7f1940cbf56a31b7c66ca984dd3"), looks := true }, kinds := [], alts := [], laidByText := true, laidKinds := [.data, .data, .data, .sentinel, .sentinel, .data], laidTests := true, laidLooks := .later }
def FnExactWhyNotUptoCardSaid : Prop := Claim7.holds Tryz.pinned (.plain (OpenSpec.upto fnExactWhyNotSpec)) fnExactWhyNotUptoCard

/-- THE SECOND FORM's CARD OF 'laws.FnExactExplainFact'. -/
def fnExactExplainFactUptoCard : Claim7 := { stood := { row := fnExactExplainFactUptoRow, standIns := [], harness := (true, "f70615ed70b139af261171f6b94a2039783fc7f1940cbf56a31b7c66ca984dd3"), looks := true }, kinds := [], alts := [], laidByText := true, laidKinds := [.data, .data, .data, .sentinel, .sentinel, .data], laidTests := true, laidLooks := .later }
def FnExactExplainFactUptoCardSaid : Prop := Claim7.holds Tryz.pinned (.plain (OpenSpec.upto fnExactExplainFactSpec)) fnExactExplainFactUptoCard

/-- THE SECOND FORM's CARD OF 'laws.FnMissed'. -/
def fnMissedUptoCard : Claim7 := { stood := { row := fnMissedUptoRow, standIns := [], harness := (true, "f70615ed70b139af261171f6b94a2039783fc7f1940cbf56a31b7c66ca984dd3"), looks := true }, kinds := [], alts := [], laidByText := true, laidKinds := [.data, .data, .data, .sentinel, .sentinel, .data], laidTests := true, laidLooks := .later }
def FnMissedUptoCardSaid : Prop := Claim7.holds Tryz.pinned (.plain (OpenSpec.upto fnMissedSpec)) fnMissedUptoCard

/-- THE SECOND FORM's CARD OF 'laws.FnSound'. -/
def fnSoundUptoCard : Claim7 := { stood := { row := fnSoundUptoRow, standIns := [], harness := (true, "f70615ed70b139af261171f6b94a2039783fc7f1940cbf56a31b7c66ca984dd3"), looks := true }, kinds := [], alts := [], laidByText := true, laidKinds := [.data, .data, .data, .sentinel, .sentinel], laidTests := true, laidLooks := .later }
def FnSoundUptoCardSaid : Prop := Claim7.holds Tryz.pinned (.plain (OpenSpec.upto fnSoundSpec)) fnSoundUptoCard

/-- THE SECOND FORM's CARD OF 'laws.FnTrimmed'. -/
def fnTrimmedUptoCard : Claim7 := { stood := { row := fnTrimmedUptoRow, standIns := [], harness := (true, "f70615ed70b139af261171f6b94a2039783fc7f1940cbf56a31b7c66ca984dd3"), looks := true }, kinds := [], alts := [], laidByText := true, laidKinds := [.data, .data, .data, .sentinel, .sentinel], laidTests := true, laidLooks := .later }
def FnTrimmedUptoCardSaid : Prop := Claim7.holds Tryz.pinned (.plain (OpenSpec.upto fnTrimmedSpec)) fnTrimmedUptoCard
end Rows
end Go.Proofs.YtlpkbfjcdaanmaaGreatDoor
