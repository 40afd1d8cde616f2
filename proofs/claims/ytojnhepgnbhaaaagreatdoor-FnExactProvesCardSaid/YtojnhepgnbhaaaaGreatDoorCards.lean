/-
  DERIVED. GIVEN WITH THE SEED: THE CARDS: each row of YtojnhepgnbhaaaaGreatDoorRows.lean that lists a variable, with what it lists TIED to the program's text (the seventh form; the later family's looks); each row that meets fmt, with fmt's text TOLD by the authors' own Lean function (tested against real Go, not proved from fmt's source: count such statements apart). THE CARD IS WHAT COUNTS. Prove the row's statement (the work); the ties are given (YtojnhepgnbhaaaaGreatDoorTie.lean); close each card by the builder's one call (the guide's Derived/Test/ToyasCard.lean, 'card_holds'). Laid BY PROGRAM, IN A SANDBOX (cutbox-door.mjs). By AI agents, Wed Nov 11 2026. No macro, syntax, notation, axiom, sorry.
-/
import Derived.Test.YtojnhepgnbhaaaaGreatDoorRows
import GoSem.ClaimSeven
namespace Go.Proofs.YtojnhepgnbhaaaaGreatDoor
namespace Rows

/-- THE TIED CARD OF 'laws.FnExactGroundReasons'. -/
def fnExactGroundReasonsCard : Claim7 := { stood := { row := fnExactGroundReasonsRow, standIns := [], harness := (true, "c11908d70269ae0f859e281cdad7ee28db4552fce9fa7e71b63e962672a75d8a"), looks := true }, kinds := [], alts := [], laidByText := true, laidKinds := [.data, .data, .data, .sentinel, .sentinel], laidTests := true, laidLooks := .later }
def FnExactGroundReasonsCardSaid : Prop := Claim7.holds Tryz.pinned (.plain (OpenSpec.ofChange fnExactGroundReasonsSpec)) fnExactGroundReasonsCard

/-- THE TIED CARD OF 'laws.FnExactModelOf'. -/
def fnExactModelOfCard : Claim7 := { stood := { row := fnExactModelOfRow, standIns := [], harness := (true, "c11908d70269ae0f859e281cdad7ee28db4552fce9fa7e71b63e962672a75d8a"), looks := true }, kinds := [], alts := [], laidByText := true, laidKinds := [.data, .data, .data, .sentinel, .sentinel], laidTests := true, laidLooks := .later }
def FnExactModelOfCardSaid : Prop := Claim7.holds Tryz.pinned (.plain (OpenSpec.ofChange fnExactModelOfSpec)) fnExactModelOfCard

/-- THE TIED CARD OF 'laws.FnExactAskPattern'. -/
def fnExactAskPatternCard : Claim7 := { stood := { row := fnExactAskPatternRow, standIns := [], harness := (true, "c11908d70269ae0f859e281cdad7ee28db4552fce9fa7e71b63e962672a75d8a"), looks := true }, kinds := [], alts := [], laidByText := true, laidKinds := [.data, .data, .data, .sentinel, .sentinel], laidTests := true, laidLooks := .later }
def FnExactAskPatternCardSaid : Prop := Claim7.holds Tryz.pinned (.plain (OpenSpec.ofChange fnExactAskPatternSpec)) fnExactAskPatternCard

/-- THE TIED CARD OF 'laws.FnExactWithdrawFact'. -/
def fnExactWithdrawFactCard : Claim7 := { stood := { row := fnExactWithdrawFactRow, standIns := [], harness := (true, "c11908d70269ae0f859e281cdad7ee28db4552fce9fa7e71b63e962672a75d8a"), looks := true }, kinds := [], alts := [], laidByText := true, laidKinds := [.data, .data, .data, .sentinel, .sentinel], laidTests := true, laidLooks := .later }
def FnExactWithdrawFactCardSaid : Prop := Claim7.holds Tryz.pinned (.plain (OpenSpec.ofChange fnExactWithdrawFactSpec)) fnExactWithdrawFactCard

/-- THE TIED CARD OF 'laws.FnExactIsProof'. -/
def fnExactIsProofCard : Claim7 := { stood := { row := fnExactIsProofRow, standIns := [], harness := (true, "c11908d70269ae0f859e281cdad7ee28db4552fce9fa7e71b63e962672a75d8a"), looks := true }, kinds := [], alts := [], laidByText := true, laidKinds := [.data, .data, .data, .sentinel, .sentinel], laidTests := true, laidLooks := .later }
def FnExactIsProofCardSaid : Prop := Claim7.holds Tryz.pinned (.plain (OpenSpec.ofChange fnExactIsProofSpec)) fnExactIsProofCard

/-- THE TIED CARD OF 'laws.FnExactProves'. -/
def fnExactProvesCard : Claim7 := { stood := { row := fnExactProvesRow, standIns := [], harness := (true, "c11908d70269ae0f859e281cdad7ee28db4552fce9fa7e71b63e962672a75d8a"), looks := true }, kinds := [], alts := [], laidByText := true, laidKinds := [.data, .data, .data, .sentinel, .sentinel], laidTests := true, laidLooks := .later }
def FnExactProvesCardSaid : Prop := Claim7.holds Tryz.pinned (.plain (OpenSpec.ofChange fnExactProvesSpec)) fnExactProvesCard

/-- THE SECOND FORM's CARD OF 'laws.FnExactGroundReasons'. -/
def fnExactGroundReasonsUptoCard : Claim7 := { stood := { row := fnExactGroundReasonsUptoRow, standIns := [], harness := (true, "c11908d70269ae0f859e281cdad7ee28db4552fce9fa7e71b63e962672a75d8a"), looks := true }, kinds := [], alts := [], laidByText := true, laidKinds := [.data, .data, .data, .sentinel, .sentinel], laidTests := true, laidLooks := .later }
def FnExactGroundReasonsUptoCardSaid : Prop := Claim7.holds Tryz.pinned (.plain (OpenSpec.upto fnExactGroundReasonsSpec)) fnExactGroundReasonsUptoCard

/-- THE SECOND FORM's CARD OF 'laws.FnExactModelOf'. -/
def fnExactModelOfUptoCard : Claim7 := { stood := { row := fnExactModelOfUptoRow, standIns := [], harness := (true, "c11908d70269ae0f859e281cdad7ee28db4552fce9fa7e71b63e962672a75d8a"), looks := true }, kinds := [], alts := [], laidByText := true, laidKinds := [.data, .data, .data, .sentinel, .sentinel], laidTests := true, laidLooks := .later }
def FnExactModelOfUptoCardSaid : Prop := Claim7.holds Tryz.pinned (.plain (OpenSpec.upto fnExactModelOfSpec)) fnExactModelOfUptoCard

/-- THE SECOND FORM's CARD OF 'laws.FnExactAskPattern'. -/
def fnExactAskPatternUptoCard : Claim7 := { stood := { row := fnExactAskPatternUptoRow, standIns := [], harness := (true, "c11908d70269ae0f859e281cdad7ee28db4552fce9fa7e71b63e962672a75d8a"), looks := true }, kinds := [], alts := [], laidByText := true, laidKinds := [.data, .data, .data, .sentinel, .sentinel], laidTests := true, laidLooks := .later }
def FnExactAskPatternUptoCardSaid : Prop := Claim7.holds Tryz.pinned (.plain (OpenSpec.upto fnExactAskPatternSpec)) fnExactAskPatternUptoCard

/-- THE SECOND FORM's CARD OF 'laws.FnExactWithdrawFact'. -/
def fnExactWithdrawFactUptoCard : Claim7 := { stood := { row := fnExactWithdrawFactUptoRow, standIns := [], harness := (true, "c11908d70269ae0f859e281cdad7ee28db4552fce9fa7e71b63e962672a75d8a"), looks := true }, kinds := [], alts := [], laidByText := true, laidKinds := [.data, .data, .data, .sentinel, .sentinel], laidTests := true, laidLooks := .later }
def FnExactWithdrawFactUptoCardSaid : Prop := Claim7.holds Tryz.pinned (.plain (OpenSpec.upto fnExactWithdrawFactSpec)) fnExactWithdrawFactUptoCard

/-- THE SECOND FORM's CARD OF 'laws.FnExactIsProof'. -/
def fnExactIsProofUptoCard : Claim7 := { stood := { row := fnExactIsProofUptoRow, standIns := [], harness := (true, "c11908d70269ae0f859e281cdad7ee28db4552fce9fa7e71b63e962672a75d8a"), looks := true }, kinds := [], alts := [], laidByText := true, laidKinds := [.data, .data, .data, .sentinel, .sentinel], laidTests := true, laidLooks := .later }
def FnExactIsProofUptoCardSaid : Prop := Claim7.holds Tryz.pinned (.plain (OpenSpec.upto fnExactIsProofSpec)) fnExactIsProofUptoCard

/-- THE SECOND FORM's CARD OF 'laws.FnExactProves'. -/
def fnExactProvesUptoCard : Claim7 := { stood := { row := fnExactProvesUptoRow, standIns := [], harness := (true, "c11908d70269ae0f859e281cdad7ee28db4552fce9fa7e71b63e962672a75d8a"), looks := true }, kinds := [], alts := [], laidByText := true, laidKinds := [.data, .data, .data, .sentinel, .sentinel], laidTests := true, laidLooks := .later }
def FnExactProvesUptoCardSaid : Prop := Claim7.holds Tryz.pinned (.plain (OpenSpec.upto fnExactProvesSpec)) fnExactProvesUptoCard
end Rows
end Go.Proofs.YtojnhepgnbhaaaaGreatDoor
