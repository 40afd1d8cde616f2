/-
  DERIVED. GIVEN WITH THE SEED: THE CARDS: each row of YtppjenkjopjeiaaDoorRows.lean that lists a variable, with what it lists TIED to the program's text (the seventh form; the later family's looks); each row that meets fmt, with fmt's text TOLD by the authors' own Lean function (tested against real Go, not proved from fmt's source: count such statements apart). THE CARD IS WHAT COUNTS. Prove the row's statement (the work); the ties are given (YtppjenkjopjeiaaDoorTie.lean); close each card by the builder's one call (the guide's Derived/Test/ToyasCard.lean, 'card_holds'). Laid BY PROGRAM, IN A SANDBOX (cutbox-door.mjs). By AI agents, Wed Nov 11 2026. No macro, syntax, notation, axiom, sorry.
-/
import Derived.Test.YtppjenkjopjeiaaDoorRows
import GoSem.ClaimSeven
namespace Go.Proofs.YtppjenkjopjeiaaDoor
namespace Rows

/-- THE TIED CARD OF 'laws.FnExactMissLine'. -/
def fnExactMissLineCard : Claim7 := { stood := { row := fnExactMissLineRow, standIns := [], harness := (true, "779061558c15dd95cfafd61e2943c7ef6dc116093e485410b247bf5e824e7d12"), looks := true }, kinds := [], alts := [], laidByText := true, laidKinds := [.data, .data, .data], laidTests := true, laidLooks := .later }
def FnExactMissLineCardSaid : Prop := Claim7.holds Tryd.pinned (.plain (OpenSpec.ofChange fnExactMissLineSpec)) fnExactMissLineCard

/-- THE TIED CARD OF 'laws.FnExactStepLine'. -/
def fnExactStepLineCard : Claim7 := { stood := { row := fnExactStepLineRow, standIns := [], harness := (true, "779061558c15dd95cfafd61e2943c7ef6dc116093e485410b247bf5e824e7d12"), looks := true }, kinds := [], alts := [], laidByText := true, laidKinds := [.data, .data, .data], laidTests := true, laidLooks := .later }
def FnExactStepLineCardSaid : Prop := Claim7.holds Tryd.pinned (.plain (OpenSpec.ofChange fnExactStepLineSpec)) fnExactStepLineCard

/-- THE TIED CARD OF 'laws.FnExactSetText'. -/
def fnExactSetTextCard : Claim7 := { stood := { row := fnExactSetTextRow, standIns := [], harness := (true, "779061558c15dd95cfafd61e2943c7ef6dc116093e485410b247bf5e824e7d12"), looks := true }, kinds := [], alts := [], laidByText := true, laidKinds := [.data, .data, .data], laidTests := true, laidLooks := .later }
def FnExactSetTextCardSaid : Prop := Claim7.holds Tryd.pinned (.plain (OpenSpec.ofChange fnExactSetTextSpec)) fnExactSetTextCard

/-- THE TIED CARD OF 'laws.FnExactGivenIn'. -/
def fnExactGivenInCard : Claim7 := { stood := { row := fnExactGivenInRow, standIns := [], harness := (true, "779061558c15dd95cfafd61e2943c7ef6dc116093e485410b247bf5e824e7d12"), looks := true }, kinds := [], alts := [], laidByText := true, laidKinds := [.data, .data, .data, .sentinel, .sentinel], laidTests := true, laidLooks := .later }
def FnExactGivenInCardSaid : Prop := Claim7.holds Tryd.pinned (.plain (OpenSpec.ofChange fnExactGivenInSpec)) fnExactGivenInCard

/-- THE SECOND FORM's CARD OF 'laws.FnExactMissLine'. -/
def fnExactMissLineUptoCard : Claim7 := { stood := { row := fnExactMissLineUptoRow, standIns := [], harness := (true, "779061558c15dd95cfafd61e2943c7ef6dc116093e485410b247bf5e824e7d12"), looks := true }, kinds := [], alts := [], laidByText := true, laidKinds := [.data, .data, .data], laidTests := true, laidLooks := .later }
def FnExactMissLineUptoCardSaid : Prop := Claim7.holds Tryd.pinned (.plain (OpenSpec.upto fnExactMissLineSpec)) fnExactMissLineUptoCard

/-- THE SECOND FORM's CARD OF 'laws.FnExactStepLine'. -/
def fnExactStepLineUptoCard : Claim7 := { stood := { row := fnExactStepLineUptoRow, standIns := [], harness := (true, "779061558c15dd95cfafd61e2943c7ef6dc116093e485410b247bf5e824e7d12"), looks := true }, kinds := [], alts := [], laidByText := true, laidKinds := [.data, .data, .data], laidTests := true, laidLooks := .later }
def FnExactStepLineUptoCardSaid : Prop := Claim7.holds Tryd.pinned (.plain (OpenSpec.upto fnExactStepLineSpec)) fnExactStepLineUptoCard

/-- THE SECOND FORM's CARD OF 'laws.FnExactSetText'. -/
def fnExactSetTextUptoCard : Claim7 := { stood := { row := fnExactSetTextUptoRow, standIns := [], harness := (true, "779061558c15dd95cfafd61e2943c7ef6dc116093e485410b247bf5e824e7d12"), looks := true }, kinds := [], alts := [], laidByText := true, laidKinds := [.data, .data, .data], laidTests := true, laidLooks := .later }
def FnExactSetTextUptoCardSaid : Prop := Claim7.holds Tryd.pinned (.plain (OpenSpec.upto fnExactSetTextSpec)) fnExactSetTextUptoCard

/-- THE SECOND FORM's CARD OF 'laws.FnExactGivenIn'. -/
def fnExactGivenInUptoCard : Claim7 := { stood := { row := fnExactGivenInUptoRow, standIns := [], harness := (true, "779061558c15dd95cfafd61e2943c7ef6dc116093e485410b247bf5e824e7d12"), looks := true }, kinds := [], alts := [], laidByText := true, laidKinds := [.data, .data, .data, .sentinel, .sentinel], laidTests := true, laidLooks := .later }
def FnExactGivenInUptoCardSaid : Prop := Claim7.holds Tryd.pinned (.plain (OpenSpec.upto fnExactGivenInSpec)) fnExactGivenInUptoCard
end Rows
end Go.Proofs.YtppjenkjopjeiaaDoor
