/-
  DERIVED. GIVEN WITH THE SEED: THE CARDS: each row of YtlkgkkacnoaeaaaGreatDoorRows.lean that lists a variable, with what it lists TIED to the program's text (the seventh form; the later family's looks); each row that meets fmt, with fmt's text TOLD by the authors' own Lean function (tested against real Go, not proved from fmt's source: count such statements apart). THE CARD IS WHAT COUNTS. Prove the row's statement (the work); the ties are given (YtlkgkkacnoaeaaaGreatDoorTie.lean); close each card by the builder's one call (the guide's Derived/Test/ToyasCard.lean, 'card_holds'). Laid BY PROGRAM, IN A SANDBOX (cutbox-door.mjs). By AI agents, Wed Nov 11 2026. No macro, syntax, notation, axiom, sorry.
-/
import Derived.Test.YtlkgkkacnoaeaaaGreatDoorRows
import GoSem.ClaimSeven
namespace Go.Proofs.YtlkgkkacnoaeaaaGreatDoor
namespace Rows

/-- THE TIED CARD OF 'laws.FnExactIsClosed'. -/
def fnExactIsClosedCard : Claim7 := { stood := { row := fnExactIsClosedRow, standIns := [], harness := (true, "6b15eac10970b8203c94087b471767d47c7f63c1aeeafa98577d77715cd33606"), looks := true }, kinds := [], alts := [], laidByText := true, laidKinds := [.data, .data, .data, .sentinel, .sentinel], laidTests := true, laidLooks := .later }
def FnExactIsClosedCardSaid : Prop := Claim7.holds Tryz.pinned (.plain (OpenSpec.ofChange fnExactIsClosedSpec)) fnExactIsClosedCard

/-- THE TIED CARD OF 'laws.FnExactPossibleFacts'. -/
def fnExactPossibleFactsCard : Claim7 := { stood := { row := fnExactPossibleFactsRow, standIns := [], harness := (true, "6b15eac10970b8203c94087b471767d47c7f63c1aeeafa98577d77715cd33606"), looks := true }, kinds := [], alts := [], laidByText := true, laidKinds := [.data, .data, .data, .sentinel, .sentinel], laidTests := true, laidLooks := .later }
def FnExactPossibleFactsCardSaid : Prop := Claim7.holds Tryz.pinned (.plain (OpenSpec.ofChange fnExactPossibleFactsSpec)) fnExactPossibleFactsCard

/-- THE SECOND FORM's CARD OF 'laws.FnExactIsClosed'. -/
def fnExactIsClosedUptoCard : Claim7 := { stood := { row := fnExactIsClosedUptoRow, standIns := [], harness := (true, "6b15eac10970b8203c94087b471767d47c7f63c1aeeafa98577d77715cd33606"), looks := true }, kinds := [], alts := [], laidByText := true, laidKinds := [.data, .data, .data, .sentinel, .sentinel], laidTests := true, laidLooks := .later }
def FnExactIsClosedUptoCardSaid : Prop := Claim7.holds Tryz.pinned (.plain (OpenSpec.upto fnExactIsClosedSpec)) fnExactIsClosedUptoCard

/-- THE SECOND FORM's CARD OF 'laws.FnExactPossibleFacts'. -/
def fnExactPossibleFactsUptoCard : Claim7 := { stood := { row := fnExactPossibleFactsUptoRow, standIns := [], harness := (true, "6b15eac10970b8203c94087b471767d47c7f63c1aeeafa98577d77715cd33606"), looks := true }, kinds := [], alts := [], laidByText := true, laidKinds := [.data, .data, .data, .sentinel, .sentinel], laidTests := true, laidLooks := .later }
def FnExactPossibleFactsUptoCardSaid : Prop := Claim7.holds Tryz.pinned (.plain (OpenSpec.upto fnExactPossibleFactsSpec)) fnExactPossibleFactsUptoCard
end Rows
end Go.Proofs.YtlkgkkacnoaeaaaGreatDoor
