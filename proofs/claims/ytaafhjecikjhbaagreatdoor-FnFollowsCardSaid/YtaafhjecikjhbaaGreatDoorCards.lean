/-
  DERIVED. GIVEN WITH THE SEED: THE CARDS: each row of YtaafhjecikjhbaaGreatDoorRows.lean that lists a variable, with what it lists TIED to the program's text (the seventh form; the later family's looks); each row that meets fmt, with fmt's text TOLD by the authors' own Lean function (tested against real Go, not proved from fmt's source: count such statements apart). THE CARD IS WHAT COUNTS. Prove the row's statement (the work); the ties are given (YtaafhjecikjhbaaGreatDoorTie.lean); close each card by the builder's one call (the guide's Derived/Test/ToyasCard.lean, 'card_holds'). Laid BY PROGRAM, IN A SANDBOX (cutbox-door.mjs). By AI agents, Wed Nov 11 2026. No macro, syntax, notation, axiom, sorry.
-/
import Derived.Test.YtaafhjecikjhbaaGreatDoorRows
import GoSem.ClaimSeven
namespace Go.Proofs.YtaafhjecikjhbaaGreatDoor
namespace Rows

/-- THE TIED CARD OF 'laws.FnFollows'. -/
def fnFollowsCard : Claim7 := { stood := { row := fnFollowsRow, standIns := [], harness := (true, "eb56f6f9ddeb62013a68d2ea279ba13867bf7c459b7d45d11f74e02be15105fc"), looks := true }, kinds := [], alts := [], laidByText := true, laidKinds := [.data, .data, .data, .sentinel, .sentinel], laidTests := true, laidLooks := .later }
def FnFollowsCardSaid : Prop := Claim7.holds Tryz.pinned (.plain (OpenSpec.ofChange fnFollowsSpec)) fnFollowsCard

/-- THE SECOND FORM's CARD OF 'laws.FnFollows'. -/
def fnFollowsUptoCard : Claim7 := { stood := { row := fnFollowsUptoRow, standIns := [], harness := (true, "eb56f6f9ddeb62013a68d2ea279ba13867bf7c459b7d45d11f74e02be15105fc"), looks := true }, kinds := [], alts := [], laidByText := true, laidKinds := [.data, .data, .data, .sentinel, .sentinel], laidTests := true, laidLooks := .later }
def FnFollowsUptoCardSaid : Prop := Claim7.holds Tryz.pinned (.plain (OpenSpec.upto fnFollowsSpec)) fnFollowsUptoCard
end Rows
end Go.Proofs.YtaafhjecikjhbaaGreatDoor
