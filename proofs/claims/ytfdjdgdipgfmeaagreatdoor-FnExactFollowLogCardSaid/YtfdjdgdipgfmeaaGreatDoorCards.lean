/-
  DERIVED. GIVEN WITH THE SEED: THE CARDS: each row of YtfdjdgdipgfmeaaGreatDoorRows.lean that lists a variable, with what it lists TIED to the program's text (the seventh form; the later family's looks); each row that meets fmt, with fmt's text TOLD by the authors' own Lean function (tested against real Go, not proved from fmt's source: count such statements apart). THE CARD IS WHAT COUNTS. Prove the row's statement (the work); the ties are given (YtfdjdgdipgfmeaaGreatDoorTie.lean); close each card by the builder's one call (the guide's Derived/Test/ToyasCard.lean, 'card_holds'). Laid BY PROGRAM, IN A SANDBOX (cutbox-door.mjs). By AI agents, Wed Nov 11 2026. No macro, syntax, notation, axiom, sorry.
-/
import Derived.Test.YtfdjdgdipgfmeaaGreatDoorRows
import GoSem.ClaimSeven
namespace Go.Proofs.YtfdjdgdipgfmeaaGreatDoor
namespace Rows

/-- THE TIED CARD OF 'laws.FnExactFollowLog'. -/
def fnExactFollowLogCard : Claim7 := { stood := { row := fnExactFollowLogRow, standIns := [], harness := (true, "33df133cc979f3399bfa3c08dd7b9d413309491f510c917819ca20c59c6317ce"), looks := true }, kinds := [], alts := [], laidByText := true, laidKinds := [.data, .data, .data, .sentinel, .sentinel], laidTests := true, laidLooks := .later }
def FnExactFollowLogCardSaid : Prop := Claim7.holds Tryz.pinned (.plain (OpenSpec.ofChange fnExactFollowLogSpec)) fnExactFollowLogCard

/-- THE SECOND FORM's CARD OF 'laws.FnExactFollowLog'. -/
def fnExactFollowLogUptoCard : Claim7 := { stood := { row := fnExactFollowLogUptoRow, standIns := [], harness := (true, "33df133cc979f3399bfa3c08dd7b9d413309491f510c917819ca20c59c6317ce"), looks := true }, kinds := [], alts := [], laidByText := true, laidKinds := [.data, .data, .data, .sentinel, .sentinel], laidTests := true, laidLooks := .later }
def FnExactFollowLogUptoCardSaid : Prop := Claim7.holds Tryz.pinned (.plain (OpenSpec.upto fnExactFollowLogSpec)) fnExactFollowLogUptoCard
end Rows
end Go.Proofs.YtfdjdgdipgfmeaaGreatDoor
