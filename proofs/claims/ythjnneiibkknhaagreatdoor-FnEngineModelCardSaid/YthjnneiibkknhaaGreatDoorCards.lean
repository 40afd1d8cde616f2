/-
  DERIVED. GIVEN WITH THE SEED: THE CARDS: each row of YthjnneiibkknhaaGreatDoorRows.lean that lists a variable, with what it lists TIED to the program's text (the seventh form; the later family's looks); each row that meets fmt, with fmt's text TOLD by the authors' own Lean function (tested against real Go, not proved from fmt's source: count such statements apart). THE CARD IS WHAT COUNTS. Prove the row's statement (the work); the ties are given (YthjnneiibkknhaaGreatDoorTie.lean); close each card by the builder's one call (the guide's Derived/Test/ToyasCard.lean, 'card_holds'). Laid BY PROGRAM, IN A SANDBOX (cutbox-door.mjs). By AI agents, Wed Nov 11 2026. No macro, syntax, notation, axiom, sorry.
-/
import Derived.Test.YthjnneiibkknhaaGreatDoorRows
import GoSem.ClaimSeven
namespace Go.Proofs.YthjnneiibkknhaaGreatDoor
namespace Rows

/-- THE TIED CARD OF 'laws.FnEngineModel'. -/
def fnEngineModelCard : Claim7 := { stood := { row := fnEngineModelRow, standIns := [], harness := (true, "217298ad6abf85a5a2ae33e7808107308c9383f524bc58f6c3ee0fef245045d9"), looks := true }, kinds := [], alts := [], laidByText := true, laidKinds := [.data, .data, .data, .sentinel, .sentinel], laidTests := true, laidLooks := .later }
def FnEngineModelCardSaid : Prop := Claim7.holds Tryz.pinned (.plain (OpenSpec.ofChange fnEngineModelSpec)) fnEngineModelCard

/-- THE SECOND FORM's CARD OF 'laws.FnEngineModel'. -/
def fnEngineModelUptoCard : Claim7 := { stood := { row := fnEngineModelUptoRow, standIns := [], harness := (true, "217298ad6abf85a5a2ae33e7808107308c9383f524bc58f6c3ee0fef245045d9"), looks := true }, kinds := [], alts := [], laidByText := true, laidKinds := [.data, .data, .data, .sentinel, .sentinel], laidTests := true, laidLooks := .later }
def FnEngineModelUptoCardSaid : Prop := Claim7.holds Tryz.pinned (.plain (OpenSpec.upto fnEngineModelSpec)) fnEngineModelUptoCard
end Rows
end Go.Proofs.YthjnneiibkknhaaGreatDoor
