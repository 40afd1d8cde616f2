/-
  DERIVED. GIVEN WITH THE SEED: THE CARDS: each row of YtfehfkfdfmcgfaaGreatDoorRows.lean that lists a variable, with what it lists TIED to the program's text (the seventh form; the later family's looks); each row that meets fmt, with fmt's text TOLD by the authors' own Lean function (tested against real Go, not proved from fmt's source: count such statements apart). THE CARD IS WHAT COUNTS. Prove the row's statement (the work); the ties are given (YtfehfkfdfmcgfaaGreatDoorTie.lean); close each card by the builder's one call (the guide's Derived/Test/ToyasCard.lean, 'card_holds'). Laid BY PROGRAM, IN A SANDBOX (cutbox-door.mjs). By AI agents, Wed Nov 11 2026. No macro, syntax, notation, axiom, sorry.
-/
import Derived.Test.YtfehfkfdfmcgfaaGreatDoorRows
import GoSem.ClaimSeven
namespace Go.Proofs.YtfehfkfdfmcgfaaGreatDoor
namespace Rows

/-- THE TIED CARD OF 'laws.FnModel'. -/
def fnModelCard : Claim7 := { stood := { row := fnModelRow, standIns := [], harness := (true, "89f3bd741b7a5f737ef8b50b94cff20c972fef5e7ce4ee3c1adb0307a9520932"), looks := true }, kinds := [], alts := [], laidByText := true, laidKinds := [.data, .data, .data, .sentinel, .sentinel], laidTests := true, laidLooks := .later }
def FnModelCardSaid : Prop := Claim7.holds Tryz.pinned (.plain (OpenSpec.ofChange fnModelSpec)) fnModelCard

/-- THE TIED CARD OF 'laws.FnRelevant'. -/
def fnRelevantCard : Claim7 := { stood := { row := fnRelevantRow, standIns := [], harness := (true, "89f3bd741b7a5f737ef8b50b94cff20c972fef5e7ce4ee3c1adb0307a9520932"), looks := true }, kinds := [], alts := [], laidByText := true, laidKinds := [.data, .data, .data, .sentinel, .sentinel], laidTests := true, laidLooks := .later }
def FnRelevantCardSaid : Prop := Claim7.holds Tryz.pinned (.plain (OpenSpec.ofChange fnRelevantSpec)) fnRelevantCard

/-- THE TIED CARD OF 'laws.FnLeastModel'. -/
def fnLeastModelCard : Claim7 := { stood := { row := fnLeastModelRow, standIns := [], harness := (true, "89f3bd741b7a5f737ef8b50b94cff20c972fef5e7ce4ee3c1adb0307a9520932"), looks := true }, kinds := [], alts := [], laidByText := true, laidKinds := [.data, .data, .data, .sentinel, .sentinel], laidTests := true, laidLooks := .later }
def FnLeastModelCardSaid : Prop := Claim7.holds Tryz.pinned (.plain (OpenSpec.ofChange fnLeastModelSpec)) fnLeastModelCard

/-- THE TIED CARD OF 'laws.FnExactFrameOf'. -/
def fnExactFrameOfCard : Claim7 := { stood := { row := fnExactFrameOfRow, standIns := [], harness := (true, "89f3bd741b7a5f737ef8b50b94cff20c972fef5e7ce4ee3c1adb0307a9520932"), looks := true }, kinds := [], alts := [], laidByText := true, laidKinds := [.data, .data, .data, .sentinel, .sentinel], laidTests := true, laidLooks := .later }
def FnExactFrameOfCardSaid : Prop := Claim7.holds Tryz.pinned (.plain (OpenSpec.ofChange fnExactFrameOfSpec)) fnExactFrameOfCard

/-- THE TIED CARD OF 'laws.FnWhyLeast'. -/
def fnWhyLeastCard : Claim7 := { stood := { row := fnWhyLeastRow, standIns := [], harness := (true, "89f3bd741b7a5f737ef8b50b94cff20c972fef5e7ce4ee3c1adb0307a9520932"), looks := true }, kinds := [], alts := [], laidByText := true, laidKinds := [.data, .data, .data, .sentinel, .sentinel], laidTests := true, laidLooks := .later }
def FnWhyLeastCardSaid : Prop := Claim7.holds Tryz.pinned (.plain (OpenSpec.ofChange fnWhyLeastSpec)) fnWhyLeastCard

/-- THE TIED CARD OF 'laws.FnWhySets'. -/
def fnWhySetsCard : Claim7 := { stood := { row := fnWhySetsRow, standIns := [], harness := (true, "89f3bd741b7a5f737ef8b50b94cff20c972fef5e7ce4ee3c1adb0307a9520932"), looks := true }, kinds := [], alts := [], laidByText := true, laidKinds := [.data, .data, .data, .sentinel, .sentinel], laidTests := true, laidLooks := .later }
def FnWhySetsCardSaid : Prop := Claim7.holds Tryz.pinned (.plain (OpenSpec.ofChange fnWhySetsSpec)) fnWhySetsCard

/-- THE TIED CARD OF 'laws.FnWithdrawnFact'. -/
def fnWithdrawnFactCard : Claim7 := { stood := { row := fnWithdrawnFactRow, standIns := [], harness := (true, "89f3bd741b7a5f737ef8b50b94cff20c972fef5e7ce4ee3c1adb0307a9520932"), looks := true }, kinds := [], alts := [], laidByText := true, laidKinds := [.data, .data, .data, .sentinel, .sentinel], laidTests := true, laidLooks := .later }
def FnWithdrawnFactCardSaid : Prop := Claim7.holds Tryz.pinned (.plain (OpenSpec.ofChange fnWithdrawnFactSpec)) fnWithdrawnFactCard

/-- THE TIED CARD OF 'laws.FnExactWhySets'. -/
def fnExactWhySetsCard : Claim7 := { stood := { row := fnExactWhySetsRow, standIns := [], harness := (true, "89f3bd741b7a5f737ef8b50b94cff20c972fef5e7ce4ee3c1adb0307a9520932"), looks := true }, kinds := [], alts := [], laidByText := true, laidKinds := [.data, .data, .data, .sentinel, .sentinel], laidTests := true, laidLooks := .later }
def FnExactWhySetsCardSaid : Prop := Claim7.holds Tryz.pinned (.plain (OpenSpec.ofChange fnExactWhySetsSpec)) fnExactWhySetsCard

/-- THE SECOND FORM's CARD OF 'laws.FnModel'. -/
def fnModelUptoCard : Claim7 := { stood := { row := fnModelUptoRow, standIns := [], harness := (true, "89f3bd741b7a5f737ef8b50b94cff20c972fef5e7ce4ee3c1adb0307a9520932"), looks := true }, kinds := [], alts := [], laidByText := true, laidKinds := [.data, .data, .data, .sentinel, .sentinel], laidTests := true, laidLooks := .later }
def FnModelUptoCardSaid : Prop := Claim7.holds Tryz.pinned (.plain (OpenSpec.upto fnModelSpec)) fnModelUptoCard

/-- THE SECOND FORM's CARD OF 'laws.FnRelevant'. -/
def fnRelevantUptoCard : Claim7 := { stood := { row := fnRelevantUptoRow, standIns := [], harness := (true, "89f3bd741b7a5f737ef8b50b94cff20c972fef5e7ce4ee3c1adb0307a9520932"), looks := true }, kinds := [], alts := [], laidByText := true, laidKinds := [.data, .data, .data, .sentinel, .sentinel], laidTests := true, laidLooks := .later }
def FnRelevantUptoCardSaid : Prop := Claim7.holds Tryz.pinned (.plain (OpenSpec.upto fnRelevantSpec)) fnRelevantUptoCard

/-- THE SECOND FORM's CARD OF 'laws.FnLeastModel'. -/
def fnLeastModelUptoCard : Claim7 := { stood := { row := fnLeastModelUptoRow, standIns := [], harness := (true, "89f3bd741b7a5f737ef8b50b94cff20c972fef5e7ce4ee3c1adb0307a9520932"), looks := true }, kinds := [], alts := [], laidByText := true, laidKinds := [.data, .data, .data, .sentinel, .sentinel], laidTests := true, laidLooks := .later }
def FnLeastModelUptoCardSaid : Prop := Claim7.holds Tryz.pinned (.plain (OpenSpec.upto fnLeastModelSpec)) fnLeastModelUptoCard

/-- THE SECOND FORM's CARD OF 'laws.FnExactFrameOf'. -/
def fnExactFrameOfUptoCard : Claim7 := { stood := { row := fnExactFrameOfUptoRow, standIns := [], harness := (true, "89f3bd741b7a5f737ef8b50b94cff20c972fef5e7ce4ee3c1adb0307a9520932"), looks := true }, kinds := [], alts := [], laidByText := true, laidKinds := [.data, .data, .data, .sentinel, .sentinel], laidTests := true, laidLooks := .later }
def FnExactFrameOfUptoCardSaid : Prop := Claim7.holds Tryz.pinned (.plain (OpenSpec.upto fnExactFrameOfSpec)) fnExactFrameOfUptoCard

/-- THE SECOND FORM's CARD OF 'laws.FnWhyLeast'. -/
def fnWhyLeastUptoCard : Claim7 := { stood := { row := fnWhyLeastUptoRow, standIns := [], harness := (true, "89f3bd741b7a5f737ef8b50b94cff20c972fef5e7ce4ee3c1adb0307a9520932"), looks := true }, kinds := [], alts := [], laidByText := true, laidKinds := [.data, .data, .data, .sentinel, .sentinel], laidTests := true, laidLooks := .later }
def FnWhyLeastUptoCardSaid : Prop := Claim7.holds Tryz.pinned (.plain (OpenSpec.upto fnWhyLeastSpec)) fnWhyLeastUptoCard

/-- THE SECOND FORM's CARD OF 'laws.FnWhySets'. -/
def fnWhySetsUptoCard : Claim7 := { stood := { row := fnWhySetsUptoRow, standIns := [], harness := (true, "89f3bd741b7a5f737ef8b50b94cff20c972fef5e7ce4ee3c1adb0307a9520932"), looks := true }, kinds := [], alts := [], laidByText := true, laidKinds := [.data, .data, .data, .sentinel, .sentinel], laidTests := true, laidLooks := .later }
def FnWhySetsUptoCardSaid : Prop := Claim7.holds Tryz.pinned (.plain (OpenSpec.upto fnWhySetsSpec)) fnWhySetsUptoCard

/-- THE SECOND FORM's CARD OF 'laws.FnWithdrawnFact'. -/
def fnWithdrawnFactUptoCard : Claim7 := { stood := { row := fnWithdrawnFactUptoRow, standIns := [], harness := (true, "89f3bd741b7a5f737ef8b50b94cff20c972fef5e7ce4ee3c1adb0307a9520932"), looks := true }, kinds := [], alts := [], laidByText := true, laidKinds := [.data, .data, .data, .sentinel, .sentinel], laidTests := true, laidLooks := .later }
def FnWithdrawnFactUptoCardSaid : Prop := Claim7.holds Tryz.pinned (.plain (OpenSpec.upto fnWithdrawnFactSpec)) fnWithdrawnFactUptoCard

/-- THE SECOND FORM's CARD OF 'laws.FnExactWhySets'. -/
def fnExactWhySetsUptoCard : Claim7 := { stood := { row := fnExactWhySetsUptoRow, standIns := [], harness := (true, "89f3bd741b7a5f737ef8b50b94cff20c972fef5e7ce4ee3c1adb0307a9520932"), looks := true }, kinds := [], alts := [], laidByText := true, laidKinds := [.data, .data, .data, .sentinel, .sentinel], laidTests := true, laidLooks := .later }
def FnExactWhySetsUptoCardSaid : Prop := Claim7.holds Tryz.pinned (.plain (OpenSpec.upto fnExactWhySetsSpec)) fnExactWhySetsUptoCard
end Rows
end Go.Proofs.YtfehfkfdfmcgfaaGreatDoor
