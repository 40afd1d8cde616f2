/- A part of the proof of the law's statement; no conditions. -/
import Derived.Test.YthikodhnkaofaaaGreatDoorCards
import Derived.ProofKit
import Derived.SevenTiedAt
namespace Go.Proofs.YthikodhnkaofaaaGreatDoor.fnExactNewDesk
theorem gGoes : false = Rows.fnExactNewDeskRow.goesBy Tryz.pinned.checked.prog := by kernel_rfl

end Go.Proofs.YthikodhnkaofaaaGreatDoor.fnExactNewDesk
