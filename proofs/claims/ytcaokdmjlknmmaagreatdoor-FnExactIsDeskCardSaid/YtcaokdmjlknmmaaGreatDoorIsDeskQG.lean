/- A part of the proof of the law's statement; no conditions. -/
import Derived.Test.YtcaokdmjlknmmaaGreatDoorCards
import Derived.ProofKit
import Derived.SevenTiedAt
namespace Go.Proofs.YtcaokdmjlknmmaaGreatDoor.fnExactIsDesk
theorem gGoes : false = Rows.fnExactIsDeskRow.goesBy Tryz.pinned.checked.prog := by kernel_rfl

end Go.Proofs.YtcaokdmjlknmmaaGreatDoor.fnExactIsDesk
