/- A part of the proof of the law's statement; no conditions. -/
import Derived.Test.YtnacpkmpdlodoaaGreatDoorCards
import Derived.ProofKit
import Derived.SevenTiedAt
namespace Go.Proofs.YtnacpkmpdlodoaaGreatDoor.fnTrimmed
theorem gGoes : false = Rows.fnTrimmedRow.goesBy Tryz.pinned.checked.prog := by kernel_rfl

end Go.Proofs.YtnacpkmpdlodoaaGreatDoor.fnTrimmed
