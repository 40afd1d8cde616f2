/- A part of the proof of the law's statement; no conditions. -/
import Derived.Test.YtfdjdgdipgfmeaaGreatDoorCards
import Derived.ProofKit
import Derived.SevenTiedAt
namespace Go.Proofs.YtfdjdgdipgfmeaaGreatDoor.fnExactFollowLog
theorem gGoes : false = Rows.fnExactFollowLogRow.goesBy Tryz.pinned.checked.prog := by kernel_rfl

end Go.Proofs.YtfdjdgdipgfmeaaGreatDoor.fnExactFollowLog
