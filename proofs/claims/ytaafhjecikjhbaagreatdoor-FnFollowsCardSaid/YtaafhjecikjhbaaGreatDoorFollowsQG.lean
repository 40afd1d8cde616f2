/- A part of the proof of the law's statement; no conditions. -/
import Derived.Test.YtaafhjecikjhbaaGreatDoorCards
import Derived.ProofKit
import Derived.SevenTiedAt
namespace Go.Proofs.YtaafhjecikjhbaaGreatDoor.fnFollows
theorem gGoes : false = Rows.fnFollowsRow.goesBy Tryz.pinned.checked.prog := by kernel_rfl

end Go.Proofs.YtaafhjecikjhbaaGreatDoor.fnFollows
