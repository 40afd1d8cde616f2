/- A part of the proof of the law's statement; no conditions. -/
import Derived.Test.YtlpkbfjcdaanmaaGreatDoorCards
import Derived.ProofKit
import Derived.SevenTiedAt
namespace Go.Proofs.YtlpkbfjcdaanmaaGreatDoor.fnMissed
theorem gGoes : false = Rows.fnMissedRow.goesBy Tryz.pinned.checked.prog := by kernel_rfl

end Go.Proofs.YtlpkbfjcdaanmaaGreatDoor.fnMissed
