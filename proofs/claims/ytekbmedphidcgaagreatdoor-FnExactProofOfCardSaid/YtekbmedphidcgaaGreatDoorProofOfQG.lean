/- A part of the proof of the law's statement; no conditions. -/
import Derived.Test.YtekbmedphidcgaaGreatDoorCards
import Derived.ProofKit
import Derived.SevenTiedAt
namespace Go.Proofs.YtekbmedphidcgaaGreatDoor.fnExactProofOf
theorem gGoes : false = Rows.fnExactProofOfRow.goesBy Tryz.pinned.checked.prog := by kernel_rfl

end Go.Proofs.YtekbmedphidcgaaGreatDoor.fnExactProofOf
