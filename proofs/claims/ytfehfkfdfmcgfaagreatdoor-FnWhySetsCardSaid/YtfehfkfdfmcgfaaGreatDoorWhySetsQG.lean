/- A part of the proof of the law's statement; no conditions. -/
import Derived.Test.YtfehfkfdfmcgfaaGreatDoorCards
import Derived.ProofKit
import Derived.SevenTiedAt
namespace Go.Proofs.YtfehfkfdfmcgfaaGreatDoor.fnWhySets
theorem gGoes : false = Rows.fnWhySetsRow.goesBy Tryz.pinned.checked.prog := by kernel_rfl

end Go.Proofs.YtfehfkfdfmcgfaaGreatDoor.fnWhySets
