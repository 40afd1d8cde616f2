/- A part of the proof of the law's statement; no conditions. -/
import Derived.Test.YthjnneiibkknhaaGreatDoorCards
import Derived.ProofKit
import Derived.SevenTiedAt
namespace Go.Proofs.YthjnneiibkknhaaGreatDoor.fnEngineModel
theorem gGoes : false = Rows.fnEngineModelRow.goesBy Tryz.pinned.checked.prog := by kernel_rfl

end Go.Proofs.YthjnneiibkknhaaGreatDoor.fnEngineModel
