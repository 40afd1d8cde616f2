/- A part of the proof of the law's statement; no conditions. -/
import Derived.Test.YthjnneiibkknhaaGreatDoorCards
import Derived.Test.YthjnneiibkknhaaGreatDoorTie
import Derived.WalkKit
import Derived.ProofKit
import Derived.LaidMore
import Derived.OpenShut
import Derived.ShutString
import Derived.ChangeOld
import Derived.Below
import Derived.Stop.Joined
import Derived.Stop.LaidErr
import Derived.LaidHandle
import Derived.MakeChecks
import Derived.SevenTiedAt
import Derived.Lib.LaidTab
import Derived.Test.YthjnneiibkknhaaGreatDoorEngineModelQB
import Derived.Test.YthjnneiibkknhaaGreatDoorEngineModelQA
import Derived.Test.YthjnneiibkknhaaGreatDoorEngineModelQE
import Derived.Test.YthjnneiibkknhaaGreatDoorEngineModelQC
namespace Go.Proofs.YthjnneiibkknhaaGreatDoor.fnEngineModel
open Go.ChangeShapes Go.WideShapes Go.ChangeAt Go.RowKit
open Go.ChangeMaps (open_string shut_string)
theorem said : Rows.FnEngineModelSaid :=
  OpenClaim.holds_of_wide 3 Tryz.f3 rfl rfl rfl rfl rfl rfl rfl ⟨rfl, rfl, rfl, rfl, rfl⟩ rfl rfl rfl rfl rfl (by kernel_rfl) Tryz.func3 closed
    (of_decide_eq_true (by kernel_rfl)) (by unfold Func.isWrapper; first | (rw [if_pos (by decide +kernel)]; kernel_rfl) | (rw [if_neg (by decide +kernel)]; exact ⟨rfl, rfl⟩))
    (fun os started H enc _ => lifted os started H enc)


end Go.Proofs.YthjnneiibkknhaaGreatDoor.fnEngineModel
