/- A closed fact about the program, for the proof of the law's statement; no conditions. -/
import Derived.Test.YthjnneiibkknhaaGreatDoorCards
import Derived.Test.YthjnneiibkknhaaGreatDoorTie
import Derived.WalkKit
import Derived.ProofKit
import Derived.LaidMore
import Derived.OpenShut
import Derived.ShutString
import Derived.ChangeOld
import Derived.Below
import Derived.Stop.Joined
import Derived.Stop.LaidErr
import Derived.LaidHandle
import Derived.MakeChecks
import Derived.SevenTiedAt
import Derived.Lib.LaidTab
namespace Go.Proofs.YthjnneiibkknhaaGreatDoor.fnEngineModel
open Go.ChangeShapes Go.WideShapes Go.ChangeAt Go.RowKit
open Go.ChangeMaps (open_string shut_string)
theorem kB : ((Rows.fnEngineModelRow.inPlace == Tryz.prog.inPlace 3) && (Rows.fnEngineModelRow.unfollowed == Tryz.prog.unfollowed 3) && (Rows.fnEngineModelRow.recurses == Tryz.prog.recurses 3) && (Rows.fnEngineModelRow.named == Tryz.prog.varsNamed 3)) = true := by kernel_rfl
end Go.Proofs.YthjnneiibkknhaaGreatDoor.fnEngineModel
