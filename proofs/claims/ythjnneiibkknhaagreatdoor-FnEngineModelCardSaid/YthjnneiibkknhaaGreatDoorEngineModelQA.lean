/- A closed fact about the program, for the proof of the law's statement; no conditions. -/
import Derived.Test.YthjnneiibkknhaaGreatDoorCards
import Derived.Test.YthjnneiibkknhaaGreatDoorTie
import Derived.WalkKit
import Derived.ProofKit
import Derived.LaidMore
import Derived.OpenShut
import Derived.ShutString
import Derived.ChangeOld
import Derived.Below
import Derived.Stop.Joined
import Derived.Stop.LaidErr
import Derived.LaidHandle
import Derived.MakeChecks
import Derived.SevenTiedAt
import Derived.Lib.LaidTab
namespace Go.Proofs.YthjnneiibkknhaaGreatDoor.fnEngineModel
open Go.ChangeShapes Go.WideShapes Go.ChangeAt Go.RowKit
open Go.ChangeMaps (open_string shut_string)
theorem kA : ((laidOutB Tryz.prog) && (mapsRowed Tryz.prog) && (Rows.fnEngineModelRow.plainKeys == Tryz.prog.plainKeys) && (Tryz.prog.stopsHeard) && (Tryz.prog.mayEnter) && (Rows.fnEngineModelRow.lifted == Tryz.prog.liftsFinal) && (Tryz.prog.make == some Rows.fnEngineModelRow.make)) = true := by kernel_rfl
end Go.Proofs.YthjnneiibkknhaaGreatDoor.fnEngineModel
