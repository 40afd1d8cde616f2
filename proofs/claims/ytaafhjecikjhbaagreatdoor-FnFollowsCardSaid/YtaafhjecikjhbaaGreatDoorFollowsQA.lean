/- A closed fact about the program, for the proof of the law's statement; no conditions. -/
import Derived.Test.YtaafhjecikjhbaaGreatDoorCards
import Derived.Test.YtaafhjecikjhbaaGreatDoorTie
import Derived.WalkKit
import Derived.ProofKit
import Derived.LaidMore
import Derived.OpenShut
import Derived.ShutString
import Derived.ChangeOld
import Derived.Below
import Derived.Stop.Joined
import Derived.Stop.LaidErr
import Derived.LaidHandle
import Derived.MakeChecks
import Derived.SevenTiedAt
import Derived.Lib.LaidTab
namespace Go.Proofs.YtaafhjecikjhbaaGreatDoor.fnFollows
open Go.ChangeShapes Go.WideShapes Go.ChangeAt Go.RowKit
open Go.ChangeMaps (open_string shut_string)
theorem kA : ((laidOutB Tryz.prog) && (mapsRowed Tryz.prog) && (Rows.fnFollowsRow.plainKeys == Tryz.prog.plainKeys) && (Tryz.prog.stopsHeard) && (Tryz.prog.mayEnter) && (Rows.fnFollowsRow.lifted == Tryz.prog.liftsFinal) && (Tryz.prog.make == some Rows.fnFollowsRow.make)) = true := by kernel_rfl
end Go.Proofs.YtaafhjecikjhbaaGreatDoor.fnFollows
