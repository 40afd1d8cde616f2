/- A closed fact about the program, for the proof of the law's statement; no conditions. -/
import Derived.Test.YtaafhjecikjhbaaGreatDoorCards
import Derived.Test.YtaafhjecikjhbaaGreatDoorTie
import Derived.WalkKit
import Derived.ProofKit
import Derived.LaidMore
import Derived.OpenShut
import Derived.ShutString
import Derived.ChangeOld
import Derived.Below
import Derived.Stop.Joined
import Derived.Stop.LaidErr
import Derived.LaidHandle
import Derived.MakeChecks
import Derived.SevenTiedAt
import Derived.Lib.LaidTab
namespace Go.Proofs.YtaafhjecikjhbaaGreatDoor.fnFollows
open Go.ChangeShapes Go.WideShapes Go.ChangeAt Go.RowKit
open Go.ChangeMaps (open_string shut_string)
theorem kB : ((Rows.fnFollowsRow.inPlace == Tryz.prog.inPlace 3) && (Rows.fnFollowsRow.unfollowed == Tryz.prog.unfollowed 3) && (Rows.fnFollowsRow.recurses == Tryz.prog.recurses 3) && (Rows.fnFollowsRow.named == Tryz.prog.varsNamed 3)) = true := by kernel_rfl
end Go.Proofs.YtaafhjecikjhbaaGreatDoor.fnFollows
