/- A closed fact about the program, for the proof of the law's statement; no conditions. -/
import Derived.Test.YtnacpkmpdlodoaaGreatDoorCards
import Derived.Test.YtnacpkmpdlodoaaGreatDoorTie
import Derived.WalkKit
import Derived.ProofKit
import Derived.LaidMore
import Derived.OpenShut
import Derived.ShutString
import Derived.ChangeOld
import Derived.Below
import Derived.Stop.Joined
import Derived.Stop.LaidErr
import Derived.LaidHandle
import Derived.MakeChecks
import Derived.SevenTiedAt
import Derived.Lib.LaidTab
namespace Go.Proofs.YtnacpkmpdlodoaaGreatDoor.fnTrimmed
open Go.ChangeShapes Go.WideShapes Go.ChangeAt Go.RowKit
open Go.ChangeMaps (open_string shut_string)
theorem kB : ((Rows.fnTrimmedRow.inPlace == Tryz.prog.inPlace 4) && (Rows.fnTrimmedRow.unfollowed == Tryz.prog.unfollowed 4) && (Rows.fnTrimmedRow.recurses == Tryz.prog.recurses 4) && (Rows.fnTrimmedRow.named == Tryz.prog.varsNamed 4)) = true := by kernel_rfl
end Go.Proofs.YtnacpkmpdlodoaaGreatDoor.fnTrimmed
