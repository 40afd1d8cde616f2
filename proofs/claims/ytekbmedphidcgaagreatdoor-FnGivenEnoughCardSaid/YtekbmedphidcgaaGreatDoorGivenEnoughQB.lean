/- A closed fact about the program, for the proof of the law's statement; no conditions. -/
import Derived.Test.YtekbmedphidcgaaGreatDoorCards
import Derived.Test.YtekbmedphidcgaaGreatDoorTie
import Derived.WalkKit
import Derived.ProofKit
import Derived.LaidMore
import Derived.OpenShut
import Derived.ShutString
import Derived.ChangeOld
import Derived.Below
import Derived.Stop.Joined
import Derived.Stop.LaidErr
import Derived.LaidHandle
import Derived.MakeChecks
import Derived.SevenTiedAt
import Derived.Lib.LaidTab
namespace Go.Proofs.YtekbmedphidcgaaGreatDoor.fnGivenEnough
open Go.ChangeShapes Go.WideShapes Go.ChangeAt Go.RowKit
open Go.ChangeMaps (open_string shut_string)
theorem kB : ((Rows.fnGivenEnoughRow.inPlace == Tryz.prog.inPlace 8) && (Rows.fnGivenEnoughRow.unfollowed == Tryz.prog.unfollowed 8) && (Rows.fnGivenEnoughRow.recurses == Tryz.prog.recurses 8) && (Rows.fnGivenEnoughRow.named == Tryz.prog.varsNamed 8)) = true := by kernel_rfl
end Go.Proofs.YtekbmedphidcgaaGreatDoor.fnGivenEnough
