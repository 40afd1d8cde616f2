/- A closed fact about the program, for the proof of the law's statement; no conditions. -/
import Derived.Test.YtfehfkfdfmcgfaaGreatDoorCards
import Derived.Test.YtfehfkfdfmcgfaaGreatDoorTie
import Derived.WalkKit
import Derived.ProofKit
import Derived.LaidMore
import Derived.OpenShut
import Derived.ShutString
import Derived.ChangeOld
import Derived.Below
import Derived.Stop.Joined
import Derived.Stop.LaidErr
import Derived.LaidHandle
import Derived.MakeChecks
import Derived.SevenTiedAt
import Derived.Lib.LaidTab
namespace Go.Proofs.YtfehfkfdfmcgfaaGreatDoor.fnWhySets
open Go.ChangeShapes Go.WideShapes Go.ChangeAt Go.RowKit
open Go.ChangeMaps (open_string shut_string)
theorem kB : ((Rows.fnWhySetsRow.inPlace == Tryz.prog.inPlace 8) && (Rows.fnWhySetsRow.unfollowed == Tryz.prog.unfollowed 8) && (Rows.fnWhySetsRow.recurses == Tryz.prog.recurses 8) && (Rows.fnWhySetsRow.named == Tryz.prog.varsNamed 8)) = true := by kernel_rfl
end Go.Proofs.YtfehfkfdfmcgfaaGreatDoor.fnWhySets
