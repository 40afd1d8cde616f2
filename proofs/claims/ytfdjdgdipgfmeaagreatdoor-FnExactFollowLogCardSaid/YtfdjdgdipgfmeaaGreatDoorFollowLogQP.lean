/- The law's statement, proved: for every input the call returns true, and each argument reads as it did. Its row lists the library's tables and errors that start-up lays; the card ties them to the program's text. No other conditions. -/
import Derived.Test.YtfdjdgdipgfmeaaGreatDoorCards
import Derived.Test.YtfdjdgdipgfmeaaGreatDoorTie
import Derived.WalkKit
import Derived.ProofKit
import Derived.LaidMore
import Derived.OpenShut
import Derived.ShutString
import Derived.ChangeOld
import Derived.Below
import Derived.Stop.Joined
import Derived.Stop.LaidErr
import Derived.LaidHandle
import Derived.MakeChecks
import Derived.SevenTiedAt
import Derived.Lib.LaidTab
import Derived.Test.YtfdjdgdipgfmeaaGreatDoorFollowLogQB
import Derived.Test.YtfdjdgdipgfmeaaGreatDoorFollowLogQA
import Derived.Test.YtfdjdgdipgfmeaaGreatDoorFollowLogQD
import Derived.Test.YtfdjdgdipgfmeaaGreatDoorFollowLogQG
namespace Go.Proofs.YtfdjdgdipgfmeaaGreatDoor.fnExactFollowLog
open Go.ChangeShapes Go.WideShapes Go.ChangeAt Go.RowKit
open Go.ChangeMaps (open_string shut_string)
theorem proved : Rows.FnExactFollowLogCardSaid :=
  Claim7.holds_tied_plain_at .later [] _ _ _ _ said (fun _ h => by cases h) (by kernel_rfl) (fun _ h => by cases h) fnExactFollowLog_row_tie rfl ⟨rfl, rfl⟩ (by kernel_rfl) rfl plainArgs gGoes

end Go.Proofs.YtfdjdgdipgfmeaaGreatDoor.fnExactFollowLog
