/- The law's statement, proved: for every input the call returns true, and each argument reads as it did. Its row lists the library's tables and errors that start-up lays; the card ties them to the program's text. No other conditions. -/
import Derived.Test.YtaafhjecikjhbaaGreatDoorCards
import Derived.Test.YtaafhjecikjhbaaGreatDoorTie
import Derived.WalkKit
import Derived.ProofKit
import Derived.LaidMore
import Derived.OpenShut
import Derived.ShutString
import Derived.ChangeOld
import Derived.Below
import Derived.Stop.Joined
import Derived.Stop.LaidErr
import Derived.LaidHandle
import Derived.MakeChecks
import Derived.SevenTiedAt
import Derived.Lib.LaidTab
import Derived.Test.YtaafhjecikjhbaaGreatDoorFollowsQB
import Derived.Test.YtaafhjecikjhbaaGreatDoorFollowsQA
import Derived.Test.YtaafhjecikjhbaaGreatDoorFollowsQD
import Derived.Test.YtaafhjecikjhbaaGreatDoorFollowsQG
namespace Go.Proofs.YtaafhjecikjhbaaGreatDoor.fnFollows
open Go.ChangeShapes Go.WideShapes Go.ChangeAt Go.RowKit
open Go.ChangeMaps (open_string shut_string)
theorem proved : Rows.FnFollowsCardSaid :=
  Claim7.holds_tied_plain_at .later [] _ _ _ _ said (fun _ h => by cases h) (by kernel_rfl) (fun _ h => by cases h) fnFollows_row_tie rfl ⟨rfl, rfl⟩ (by kernel_rfl) rfl plainArgs gGoes

end Go.Proofs.YtaafhjecikjhbaaGreatDoor.fnFollows
