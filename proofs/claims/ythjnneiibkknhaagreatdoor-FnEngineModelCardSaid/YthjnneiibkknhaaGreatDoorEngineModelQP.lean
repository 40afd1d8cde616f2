/- The law's statement, proved: for every input the call returns true, and each argument reads as it did. Its row lists the library's tables and errors that start-up lays; the card ties them to the program's text. No other conditions. -/
import Derived.Test.YthjnneiibkknhaaGreatDoorCards
import Derived.Test.YthjnneiibkknhaaGreatDoorTie
import Derived.WalkKit
import Derived.ProofKit
import Derived.LaidMore
import Derived.OpenShut
import Derived.ShutString
import Derived.ChangeOld
import Derived.Below
import Derived.Stop.Joined
import Derived.Stop.LaidErr
import Derived.LaidHandle
import Derived.MakeChecks
import Derived.SevenTiedAt
import Derived.Lib.LaidTab
import Derived.Test.YthjnneiibkknhaaGreatDoorEngineModelQB
import Derived.Test.YthjnneiibkknhaaGreatDoorEngineModelQA
import Derived.Test.YthjnneiibkknhaaGreatDoorEngineModelQD
import Derived.Test.YthjnneiibkknhaaGreatDoorEngineModelQG
namespace Go.Proofs.YthjnneiibkknhaaGreatDoor.fnEngineModel
open Go.ChangeShapes Go.WideShapes Go.ChangeAt Go.RowKit
open Go.ChangeMaps (open_string shut_string)
theorem proved : Rows.FnEngineModelCardSaid :=
  Claim7.holds_tied_plain_at .later [] _ _ _ _ said (fun _ h => by cases h) (by kernel_rfl) (fun _ h => by cases h) fnEngineModel_row_tie rfl ⟨rfl, rfl⟩ (by kernel_rfl) rfl plainArgs gGoes

end Go.Proofs.YthjnneiibkknhaaGreatDoor.fnEngineModel
