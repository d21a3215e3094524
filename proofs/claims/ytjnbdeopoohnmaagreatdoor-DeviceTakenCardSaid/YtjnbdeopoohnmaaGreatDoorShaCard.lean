/- Layer 7 (sha): what every tied card over the table of rounds needs: the witness's world. -/
import Derived.Test.YtjnbdeopoohnmaaGreatDoorShaD
import Derived.Test.YtjnbdeopoohnmaaGreatDoorFrame
import Derived.Test.YtjnbdeopoohnmaaGreatDoorCards
import Derived.Test.YtjnbdeopoohnmaaGreatDoorTie
import Derived.ChangeVars
import Derived.SevenTiedAt
namespace Go.Proofs.YtjnbdeopoohnmaaGreatDoor
open Go.ChangeShapes Go.WideShapes Go.ChangeAt Go.RowKit

theorem door_met (os : Go.Os) (args : Array Value) : laidMetH Tryz.prog roundsLaid ((World.doorLaid Tryz.prog 400 os).forCall (fun _ _ => 0) ⟨#[], args, []⟩).memory :=
  laidMetH_of_parts3 (fuel := 8) (laidMet_of_run' 8 (by kernel_rfl) (by kernel_rfl)) (by kernel_rfl) (by kernel_rfl)

end Go.Proofs.YtjnbdeopoohnmaaGreatDoor
