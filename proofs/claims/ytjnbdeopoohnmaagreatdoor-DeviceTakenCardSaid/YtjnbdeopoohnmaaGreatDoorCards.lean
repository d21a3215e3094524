/-
  DERIVED. GIVEN WITH THE SEED: THE CARDS: each row of YtjnbdeopoohnmaaGreatDoorRows.lean that lists a variable, with what it lists TIED to the program's text (the seventh form; the later family's looks); each row that meets fmt, with fmt's text TOLD by the authors' own Lean function (tested against real Go, not proved from fmt's source: count such statements apart). THE CARD IS WHAT COUNTS. Prove the row's statement (the work); the ties are given (YtjnbdeopoohnmaaGreatDoorTie.lean); close each card by the builder's one call (the guide's Derived/Test/ToyasCard.lean, 'card_holds'). Laid BY PROGRAM, IN A SANDBOX (cutbox-door.mjs). By AI agents, Wed Nov 11 2026. No macro, syntax, notation, axiom, sorry.
-/
import Derived.Test.YtjnbdeopoohnmaaGreatDoorRows
import GoSem.ClaimSeven
namespace Go.Proofs.YtjnbdeopoohnmaaGreatDoor
namespace Rows

/-- THE TIED CARD OF 'viaticumlaw48.DeviceAsks'. -/
def deviceAsksCard : Claim7 := { stood := { row := deviceAsksRow, standIns := [], harness := (true, "5613021dcf56a43aeb4221708d753deaedc2b2324b0cce3d99f6f5e1be6fff45"), looks := false }, kinds := [], alts := [], laidByText := true, laidKinds := [.data], laidTests := true, laidLooks := .later }
def DeviceAsksCardSaid : Prop := Claim7.holds Tryz.pinned (.plain (OpenSpec.ofChange deviceAsksSpec)) deviceAsksCard

/-- THE TIED CARD OF 'viaticumlaw48.DeviceTaken'. -/
def deviceTakenCard : Claim7 := { stood := { row := deviceTakenRow, standIns := [], harness := (true, "5613021dcf56a43aeb4221708d753deaedc2b2324b0cce3d99f6f5e1be6fff45"), looks := false }, kinds := [], alts := [], laidByText := true, laidKinds := [.data], laidTests := true, laidLooks := .later }
def DeviceTakenCardSaid : Prop := Claim7.holds Tryz.pinned (.plain (OpenSpec.ofChange deviceTakenSpec)) deviceTakenCard

/-- THE SECOND FORM's CARD OF 'viaticumlaw48.DeviceAsks'. -/
def deviceAsksUptoCard : Claim7 := { stood := { row := deviceAsksUptoRow, standIns := [], harness := (true, "5613021dcf56a43aeb4221708d753deaedc2b2324b0cce3d99f6f5e1be6fff45"), looks := false }, kinds := [], alts := [], laidByText := true, laidKinds := [.data], laidTests := true, laidLooks := .later }
def DeviceAsksUptoCardSaid : Prop := Claim7.holds Tryz.pinned (.plain (OpenSpec.upto deviceAsksSpec)) deviceAsksUptoCard

/-- THE SECOND FORM's CARD OF 'viaticumlaw48.DeviceTaken'. -/
def deviceTakenUptoCard : Claim7 := { stood := { row := deviceTakenUptoRow, standIns := [], harness := (true, "5613021dcf56a43aeb4221708d753deaedc2b2324b0cce3d99f6f5e1be6fff45"), looks := false }, kinds := [], alts := [], laidByText := true, laidKinds := [.data], laidTests := true, laidLooks := .later }
def DeviceTakenUptoCardSaid : Prop := Claim7.holds Tryz.pinned (.plain (OpenSpec.upto deviceTakenSpec)) deviceTakenUptoCard
end Rows
end Go.Proofs.YtjnbdeopoohnmaaGreatDoor
