/-
  DERIVED. GIVEN WITH THE SEED: THE CARDS: each row of YtjnbdeopoohnmaaDoorRows.lean that lists a variable, with what it lists TIED to the program's text (the seventh form; the later family's looks); each row that meets fmt, with fmt's text TOLD by the authors' own Lean function (tested against real Go, not proved from fmt's source: count such statements apart). THE CARD IS WHAT COUNTS. Prove the row's statement (the work); the ties are given (YtjnbdeopoohnmaaDoorTie.lean); close each card by the builder's one call (the guide's Derived/Test/ToyasCard.lean, 'card_holds'). Laid BY PROGRAM, IN A SANDBOX (cutbox-door.mjs). By AI agents, Wed Nov 11 2026. No macro, syntax, notation, axiom, sorry.
-/
import Derived.Test.YtjnbdeopoohnmaaDoorRows
import GoSem.ClaimSeven
namespace Go.Proofs.YtjnbdeopoohnmaaDoor
namespace Rows

/-- THE TIED CARD OF 'viaticumlaw48.DeviceRecords'. -/
def deviceRecordsCard : Claim7 := { stood := { row := deviceRecordsRow, standIns := [], harness := (true, "9a38b2337fcbcab25b9607f380f298a0957cfda6b72dbb751ac624e96ae0ad29"), looks := false }, kinds := [], alts := [], laidByText := true, laidKinds := [.data], laidTests := true, laidLooks := .later }
def DeviceRecordsCardSaid : Prop := Claim7.holds Tryd.pinned (.plain (OpenSpec.ofChange deviceRecordsSpec)) deviceRecordsCard

/-- THE SECOND FORM's CARD OF 'viaticumlaw48.DeviceRecords'. -/
def deviceRecordsUptoCard : Claim7 := { stood := { row := deviceRecordsUptoRow, standIns := [], harness := (true, "9a38b2337fcbcab25b9607f380f298a0957cfda6b72dbb751ac624e96ae0ad29"), looks := false }, kinds := [], alts := [], laidByText := true, laidKinds := [.data], laidTests := true, laidLooks := .later }
def DeviceRecordsUptoCardSaid : Prop := Claim7.holds Tryd.pinned (.plain (OpenSpec.upto deviceRecordsSpec)) deviceRecordsUptoCard
end Rows
end Go.Proofs.YtjnbdeopoohnmaaDoor
