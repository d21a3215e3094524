/-
  No cell of these rows narrows 'for every input' (looked for: loops, veiled, ifaces, maps, wideKeys, modest, calm, conditions, laid).
  DERIVED. THE GIVEN ROWS OF THIS SEAT. 6 by the template 'for every input the law returns true; each argument reads behind the call as it read before'; 0 by the template 'total and deterministic' (their statements: YtjnbdeopoohnmaaTotals.lean).
  GIVEN WITH THE SEED: the statements are not yours to turn. If you find one false, say at which input.
  Laid BY PROGRAM, IN A SANDBOX (cutbox-rows.mjs): the forced cells as the released guide's own fill.sh prints them over the translation 281aa951889c5283… (all of the seat's roots in one cut). By AI agents, Wed Nov 11 2026. No macro, syntax, notation, axiom, sorry.
-/
import Derived.Test.YtjnbdeopoohnmaaChecked
import GoSem.Claim
import GoSem.ClaimJoined
import GoSem.ClaimMapViews
import Derived.JoinedTies
import Derived.KernelRfl
namespace Go.Proofs.Ytjnbdeopoohnmaa
/- THE CELL 'sum', in the pinned program and in every row, IS THE sha256 OF THE DUMP (.gsa) THAT YtjnbdeopoohnmaaProg.lean LOADS. Nothing in Lean hashes anything: it is a label: what it is worth is what the hold of that sum in a sandbox is worth. -/
noncomputable def Try.pinned : Pinned := { name := "ytjnbdeopoohnmaa", sum := "281aa951889c52835b06291830cae0f00ad37f223e3544c97b4d0d4a54ee4817", checked := Try.checked }
namespace Rows
def none {H : Type} : Left H := { results := [], args := [] }

/-- 'viaticumlaw12.RevokeMerges': WHATEVER THE INPUT: true; the input reads as it did. -/
def revokeMergesSpec : ChangeSpec := { name := "revokeMerges", fn := fun _ => fun
  | [d1, d2] => { results := [.lit (.bool true)], args := [d1, d2] }
  | _ => none }
def revokeMergesRow : OpenClaim := { program := "ytjnbdeopoohnmaa", sum := "281aa951889c52835b06291830cae0f00ad37f223e3544c97b4d0d4a54ee4817", func := "viaticum/viaticumlaw12.RevokeMerges", spec := "revokeMerges", inPlace := ["slices.overlaps[viaticum/api.Revoked]"], unfollowed := true, recurses := true, apart := false }
def RevokeMergesSaid : Prop := revokeMergesRow.holds Try.pinned (OpenSpec.ofChange revokeMergesSpec)

/-- ITS FALSE NEIGHBOUR: 'it returns false'. Refute it at one input. -/
def revokeMergesWrong : ChangeSpec := { name := "revokeMerges", fn := fun _ => fun
  | [d1, d2] => { results := [.lit (.bool false)], args := [d1, d2] }
  | _ => none }
def RevokeMergesWrongFalsely : Prop := revokeMergesRow.holds Try.pinned (OpenSpec.ofChange revokeMergesWrong)

/-- 'viaticumlaw12.RevokeTells': WHATEVER THE INPUT: true; the input reads as it did. -/
def revokeTellsSpec : ChangeSpec := { name := "revokeTells", fn := fun _ => fun
  | [d1, d2, d3] => { results := [.lit (.bool true)], args := [d1, d2, d3] }
  | _ => none }
def revokeTellsRow : OpenClaim := { program := "ytjnbdeopoohnmaa", sum := "281aa951889c52835b06291830cae0f00ad37f223e3544c97b4d0d4a54ee4817", func := "viaticum/viaticumlaw12.RevokeTells", spec := "revokeTells", inPlace := ["slices.overlaps[viaticum/api.Revoked]"], unfollowed := true, recurses := true, apart := false }
def RevokeTellsSaid : Prop := revokeTellsRow.holds Try.pinned (OpenSpec.ofChange revokeTellsSpec)

/-- ITS FALSE NEIGHBOUR: 'it returns false'. Refute it at one input. -/
def revokeTellsWrong : ChangeSpec := { name := "revokeTells", fn := fun _ => fun
  | [d1, d2, d3] => { results := [.lit (.bool false)], args := [d1, d2, d3] }
  | _ => none }
def RevokeTellsWrongFalsely : Prop := revokeTellsRow.holds Try.pinned (OpenSpec.ofChange revokeTellsWrong)

/-- 'viaticumlaw12.RevokeFits': WHATEVER THE INPUT: true; the input reads as it did. -/
def revokeFitsSpec : ChangeSpec := { name := "revokeFits", fn := fun _ => fun
  | [d1, d2, d3] => { results := [.lit (.bool true)], args := [d1, d2, d3] }
  | _ => none }
def revokeFitsRow : OpenClaim := { program := "ytjnbdeopoohnmaa", sum := "281aa951889c52835b06291830cae0f00ad37f223e3544c97b4d0d4a54ee4817", func := "viaticum/viaticumlaw12.RevokeFits", spec := "revokeFits", inPlace := ["slices.overlaps[viaticum/api.Revoked]"], unfollowed := true, recurses := true, apart := false }
def RevokeFitsSaid : Prop := revokeFitsRow.holds Try.pinned (OpenSpec.ofChange revokeFitsSpec)

/-- ITS FALSE NEIGHBOUR: 'it returns false'. Refute it at one input. -/
def revokeFitsWrong : ChangeSpec := { name := "revokeFits", fn := fun _ => fun
  | [d1, d2, d3] => { results := [.lit (.bool false)], args := [d1, d2, d3] }
  | _ => none }
def RevokeFitsWrongFalsely : Prop := revokeFitsRow.holds Try.pinned (OpenSpec.ofChange revokeFitsWrong)

/-- 'viaticumlaw56.RosterFits': WHATEVER THE INPUT: true; the input reads as it did. -/
def rosterFitsSpec : ChangeSpec := { name := "rosterFits", fn := fun _ => fun
  | [d1, d2, d3] => { results := [.lit (.bool true)], args := [d1, d2, d3] }
  | _ => none }
def rosterFitsRow : OpenClaim := { program := "ytjnbdeopoohnmaa", sum := "281aa951889c52835b06291830cae0f00ad37f223e3544c97b4d0d4a54ee4817", func := "viaticum/viaticumlaw56.RosterFits", spec := "rosterFits", inPlace := ["slices.overlaps[viaticum/api.Account]", "slices.overlaps[viaticum/api.Spell]"], unfollowed := true, recurses := true, apart := false }
def RosterFitsSaid : Prop := rosterFitsRow.holds Try.pinned (OpenSpec.ofChange rosterFitsSpec)

/-- ITS FALSE NEIGHBOUR: 'it returns false'. Refute it at one input. -/
def rosterFitsWrong : ChangeSpec := { name := "rosterFits", fn := fun _ => fun
  | [d1, d2, d3] => { results := [.lit (.bool false)], args := [d1, d2, d3] }
  | _ => none }
def RosterFitsWrongFalsely : Prop := rosterFitsRow.holds Try.pinned (OpenSpec.ofChange rosterFitsWrong)

/-- 'viaticumlaw56.RosterTurns': WHATEVER THE INPUT: true; the input reads as it did. -/
def rosterTurnsSpec : ChangeSpec := { name := "rosterTurns", fn := fun _ => fun
  | [d1, d2, d3] => { results := [.lit (.bool true)], args := [d1, d2, d3] }
  | _ => none }
def rosterTurnsRow : OpenClaim := { program := "ytjnbdeopoohnmaa", sum := "281aa951889c52835b06291830cae0f00ad37f223e3544c97b4d0d4a54ee4817", func := "viaticum/viaticumlaw56.RosterTurns", spec := "rosterTurns", inPlace := ["slices.overlaps[viaticum/api.Account]", "slices.overlaps[viaticum/api.Spell]"], unfollowed := true, recurses := true, apart := false }
def RosterTurnsSaid : Prop := rosterTurnsRow.holds Try.pinned (OpenSpec.ofChange rosterTurnsSpec)

/-- ITS FALSE NEIGHBOUR: 'it returns false'. Refute it at one input. -/
def rosterTurnsWrong : ChangeSpec := { name := "rosterTurns", fn := fun _ => fun
  | [d1, d2, d3] => { results := [.lit (.bool false)], args := [d1, d2, d3] }
  | _ => none }
def RosterTurnsWrongFalsely : Prop := rosterTurnsRow.holds Try.pinned (OpenSpec.ofChange rosterTurnsWrong)

/-- 'viaticumlaw56.RosterBytes': WHATEVER THE INPUT: true; the input reads as it did. -/
def rosterBytesSpec : ChangeSpec := { name := "rosterBytes", fn := fun _ => fun
  | [d1, d2] => { results := [.lit (.bool true)], args := [d1, d2] }
  | _ => none }
def rosterBytesRow : OpenClaim := { program := "ytjnbdeopoohnmaa", sum := "281aa951889c52835b06291830cae0f00ad37f223e3544c97b4d0d4a54ee4817", func := "viaticum/viaticumlaw56.RosterBytes", spec := "rosterBytes", inPlace := ["slices.overlaps[viaticum/api.Account]", "slices.overlaps[viaticum/api.Spell]"], unfollowed := true, recurses := true, apart := false }
def RosterBytesSaid : Prop := rosterBytesRow.holds Try.pinned (OpenSpec.ofChange rosterBytesSpec)

/-- ITS FALSE NEIGHBOUR: 'it returns false'. Refute it at one input. -/
def rosterBytesWrong : ChangeSpec := { name := "rosterBytes", fn := fun _ => fun
  | [d1, d2] => { results := [.lit (.bool false)], args := [d1, d2] }
  | _ => none }
def RosterBytesWrongFalsely : Prop := rosterBytesRow.holds Try.pinned (OpenSpec.ofChange rosterBytesWrong)

/- THE SECOND FORM. 'bulk': how many values and letters a reading holds, each counted each time it is reached (what is shared counts as often as it is met; a slice's spare places count too). A statement '..UptoSaid' is the law's where the arguments, and the package variables that the reading takes, are together of bulk at most 1048576: NARROWER than '..Said'. Prove '..Said' where nothing that the law and all that it calls make is longer than what came in: it says more and counts as full. Else prove '..UptoSaid'. A law counts once. -/
mutual
def uptoBulk {H : Type} : DataW H → Nat
  | .lit (.string bytes) => bytes.length + 1
  | .lit _ => 1
  | .nil => 1
  | .ptr d => uptoBulk d + 1
  | .slice elems spare => uptoBulkAll elems + uptoBulkAll spare + 1
  | .agg parts => uptoBulkAll parts + 1
  | .iface _ d => uptoBulk d + 1
  | .map entries => uptoBulkEntries entries + 1
  | .held _ => 1
def uptoBulkAll {H : Type} : List (DataW H) → Nat
  | [] => 0
  | d :: r => uptoBulk d + uptoBulkAll r
def uptoBulkEntries {H : Type} : List (Lit × DataW H) → Nat
  | [] => 0
  | x :: r => uptoBulkEntry x + uptoBulkEntries r
def uptoBulkEntry {H : Type} : Lit × DataW H → Nat
  | (.string bytes, d) => bytes.length + uptoBulk d + 1
  | (_, d) => uptoBulk d + 1
 end
def uptoSmall : (H : Type) → List (DataW H) → Bool := fun _ ds => decide (uptoBulkAll ds ≤ 1048576)
def OpenSpec.upto (s : _root_.Go.ChangeSpec) : _root_.Go.OpenSpec := { _root_.Go.OpenSpec.ofChange s with cond := some uptoSmall }

/-- 'viaticumlaw12.RevokeMerges', WHERE WHAT IT READS IS OF BULK AT MOST 1048576: true; the input reads as it did. -/
def revokeMergesUptoRow : OpenClaim := { program := "ytjnbdeopoohnmaa", sum := "281aa951889c52835b06291830cae0f00ad37f223e3544c97b4d0d4a54ee4817", func := "viaticum/viaticumlaw12.RevokeMerges", spec := "revokeMerges", inPlace := ["slices.overlaps[viaticum/api.Revoked]"], unfollowed := true, recurses := true, apart := false, narrowed := true }
def RevokeMergesUptoSaid : Prop := revokeMergesUptoRow.holds Try.pinned (OpenSpec.upto revokeMergesSpec)

/-- 'viaticumlaw12.RevokeTells', WHERE WHAT IT READS IS OF BULK AT MOST 1048576: true; the input reads as it did. -/
def revokeTellsUptoRow : OpenClaim := { program := "ytjnbdeopoohnmaa", sum := "281aa951889c52835b06291830cae0f00ad37f223e3544c97b4d0d4a54ee4817", func := "viaticum/viaticumlaw12.RevokeTells", spec := "revokeTells", inPlace := ["slices.overlaps[viaticum/api.Revoked]"], unfollowed := true, recurses := true, apart := false, narrowed := true }
def RevokeTellsUptoSaid : Prop := revokeTellsUptoRow.holds Try.pinned (OpenSpec.upto revokeTellsSpec)

/-- 'viaticumlaw12.RevokeFits', WHERE WHAT IT READS IS OF BULK AT MOST 1048576: true; the input reads as it did. -/
def revokeFitsUptoRow : OpenClaim := { program := "ytjnbdeopoohnmaa", sum := "281aa951889c52835b06291830cae0f00ad37f223e3544c97b4d0d4a54ee4817", func := "viaticum/viaticumlaw12.RevokeFits", spec := "revokeFits", inPlace := ["slices.overlaps[viaticum/api.Revoked]"], unfollowed := true, recurses := true, apart := false, narrowed := true }
def RevokeFitsUptoSaid : Prop := revokeFitsUptoRow.holds Try.pinned (OpenSpec.upto revokeFitsSpec)

/-- 'viaticumlaw56.RosterFits', WHERE WHAT IT READS IS OF BULK AT MOST 1048576: true; the input reads as it did. -/
def rosterFitsUptoRow : OpenClaim := { program := "ytjnbdeopoohnmaa", sum := "281aa951889c52835b06291830cae0f00ad37f223e3544c97b4d0d4a54ee4817", func := "viaticum/viaticumlaw56.RosterFits", spec := "rosterFits", inPlace := ["slices.overlaps[viaticum/api.Account]", "slices.overlaps[viaticum/api.Spell]"], unfollowed := true, recurses := true, apart := false, narrowed := true }
def RosterFitsUptoSaid : Prop := rosterFitsUptoRow.holds Try.pinned (OpenSpec.upto rosterFitsSpec)

/-- 'viaticumlaw56.RosterTurns', WHERE WHAT IT READS IS OF BULK AT MOST 1048576: true; the input reads as it did. -/
def rosterTurnsUptoRow : OpenClaim := { program := "ytjnbdeopoohnmaa", sum := "281aa951889c52835b06291830cae0f00ad37f223e3544c97b4d0d4a54ee4817", func := "viaticum/viaticumlaw56.RosterTurns", spec := "rosterTurns", inPlace := ["slices.overlaps[viaticum/api.Account]", "slices.overlaps[viaticum/api.Spell]"], unfollowed := true, recurses := true, apart := false, narrowed := true }
def RosterTurnsUptoSaid : Prop := rosterTurnsUptoRow.holds Try.pinned (OpenSpec.upto rosterTurnsSpec)

/-- 'viaticumlaw56.RosterBytes', WHERE WHAT IT READS IS OF BULK AT MOST 1048576: true; the input reads as it did. -/
def rosterBytesUptoRow : OpenClaim := { program := "ytjnbdeopoohnmaa", sum := "281aa951889c52835b06291830cae0f00ad37f223e3544c97b4d0d4a54ee4817", func := "viaticum/viaticumlaw56.RosterBytes", spec := "rosterBytes", inPlace := ["slices.overlaps[viaticum/api.Account]", "slices.overlaps[viaticum/api.Spell]"], unfollowed := true, recurses := true, apart := false, narrowed := true }
def RosterBytesUptoSaid : Prop := rosterBytesUptoRow.holds Try.pinned (OpenSpec.upto rosterBytesSpec)

end Rows
end Go.Proofs.Ytjnbdeopoohnmaa
