/-
  No cell of these rows narrows 'for every input' (looked for: loops, veiled, ifaces, maps, wideKeys, modest, calm, conditions, laid).
  DERIVED. THE GIVEN ROWS OF THIS SEAT. 12 by the template 'for every input the law returns true; each argument reads behind the call as it read before'; 0 by the template 'total and deterministic' (their statements: YtbonapdainlpjaaTotals.lean).
  GIVEN WITH THE SEED: the statements are not yours to turn. If you find one false, say at which input.
  Laid BY PROGRAM, IN A SANDBOX (cutbox-rows.mjs): the forced cells as the released guide's own fill.sh prints them over the translation f4fd0dc3368461b4… (all of the seat's roots in one cut). By AI agents, Wed Nov 11 2026. No macro, syntax, notation, axiom, sorry.
-/
import Derived.Test.YtbonapdainlpjaaChecked
import GoSem.Claim
import GoSem.ClaimJoined
import GoSem.ClaimMapViews
import Derived.JoinedTies
import Derived.KernelRfl
namespace Go.Proofs.Ytbonapdainlpjaa
/- THE CELL 'sum', in the pinned program and in every row, IS THE sha256 OF THE DUMP (.gsa) THAT YtbonapdainlpjaaProg.lean LOADS. Nothing in Lean hashes anything: it is a label: what it is worth is what the hold of that sum in a sandbox is worth. -/
noncomputable def Try.pinned : Pinned := { name := "ytbonapdainlpjaa", sum := "f4fd0dc3368461b4671e1906053396ce3316efdf24dd44659050d09e9f8cf681", checked := Try.checked }
namespace Rows
def none {H : Type} : Left H := { results := [], args := [] }

/-- 'viaticumlaw53.SimplifyDrops': WHATEVER THE INPUT: true; the input reads as it did. -/
def simplifyDropsSpec : ChangeSpec := { name := "simplifyDrops", fn := fun _ => fun
  | [d1, d2, d3] => { results := [.lit (.bool true)], args := [d1, d2, d3] }
  | _ => none }
def simplifyDropsRow : OpenClaim := { program := "ytbonapdainlpjaa", sum := "f4fd0dc3368461b4671e1906053396ce3316efdf24dd44659050d09e9f8cf681", func := "viaticum/viaticumlaw53.SimplifyDrops", spec := "simplifyDrops", unfollowed := true, recurses := true, apart := false }
def SimplifyDropsSaid : Prop := simplifyDropsRow.holds Try.pinned (OpenSpec.ofChange simplifyDropsSpec)

/-- ITS FALSE NEIGHBOUR: 'it returns false'. Refute it at one input. -/
def simplifyDropsWrong : ChangeSpec := { name := "simplifyDrops", fn := fun _ => fun
  | [d1, d2, d3] => { results := [.lit (.bool false)], args := [d1, d2, d3] }
  | _ => none }
def SimplifyDropsWrongFalsely : Prop := simplifyDropsRow.holds Try.pinned (OpenSpec.ofChange simplifyDropsWrong)

/-- 'viaticumlaw53.SimplifyFits': WHATEVER THE INPUT: true; the input reads as it did. -/
def simplifyFitsSpec : ChangeSpec := { name := "simplifyFits", fn := fun _ => fun
  | [d1, d2, d3] => { results := [.lit (.bool true)], args := [d1, d2, d3] }
  | _ => none }
def simplifyFitsRow : OpenClaim := { program := "ytbonapdainlpjaa", sum := "f4fd0dc3368461b4671e1906053396ce3316efdf24dd44659050d09e9f8cf681", func := "viaticum/viaticumlaw53.SimplifyFits", spec := "simplifyFits", unfollowed := true, recurses := true, apart := false }
def SimplifyFitsSaid : Prop := simplifyFitsRow.holds Try.pinned (OpenSpec.ofChange simplifyFitsSpec)

/-- ITS FALSE NEIGHBOUR: 'it returns false'. Refute it at one input. -/
def simplifyFitsWrong : ChangeSpec := { name := "simplifyFits", fn := fun _ => fun
  | [d1, d2, d3] => { results := [.lit (.bool false)], args := [d1, d2, d3] }
  | _ => none }
def SimplifyFitsWrongFalsely : Prop := simplifyFitsRow.holds Try.pinned (OpenSpec.ofChange simplifyFitsWrong)

/-- 'viaticumlaw34.BlockPlays': WHATEVER THE INPUT: true; the input reads as it did. -/
def blockPlaysSpec : ChangeSpec := { name := "blockPlays", fn := fun _ => fun
  | [d1, d2] => { results := [.lit (.bool true)], args := [d1, d2] }
  | _ => none }
def blockPlaysRow : OpenClaim := { program := "ytbonapdainlpjaa", sum := "f4fd0dc3368461b4671e1906053396ce3316efdf24dd44659050d09e9f8cf681", func := "viaticum/viaticumlaw34.BlockPlays", spec := "blockPlays", apart := false }
def BlockPlaysSaid : Prop := blockPlaysRow.holds Try.pinned (OpenSpec.ofChange blockPlaysSpec)

/-- ITS FALSE NEIGHBOUR: 'it returns false'. Refute it at one input. -/
def blockPlaysWrong : ChangeSpec := { name := "blockPlays", fn := fun _ => fun
  | [d1, d2] => { results := [.lit (.bool false)], args := [d1, d2] }
  | _ => none }
def BlockPlaysWrongFalsely : Prop := blockPlaysRow.holds Try.pinned (OpenSpec.ofChange blockPlaysWrong)

/-- 'viaticumlaw34.BlockTears': WHATEVER THE INPUT: true; the input reads as it did. -/
def blockTearsSpec : ChangeSpec := { name := "blockTears", fn := fun _ => fun
  | [d1, d2, d3] => { results := [.lit (.bool true)], args := [d1, d2, d3] }
  | _ => none }
def blockTearsRow : OpenClaim := { program := "ytbonapdainlpjaa", sum := "f4fd0dc3368461b4671e1906053396ce3316efdf24dd44659050d09e9f8cf681", func := "viaticum/viaticumlaw34.BlockTears", spec := "blockTears", apart := false }
def BlockTearsSaid : Prop := blockTearsRow.holds Try.pinned (OpenSpec.ofChange blockTearsSpec)

/-- ITS FALSE NEIGHBOUR: 'it returns false'. Refute it at one input. -/
def blockTearsWrong : ChangeSpec := { name := "blockTears", fn := fun _ => fun
  | [d1, d2, d3] => { results := [.lit (.bool false)], args := [d1, d2, d3] }
  | _ => none }
def BlockTearsWrongFalsely : Prop := blockTearsRow.holds Try.pinned (OpenSpec.ofChange blockTearsWrong)

/-- 'viaticumlaw35.LogOpens': WHATEVER THE INPUT: true; the input reads as it did. -/
def logOpensSpec : ChangeSpec := { name := "logOpens", fn := fun _ => fun
  | [d1, d2] => { results := [.lit (.bool true)], args := [d1, d2] }
  | _ => none }
def logOpensRow : OpenClaim := { program := "ytbonapdainlpjaa", sum := "f4fd0dc3368461b4671e1906053396ce3316efdf24dd44659050d09e9f8cf681", func := "viaticum/viaticumlaw35.LogOpens", spec := "logOpens", apart := false }
def LogOpensSaid : Prop := logOpensRow.holds Try.pinned (OpenSpec.ofChange logOpensSpec)

/-- ITS FALSE NEIGHBOUR: 'it returns false'. Refute it at one input. -/
def logOpensWrong : ChangeSpec := { name := "logOpens", fn := fun _ => fun
  | [d1, d2] => { results := [.lit (.bool false)], args := [d1, d2] }
  | _ => none }
def LogOpensWrongFalsely : Prop := logOpensRow.holds Try.pinned (OpenSpec.ofChange logOpensWrong)

/-- 'viaticumlaw35.LogAppends': WHATEVER THE INPUT: true; the input reads as it did. -/
def logAppendsSpec : ChangeSpec := { name := "logAppends", fn := fun _ => fun
  | [d1, d2] => { results := [.lit (.bool true)], args := [d1, d2] }
  | _ => none }
def logAppendsRow : OpenClaim := { program := "ytbonapdainlpjaa", sum := "f4fd0dc3368461b4671e1906053396ce3316efdf24dd44659050d09e9f8cf681", func := "viaticum/viaticumlaw35.LogAppends", spec := "logAppends", apart := false }
def LogAppendsSaid : Prop := logAppendsRow.holds Try.pinned (OpenSpec.ofChange logAppendsSpec)

/-- ITS FALSE NEIGHBOUR: 'it returns false'. Refute it at one input. -/
def logAppendsWrong : ChangeSpec := { name := "logAppends", fn := fun _ => fun
  | [d1, d2] => { results := [.lit (.bool false)], args := [d1, d2] }
  | _ => none }
def LogAppendsWrongFalsely : Prop := logAppendsRow.holds Try.pinned (OpenSpec.ofChange logAppendsWrong)

/-- 'viaticumlaw35.LogTorn': WHATEVER THE INPUT: true; the input reads as it did. -/
def logTornSpec : ChangeSpec := { name := "logTorn", fn := fun _ => fun
  | [d1, d2, d3] => { results := [.lit (.bool true)], args := [d1, d2, d3] }
  | _ => none }
def logTornRow : OpenClaim := { program := "ytbonapdainlpjaa", sum := "f4fd0dc3368461b4671e1906053396ce3316efdf24dd44659050d09e9f8cf681", func := "viaticum/viaticumlaw35.LogTorn", spec := "logTorn", apart := false }
def LogTornSaid : Prop := logTornRow.holds Try.pinned (OpenSpec.ofChange logTornSpec)

/-- ITS FALSE NEIGHBOUR: 'it returns false'. Refute it at one input. -/
def logTornWrong : ChangeSpec := { name := "logTorn", fn := fun _ => fun
  | [d1, d2, d3] => { results := [.lit (.bool false)], args := [d1, d2, d3] }
  | _ => none }
def LogTornWrongFalsely : Prop := logTornRow.holds Try.pinned (OpenSpec.ofChange logTornWrong)

/-- 'viaticumlaw36.SnapOpens': WHATEVER THE INPUT: true; the input reads as it did. -/
def snapOpensSpec : ChangeSpec := { name := "snapOpens", fn := fun _ => fun
  | [d] => { results := [.lit (.bool true)], args := [d] }
  | _ => none }
def snapOpensRow : OpenClaim := { program := "ytbonapdainlpjaa", sum := "f4fd0dc3368461b4671e1906053396ce3316efdf24dd44659050d09e9f8cf681", func := "viaticum/viaticumlaw36.SnapOpens", spec := "snapOpens", apart := false }
def SnapOpensSaid : Prop := snapOpensRow.holds Try.pinned (OpenSpec.ofChange snapOpensSpec)

/-- ITS FALSE NEIGHBOUR: 'it returns false'. Refute it at one input. -/
def snapOpensWrong : ChangeSpec := { name := "snapOpens", fn := fun _ => fun
  | [d] => { results := [.lit (.bool false)], args := [d] }
  | _ => none }
def SnapOpensWrongFalsely : Prop := snapOpensRow.holds Try.pinned (OpenSpec.ofChange snapOpensWrong)

/-- 'viaticumlaw36.SnapSteps': WHATEVER THE INPUT: true; the input reads as it did. -/
def snapStepsSpec : ChangeSpec := { name := "snapSteps", fn := fun _ => fun
  | [d1, d2] => { results := [.lit (.bool true)], args := [d1, d2] }
  | _ => none }
def snapStepsRow : OpenClaim := { program := "ytbonapdainlpjaa", sum := "f4fd0dc3368461b4671e1906053396ce3316efdf24dd44659050d09e9f8cf681", func := "viaticum/viaticumlaw36.SnapSteps", spec := "snapSteps", apart := false }
def SnapStepsSaid : Prop := snapStepsRow.holds Try.pinned (OpenSpec.ofChange snapStepsSpec)

/-- ITS FALSE NEIGHBOUR: 'it returns false'. Refute it at one input. -/
def snapStepsWrong : ChangeSpec := { name := "snapSteps", fn := fun _ => fun
  | [d1, d2] => { results := [.lit (.bool false)], args := [d1, d2] }
  | _ => none }
def SnapStepsWrongFalsely : Prop := snapStepsRow.holds Try.pinned (OpenSpec.ofChange snapStepsWrong)

/-- 'viaticumlaw36.SnapFull': WHATEVER THE INPUT: true; the input reads as it did. -/
def snapFullSpec : ChangeSpec := { name := "snapFull", fn := fun _ => fun
  | [d1, d2, d3] => { results := [.lit (.bool true)], args := [d1, d2, d3] }
  | _ => none }
def snapFullRow : OpenClaim := { program := "ytbonapdainlpjaa", sum := "f4fd0dc3368461b4671e1906053396ce3316efdf24dd44659050d09e9f8cf681", func := "viaticum/viaticumlaw36.SnapFull", spec := "snapFull", apart := false }
def SnapFullSaid : Prop := snapFullRow.holds Try.pinned (OpenSpec.ofChange snapFullSpec)

/-- ITS FALSE NEIGHBOUR: 'it returns false'. Refute it at one input. -/
def snapFullWrong : ChangeSpec := { name := "snapFull", fn := fun _ => fun
  | [d1, d2, d3] => { results := [.lit (.bool false)], args := [d1, d2, d3] }
  | _ => none }
def SnapFullWrongFalsely : Prop := snapFullRow.holds Try.pinned (OpenSpec.ofChange snapFullWrong)

/-- 'viaticumlaw19.VersionFinds': WHATEVER THE INPUT: true; the input reads as it did. -/
def versionFindsSpec : ChangeSpec := { name := "versionFinds", fn := fun _ => fun
  | [d1, d2, d3] => { results := [.lit (.bool true)], args := [d1, d2, d3] }
  | _ => none }
def versionFindsRow : OpenClaim := { program := "ytbonapdainlpjaa", sum := "f4fd0dc3368461b4671e1906053396ce3316efdf24dd44659050d09e9f8cf681", func := "viaticum/viaticumlaw19.VersionFinds", spec := "versionFinds", unfollowed := true, recurses := true, apart := false }
def VersionFindsSaid : Prop := versionFindsRow.holds Try.pinned (OpenSpec.ofChange versionFindsSpec)

/-- ITS FALSE NEIGHBOUR: 'it returns false'. Refute it at one input. -/
def versionFindsWrong : ChangeSpec := { name := "versionFinds", fn := fun _ => fun
  | [d1, d2, d3] => { results := [.lit (.bool false)], args := [d1, d2, d3] }
  | _ => none }
def VersionFindsWrongFalsely : Prop := versionFindsRow.holds Try.pinned (OpenSpec.ofChange versionFindsWrong)

/-- 'viaticumlaw19.VersionPublishes': WHATEVER THE INPUT: true; the input reads as it did. -/
def versionPublishesSpec : ChangeSpec := { name := "versionPublishes", fn := fun _ => fun
  | [d1, d2, d3] => { results := [.lit (.bool true)], args := [d1, d2, d3] }
  | _ => none }
def versionPublishesRow : OpenClaim := { program := "ytbonapdainlpjaa", sum := "f4fd0dc3368461b4671e1906053396ce3316efdf24dd44659050d09e9f8cf681", func := "viaticum/viaticumlaw19.VersionPublishes", spec := "versionPublishes", unfollowed := true, recurses := true, apart := false }
def VersionPublishesSaid : Prop := versionPublishesRow.holds Try.pinned (OpenSpec.ofChange versionPublishesSpec)

/-- ITS FALSE NEIGHBOUR: 'it returns false'. Refute it at one input. -/
def versionPublishesWrong : ChangeSpec := { name := "versionPublishes", fn := fun _ => fun
  | [d1, d2, d3] => { results := [.lit (.bool false)], args := [d1, d2, d3] }
  | _ => none }
def VersionPublishesWrongFalsely : Prop := versionPublishesRow.holds Try.pinned (OpenSpec.ofChange versionPublishesWrong)

/- THE SECOND FORM. 'bulk': how many values and letters a reading holds, each counted each time it is reached (what is shared counts as often as it is met; a slice's spare places count too). A statement '..UptoSaid' is the law's where the arguments, and the package variables that the reading takes, are together of bulk at most 1048576: NARROWER than '..Said'. Prove '..Said' where nothing that the law and all that it calls make is longer than what came in: it says more and counts as full. Else prove '..UptoSaid'. A law counts once. -/
mutual
def uptoBulk {H : Type} : DataW H → Nat
  | .lit (.string bytes) => bytes.length + 1
  | .lit _ => 1
  | .nil => 1
  | .ptr d => uptoBulk d + 1
  | .slice elems spare => uptoBulkAll elems + uptoBulkAll spare + 1
  | .agg parts => uptoBulkAll parts + 1
  | .iface _ d => uptoBulk d + 1
  | .map entries => uptoBulkEntries entries + 1
  | .held _ => 1
def uptoBulkAll {H : Type} : List (DataW H) → Nat
  | [] => 0
  | d :: r => uptoBulk d + uptoBulkAll r
def uptoBulkEntries {H : Type} : List (Lit × DataW H) → Nat
  | [] => 0
  | x :: r => uptoBulkEntry x + uptoBulkEntries r
def uptoBulkEntry {H : Type} : Lit × DataW H → Nat
  | (.string bytes, d) => bytes.length + uptoBulk d + 1
  | (_, d) => uptoBulk d + 1
 end
def uptoSmall : (H : Type) → List (DataW H) → Bool := fun _ ds => decide (uptoBulkAll ds ≤ 1048576)
def OpenSpec.upto (s : _root_.Go.ChangeSpec) : _root_.Go.OpenSpec := { _root_.Go.OpenSpec.ofChange s with cond := some uptoSmall }

/-- 'viaticumlaw53.SimplifyDrops', WHERE WHAT IT READS IS OF BULK AT MOST 1048576: true; the input reads as it did. -/
def simplifyDropsUptoRow : OpenClaim := { program := "ytbonapdainlpjaa", sum := "f4fd0dc3368461b4671e1906053396ce3316efdf24dd44659050d09e9f8cf681", func := "viaticum/viaticumlaw53.SimplifyDrops", spec := "simplifyDrops", unfollowed := true, recurses := true, apart := false, narrowed := true }
def SimplifyDropsUptoSaid : Prop := simplifyDropsUptoRow.holds Try.pinned (OpenSpec.upto simplifyDropsSpec)

/-- 'viaticumlaw53.SimplifyFits', WHERE WHAT IT READS IS OF BULK AT MOST 1048576: true; the input reads as it did. -/
def simplifyFitsUptoRow : OpenClaim := { program := "ytbonapdainlpjaa", sum := "f4fd0dc3368461b4671e1906053396ce3316efdf24dd44659050d09e9f8cf681", func := "viaticum/viaticumlaw53.SimplifyFits", spec := "simplifyFits", unfollowed := true, recurses := true, apart := false, narrowed := true }
def SimplifyFitsUptoSaid : Prop := simplifyFitsUptoRow.holds Try.pinned (OpenSpec.upto simplifyFitsSpec)

/-- 'viaticumlaw34.BlockPlays', WHERE WHAT IT READS IS OF BULK AT MOST 1048576: true; the input reads as it did. -/
def blockPlaysUptoRow : OpenClaim := { program := "ytbonapdainlpjaa", sum := "f4fd0dc3368461b4671e1906053396ce3316efdf24dd44659050d09e9f8cf681", func := "viaticum/viaticumlaw34.BlockPlays", spec := "blockPlays", apart := false, narrowed := true }
def BlockPlaysUptoSaid : Prop := blockPlaysUptoRow.holds Try.pinned (OpenSpec.upto blockPlaysSpec)

/-- 'viaticumlaw34.BlockTears', WHERE WHAT IT READS IS OF BULK AT MOST 1048576: true; the input reads as it did. -/
def blockTearsUptoRow : OpenClaim := { program := "ytbonapdainlpjaa", sum := "f4fd0dc3368461b4671e1906053396ce3316efdf24dd44659050d09e9f8cf681", func := "viaticum/viaticumlaw34.BlockTears", spec := "blockTears", apart := false, narrowed := true }
def BlockTearsUptoSaid : Prop := blockTearsUptoRow.holds Try.pinned (OpenSpec.upto blockTearsSpec)

/-- 'viaticumlaw35.LogOpens', WHERE WHAT IT READS IS OF BULK AT MOST 1048576: true; the input reads as it did. -/
def logOpensUptoRow : OpenClaim := { program := "ytbonapdainlpjaa", sum := "f4fd0dc3368461b4671e1906053396ce3316efdf24dd44659050d09e9f8cf681", func := "viaticum/viaticumlaw35.LogOpens", spec := "logOpens", apart := false, narrowed := true }
def LogOpensUptoSaid : Prop := logOpensUptoRow.holds Try.pinned (OpenSpec.upto logOpensSpec)

/-- 'viaticumlaw35.LogAppends', WHERE WHAT IT READS IS OF BULK AT MOST 1048576: true; the input reads as it did. -/
def logAppendsUptoRow : OpenClaim := { program := "ytbonapdainlpjaa", sum := "f4fd0dc3368461b4671e1906053396ce3316efdf24dd44659050d09e9f8cf681", func := "viaticum/viaticumlaw35.LogAppends", spec := "logAppends", apart := false, narrowed := true }
def LogAppendsUptoSaid : Prop := logAppendsUptoRow.holds Try.pinned (OpenSpec.upto logAppendsSpec)

/-- 'viaticumlaw35.LogTorn', WHERE WHAT IT READS IS OF BULK AT MOST 1048576: true; the input reads as it did. -/
def logTornUptoRow : OpenClaim := { program := "ytbonapdainlpjaa", sum := "f4fd0dc3368461b4671e1906053396ce3316efdf24dd44659050d09e9f8cf681", func := "viaticum/viaticumlaw35.LogTorn", spec := "logTorn", apart := false, narrowed := true }
def LogTornUptoSaid : Prop := logTornUptoRow.holds Try.pinned (OpenSpec.upto logTornSpec)

/-- 'viaticumlaw36.SnapOpens', WHERE WHAT IT READS IS OF BULK AT MOST 1048576: true; the input reads as it did. -/
def snapOpensUptoRow : OpenClaim := { program := "ytbonapdainlpjaa", sum := "f4fd0dc3368461b4671e1906053396ce3316efdf24dd44659050d09e9f8cf681", func := "viaticum/viaticumlaw36.SnapOpens", spec := "snapOpens", apart := false, narrowed := true }
def SnapOpensUptoSaid : Prop := snapOpensUptoRow.holds Try.pinned (OpenSpec.upto snapOpensSpec)

/-- 'viaticumlaw36.SnapSteps', WHERE WHAT IT READS IS OF BULK AT MOST 1048576: true; the input reads as it did. -/
def snapStepsUptoRow : OpenClaim := { program := "ytbonapdainlpjaa", sum := "f4fd0dc3368461b4671e1906053396ce3316efdf24dd44659050d09e9f8cf681", func := "viaticum/viaticumlaw36.SnapSteps", spec := "snapSteps", apart := false, narrowed := true }
def SnapStepsUptoSaid : Prop := snapStepsUptoRow.holds Try.pinned (OpenSpec.upto snapStepsSpec)

/-- 'viaticumlaw36.SnapFull', WHERE WHAT IT READS IS OF BULK AT MOST 1048576: true; the input reads as it did. -/
def snapFullUptoRow : OpenClaim := { program := "ytbonapdainlpjaa", sum := "f4fd0dc3368461b4671e1906053396ce3316efdf24dd44659050d09e9f8cf681", func := "viaticum/viaticumlaw36.SnapFull", spec := "snapFull", apart := false, narrowed := true }
def SnapFullUptoSaid : Prop := snapFullUptoRow.holds Try.pinned (OpenSpec.upto snapFullSpec)

/-- 'viaticumlaw19.VersionFinds', WHERE WHAT IT READS IS OF BULK AT MOST 1048576: true; the input reads as it did. -/
def versionFindsUptoRow : OpenClaim := { program := "ytbonapdainlpjaa", sum := "f4fd0dc3368461b4671e1906053396ce3316efdf24dd44659050d09e9f8cf681", func := "viaticum/viaticumlaw19.VersionFinds", spec := "versionFinds", unfollowed := true, recurses := true, apart := false, narrowed := true }
def VersionFindsUptoSaid : Prop := versionFindsUptoRow.holds Try.pinned (OpenSpec.upto versionFindsSpec)

/-- 'viaticumlaw19.VersionPublishes', WHERE WHAT IT READS IS OF BULK AT MOST 1048576: true; the input reads as it did. -/
def versionPublishesUptoRow : OpenClaim := { program := "ytbonapdainlpjaa", sum := "f4fd0dc3368461b4671e1906053396ce3316efdf24dd44659050d09e9f8cf681", func := "viaticum/viaticumlaw19.VersionPublishes", spec := "versionPublishes", unfollowed := true, recurses := true, apart := false, narrowed := true }
def VersionPublishesUptoSaid : Prop := versionPublishesUptoRow.holds Try.pinned (OpenSpec.upto versionPublishesSpec)

end Rows
end Go.Proofs.Ytbonapdainlpjaa
