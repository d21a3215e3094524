/-
  No cell of these rows narrows 'for every input' (looked for: loops, veiled, ifaces, maps, wideKeys, modest, calm, conditions, laid).
  DERIVED. THE GIVEN ROWS OF THIS SEAT. 10 by the template 'for every input the law returns true; each argument reads behind the call as it read before'; 0 by the template 'total and deterministic' (their statements: YticpmkdlnjnfgaaTotals.lean).
  GIVEN WITH THE SEED: the statements are not yours to turn. If you find one false, say at which input.
  Laid BY PROGRAM, IN A SANDBOX (cutbox-rows.mjs): the forced cells as the released guide's own fill.sh prints them over the translation eb57e04e7adfdd48… (all of the seat's roots in one cut). By AI agents, Wed Nov 11 2026. No macro, syntax, notation, axiom, sorry.
-/
import Derived.Test.YticpmkdlnjnfgaaChecked
import GoSem.Claim
import GoSem.ClaimJoined
import GoSem.ClaimMapViews
import Derived.JoinedTies
import Derived.KernelRfl
namespace Go.Proofs.Yticpmkdlnjnfgaa
/- THE CELL 'sum', in the pinned program and in every row, IS THE sha256 OF THE DUMP (.gsa) THAT YticpmkdlnjnfgaaProg.lean LOADS. Nothing in Lean hashes anything: it is a label: what it is worth is what the hold of that sum in a sandbox is worth. -/
noncomputable def Try.pinned : Pinned := { name := "yticpmkdlnjnfgaa", sum := "eb57e04e7adfdd48654e1a4a46bcb87a9a98820465f961f439efbe3d5a2afb5b", checked := Try.checked }
namespace Rows
def none {H : Type} : Left H := { results := [], args := [] }

/-- 'viaticumlaw05.SamplePuts': WHATEVER THE INPUT: true; the input reads as it did. -/
def samplePutsSpec : ChangeSpec := { name := "samplePuts", fn := fun _ => fun
  | [d] => { results := [.lit (.bool true)], args := [d] }
  | _ => none }
def samplePutsRow : OpenClaim := { program := "yticpmkdlnjnfgaa", sum := "eb57e04e7adfdd48654e1a4a46bcb87a9a98820465f961f439efbe3d5a2afb5b", func := "viaticum/viaticumlaw05.SamplePuts", spec := "samplePuts", unfollowed := true, recurses := true, apart := false }
def SamplePutsSaid : Prop := samplePutsRow.holds Try.pinned (OpenSpec.ofChange samplePutsSpec)

/-- ITS FALSE NEIGHBOUR: 'it returns false'. Refute it at one input. -/
def samplePutsWrong : ChangeSpec := { name := "samplePuts", fn := fun _ => fun
  | [d] => { results := [.lit (.bool false)], args := [d] }
  | _ => none }
def SamplePutsWrongFalsely : Prop := samplePutsRow.holds Try.pinned (OpenSpec.ofChange samplePutsWrong)

/-- 'viaticumlaw05.SampleTakes': WHATEVER THE INPUT: true; the input reads as it did. -/
def sampleTakesSpec : ChangeSpec := { name := "sampleTakes", fn := fun _ => fun
  | [d1, d2] => { results := [.lit (.bool true)], args := [d1, d2] }
  | _ => none }
def sampleTakesRow : OpenClaim := { program := "yticpmkdlnjnfgaa", sum := "eb57e04e7adfdd48654e1a4a46bcb87a9a98820465f961f439efbe3d5a2afb5b", func := "viaticum/viaticumlaw05.SampleTakes", spec := "sampleTakes", unfollowed := true, recurses := true, apart := false }
def SampleTakesSaid : Prop := sampleTakesRow.holds Try.pinned (OpenSpec.ofChange sampleTakesSpec)

/-- ITS FALSE NEIGHBOUR: 'it returns false'. Refute it at one input. -/
def sampleTakesWrong : ChangeSpec := { name := "sampleTakes", fn := fun _ => fun
  | [d1, d2] => { results := [.lit (.bool false)], args := [d1, d2] }
  | _ => none }
def SampleTakesWrongFalsely : Prop := sampleTakesRow.holds Try.pinned (OpenSpec.ofChange sampleTakesWrong)

/-- 'viaticumlaw05.SampleBack': WHATEVER THE INPUT: true; the input reads as it did. -/
def sampleBackSpec : ChangeSpec := { name := "sampleBack", fn := fun _ => fun
  | [d1, d2, d3] => { results := [.lit (.bool true)], args := [d1, d2, d3] }
  | _ => none }
def sampleBackRow : OpenClaim := { program := "yticpmkdlnjnfgaa", sum := "eb57e04e7adfdd48654e1a4a46bcb87a9a98820465f961f439efbe3d5a2afb5b", func := "viaticum/viaticumlaw05.SampleBack", spec := "sampleBack", unfollowed := true, recurses := true, apart := false }
def SampleBackSaid : Prop := sampleBackRow.holds Try.pinned (OpenSpec.ofChange sampleBackSpec)

/-- ITS FALSE NEIGHBOUR: 'it returns false'. Refute it at one input. -/
def sampleBackWrong : ChangeSpec := { name := "sampleBack", fn := fun _ => fun
  | [d1, d2, d3] => { results := [.lit (.bool false)], args := [d1, d2, d3] }
  | _ => none }
def SampleBackWrongFalsely : Prop := sampleBackRow.holds Try.pinned (OpenSpec.ofChange sampleBackWrong)

/-- 'viaticumlaw38.OpPuts': WHATEVER THE INPUT: true; the input reads as it did. -/
def opPutsSpec : ChangeSpec := { name := "opPuts", fn := fun _ => fun
  | [d1, d2] => { results := [.lit (.bool true)], args := [d1, d2] }
  | _ => none }
def opPutsRow : OpenClaim := { program := "yticpmkdlnjnfgaa", sum := "eb57e04e7adfdd48654e1a4a46bcb87a9a98820465f961f439efbe3d5a2afb5b", func := "viaticum/viaticumlaw38.OpPuts", spec := "opPuts", apart := false }
def OpPutsSaid : Prop := opPutsRow.holds Try.pinned (OpenSpec.ofChange opPutsSpec)

/-- ITS FALSE NEIGHBOUR: 'it returns false'. Refute it at one input. -/
def opPutsWrong : ChangeSpec := { name := "opPuts", fn := fun _ => fun
  | [d1, d2] => { results := [.lit (.bool false)], args := [d1, d2] }
  | _ => none }
def OpPutsWrongFalsely : Prop := opPutsRow.holds Try.pinned (OpenSpec.ofChange opPutsWrong)

/-- 'viaticumlaw38.OpTakes': WHATEVER THE INPUT: true; the input reads as it did. -/
def opTakesSpec : ChangeSpec := { name := "opTakes", fn := fun _ => fun
  | [d] => { results := [.lit (.bool true)], args := [d] }
  | _ => none }
def opTakesRow : OpenClaim := { program := "yticpmkdlnjnfgaa", sum := "eb57e04e7adfdd48654e1a4a46bcb87a9a98820465f961f439efbe3d5a2afb5b", func := "viaticum/viaticumlaw38.OpTakes", spec := "opTakes", unfollowed := true, recurses := true, apart := false }
def OpTakesSaid : Prop := opTakesRow.holds Try.pinned (OpenSpec.ofChange opTakesSpec)

/-- ITS FALSE NEIGHBOUR: 'it returns false'. Refute it at one input. -/
def opTakesWrong : ChangeSpec := { name := "opTakes", fn := fun _ => fun
  | [d] => { results := [.lit (.bool false)], args := [d] }
  | _ => none }
def OpTakesWrongFalsely : Prop := opTakesRow.holds Try.pinned (OpenSpec.ofChange opTakesWrong)

/-- 'viaticumlaw38.OpBack': WHATEVER THE INPUT: true; the input reads as it did. -/
def opBackSpec : ChangeSpec := { name := "opBack", fn := fun _ => fun
  | [d1, d2] => { results := [.lit (.bool true)], args := [d1, d2] }
  | _ => none }
def opBackRow : OpenClaim := { program := "yticpmkdlnjnfgaa", sum := "eb57e04e7adfdd48654e1a4a46bcb87a9a98820465f961f439efbe3d5a2afb5b", func := "viaticum/viaticumlaw38.OpBack", spec := "opBack", unfollowed := true, recurses := true, apart := false }
def OpBackSaid : Prop := opBackRow.holds Try.pinned (OpenSpec.ofChange opBackSpec)

/-- ITS FALSE NEIGHBOUR: 'it returns false'. Refute it at one input. -/
def opBackWrong : ChangeSpec := { name := "opBack", fn := fun _ => fun
  | [d1, d2] => { results := [.lit (.bool false)], args := [d1, d2] }
  | _ => none }
def OpBackWrongFalsely : Prop := opBackRow.holds Try.pinned (OpenSpec.ofChange opBackWrong)

/-- 'viaticumlaw39.ReplyBytes': WHATEVER THE INPUT: true; the input reads as it did. -/
def replyBytesSpec : ChangeSpec := { name := "replyBytes", fn := fun _ => fun
  | [d1, d2] => { results := [.lit (.bool true)], args := [d1, d2] }
  | _ => none }
def replyBytesRow : OpenClaim := { program := "yticpmkdlnjnfgaa", sum := "eb57e04e7adfdd48654e1a4a46bcb87a9a98820465f961f439efbe3d5a2afb5b", func := "viaticum/viaticumlaw39.ReplyBytes", spec := "replyBytes", unfollowed := true, recurses := true, apart := false }
def ReplyBytesSaid : Prop := replyBytesRow.holds Try.pinned (OpenSpec.ofChange replyBytesSpec)

/-- ITS FALSE NEIGHBOUR: 'it returns false'. Refute it at one input. -/
def replyBytesWrong : ChangeSpec := { name := "replyBytes", fn := fun _ => fun
  | [d1, d2] => { results := [.lit (.bool false)], args := [d1, d2] }
  | _ => none }
def ReplyBytesWrongFalsely : Prop := replyBytesRow.holds Try.pinned (OpenSpec.ofChange replyBytesWrong)

/-- 'viaticumlaw39.ReplyBack': WHATEVER THE INPUT: true; the input reads as it did. -/
def replyBackSpec : ChangeSpec := { name := "replyBack", fn := fun _ => fun
  | [d1, d2] => { results := [.lit (.bool true)], args := [d1, d2] }
  | _ => none }
def replyBackRow : OpenClaim := { program := "yticpmkdlnjnfgaa", sum := "eb57e04e7adfdd48654e1a4a46bcb87a9a98820465f961f439efbe3d5a2afb5b", func := "viaticum/viaticumlaw39.ReplyBack", spec := "replyBack", unfollowed := true, recurses := true, apart := false }
def ReplyBackSaid : Prop := replyBackRow.holds Try.pinned (OpenSpec.ofChange replyBackSpec)

/-- ITS FALSE NEIGHBOUR: 'it returns false'. Refute it at one input. -/
def replyBackWrong : ChangeSpec := { name := "replyBack", fn := fun _ => fun
  | [d1, d2] => { results := [.lit (.bool false)], args := [d1, d2] }
  | _ => none }
def ReplyBackWrongFalsely : Prop := replyBackRow.holds Try.pinned (OpenSpec.ofChange replyBackWrong)

/-- 'viaticumlaw06.TraceBytes': WHATEVER THE INPUT: true; the input reads as it did. -/
def traceBytesSpec : ChangeSpec := { name := "traceBytes", fn := fun _ => fun
  | [d1, d2] => { results := [.lit (.bool true)], args := [d1, d2] }
  | _ => none }
def traceBytesRow : OpenClaim := { program := "yticpmkdlnjnfgaa", sum := "eb57e04e7adfdd48654e1a4a46bcb87a9a98820465f961f439efbe3d5a2afb5b", func := "viaticum/viaticumlaw06.TraceBytes", spec := "traceBytes", unfollowed := true, recurses := true, apart := false }
def TraceBytesSaid : Prop := traceBytesRow.holds Try.pinned (OpenSpec.ofChange traceBytesSpec)

/-- ITS FALSE NEIGHBOUR: 'it returns false'. Refute it at one input. -/
def traceBytesWrong : ChangeSpec := { name := "traceBytes", fn := fun _ => fun
  | [d1, d2] => { results := [.lit (.bool false)], args := [d1, d2] }
  | _ => none }
def TraceBytesWrongFalsely : Prop := traceBytesRow.holds Try.pinned (OpenSpec.ofChange traceBytesWrong)

/-- 'viaticumlaw06.TraceBack': WHATEVER THE INPUT: true; the input reads as it did. -/
def traceBackSpec : ChangeSpec := { name := "traceBack", fn := fun _ => fun
  | [d1, d2] => { results := [.lit (.bool true)], args := [d1, d2] }
  | _ => none }
def traceBackRow : OpenClaim := { program := "yticpmkdlnjnfgaa", sum := "eb57e04e7adfdd48654e1a4a46bcb87a9a98820465f961f439efbe3d5a2afb5b", func := "viaticum/viaticumlaw06.TraceBack", spec := "traceBack", unfollowed := true, recurses := true, apart := false }
def TraceBackSaid : Prop := traceBackRow.holds Try.pinned (OpenSpec.ofChange traceBackSpec)

/-- ITS FALSE NEIGHBOUR: 'it returns false'. Refute it at one input. -/
def traceBackWrong : ChangeSpec := { name := "traceBack", fn := fun _ => fun
  | [d1, d2] => { results := [.lit (.bool false)], args := [d1, d2] }
  | _ => none }
def TraceBackWrongFalsely : Prop := traceBackRow.holds Try.pinned (OpenSpec.ofChange traceBackWrong)

/- THE SECOND FORM. 'bulk': how many values and letters a reading holds, each counted each time it is reached (what is shared counts as often as it is met; a slice's spare places count too). A statement '..UptoSaid' is the law's where the arguments, and the package variables that the reading takes, are together of bulk at most 1048576: NARROWER than '..Said'. Prove '..Said' where nothing that the law and all that it calls make is longer than what came in: it says more and counts as full. Else prove '..UptoSaid'. A law counts once. -/
mutual
def uptoBulk {H : Type} : DataW H → Nat
  | .lit (.string bytes) => bytes.length + 1
  | .lit _ => 1
  | .nil => 1
  | .ptr d => uptoBulk d + 1
  | .slice elems spare => uptoBulkAll elems + uptoBulkAll spare + 1
  | .agg parts => uptoBulkAll parts + 1
  | .iface _ d => uptoBulk d + 1
  | .map entries => uptoBulkEntries entries + 1
  | .held _ => 1
def uptoBulkAll {H : Type} : List (DataW H) → Nat
  | [] => 0
  | d :: r => uptoBulk d + uptoBulkAll r
def uptoBulkEntries {H : Type} : List (Lit × DataW H) → Nat
  | [] => 0
  | x :: r => uptoBulkEntry x + uptoBulkEntries r
def uptoBulkEntry {H : Type} : Lit × DataW H → Nat
  | (.string bytes, d) => bytes.length + uptoBulk d + 1
  | (_, d) => uptoBulk d + 1
 end
def uptoSmall : (H : Type) → List (DataW H) → Bool := fun _ ds => decide (uptoBulkAll ds ≤ 1048576)
def OpenSpec.upto (s : _root_.Go.ChangeSpec) : _root_.Go.OpenSpec := { _root_.Go.OpenSpec.ofChange s with cond := some uptoSmall }

/-- 'viaticumlaw05.SamplePuts', WHERE WHAT IT READS IS OF BULK AT MOST 1048576: true; the input reads as it did. -/
def samplePutsUptoRow : OpenClaim := { program := "yticpmkdlnjnfgaa", sum := "eb57e04e7adfdd48654e1a4a46bcb87a9a98820465f961f439efbe3d5a2afb5b", func := "viaticum/viaticumlaw05.SamplePuts", spec := "samplePuts", unfollowed := true, recurses := true, apart := false, narrowed := true }
def SamplePutsUptoSaid : Prop := samplePutsUptoRow.holds Try.pinned (OpenSpec.upto samplePutsSpec)

/-- 'viaticumlaw05.SampleTakes', WHERE WHAT IT READS IS OF BULK AT MOST 1048576: true; the input reads as it did. -/
def sampleTakesUptoRow : OpenClaim := { program := "yticpmkdlnjnfgaa", sum := "eb57e04e7adfdd48654e1a4a46bcb87a9a98820465f961f439efbe3d5a2afb5b", func := "viaticum/viaticumlaw05.SampleTakes", spec := "sampleTakes", unfollowed := true, recurses := true, apart := false, narrowed := true }
def SampleTakesUptoSaid : Prop := sampleTakesUptoRow.holds Try.pinned (OpenSpec.upto sampleTakesSpec)

/-- 'viaticumlaw05.SampleBack', WHERE WHAT IT READS IS OF BULK AT MOST 1048576: true; the input reads as it did. -/
def sampleBackUptoRow : OpenClaim := { program := "yticpmkdlnjnfgaa", sum := "eb57e04e7adfdd48654e1a4a46bcb87a9a98820465f961f439efbe3d5a2afb5b", func := "viaticum/viaticumlaw05.SampleBack", spec := "sampleBack", unfollowed := true, recurses := true, apart := false, narrowed := true }
def SampleBackUptoSaid : Prop := sampleBackUptoRow.holds Try.pinned (OpenSpec.upto sampleBackSpec)

/-- 'viaticumlaw38.OpPuts', WHERE WHAT IT READS IS OF BULK AT MOST 1048576: true; the input reads as it did. -/
def opPutsUptoRow : OpenClaim := { program := "yticpmkdlnjnfgaa", sum := "eb57e04e7adfdd48654e1a4a46bcb87a9a98820465f961f439efbe3d5a2afb5b", func := "viaticum/viaticumlaw38.OpPuts", spec := "opPuts", apart := false, narrowed := true }
def OpPutsUptoSaid : Prop := opPutsUptoRow.holds Try.pinned (OpenSpec.upto opPutsSpec)

/-- 'viaticumlaw38.OpTakes', WHERE WHAT IT READS IS OF BULK AT MOST 1048576: true; the input reads as it did. -/
def opTakesUptoRow : OpenClaim := { program := "yticpmkdlnjnfgaa", sum := "eb57e04e7adfdd48654e1a4a46bcb87a9a98820465f961f439efbe3d5a2afb5b", func := "viaticum/viaticumlaw38.OpTakes", spec := "opTakes", unfollowed := true, recurses := true, apart := false, narrowed := true }
def OpTakesUptoSaid : Prop := opTakesUptoRow.holds Try.pinned (OpenSpec.upto opTakesSpec)

/-- 'viaticumlaw38.OpBack', WHERE WHAT IT READS IS OF BULK AT MOST 1048576: true; the input reads as it did. -/
def opBackUptoRow : OpenClaim := { program := "yticpmkdlnjnfgaa", sum := "eb57e04e7adfdd48654e1a4a46bcb87a9a98820465f961f439efbe3d5a2afb5b", func := "viaticum/viaticumlaw38.OpBack", spec := "opBack", unfollowed := true, recurses := true, apart := false, narrowed := true }
def OpBackUptoSaid : Prop := opBackUptoRow.holds Try.pinned (OpenSpec.upto opBackSpec)

/-- 'viaticumlaw39.ReplyBytes', WHERE WHAT IT READS IS OF BULK AT MOST 1048576: true; the input reads as it did. -/
def replyBytesUptoRow : OpenClaim := { program := "yticpmkdlnjnfgaa", sum := "eb57e04e7adfdd48654e1a4a46bcb87a9a98820465f961f439efbe3d5a2afb5b", func := "viaticum/viaticumlaw39.ReplyBytes", spec := "replyBytes", unfollowed := true, recurses := true, apart := false, narrowed := true }
def ReplyBytesUptoSaid : Prop := replyBytesUptoRow.holds Try.pinned (OpenSpec.upto replyBytesSpec)

/-- 'viaticumlaw39.ReplyBack', WHERE WHAT IT READS IS OF BULK AT MOST 1048576: true; the input reads as it did. -/
def replyBackUptoRow : OpenClaim := { program := "yticpmkdlnjnfgaa", sum := "eb57e04e7adfdd48654e1a4a46bcb87a9a98820465f961f439efbe3d5a2afb5b", func := "viaticum/viaticumlaw39.ReplyBack", spec := "replyBack", unfollowed := true, recurses := true, apart := false, narrowed := true }
def ReplyBackUptoSaid : Prop := replyBackUptoRow.holds Try.pinned (OpenSpec.upto replyBackSpec)

/-- 'viaticumlaw06.TraceBytes', WHERE WHAT IT READS IS OF BULK AT MOST 1048576: true; the input reads as it did. -/
def traceBytesUptoRow : OpenClaim := { program := "yticpmkdlnjnfgaa", sum := "eb57e04e7adfdd48654e1a4a46bcb87a9a98820465f961f439efbe3d5a2afb5b", func := "viaticum/viaticumlaw06.TraceBytes", spec := "traceBytes", unfollowed := true, recurses := true, apart := false, narrowed := true }
def TraceBytesUptoSaid : Prop := traceBytesUptoRow.holds Try.pinned (OpenSpec.upto traceBytesSpec)

/-- 'viaticumlaw06.TraceBack', WHERE WHAT IT READS IS OF BULK AT MOST 1048576: true; the input reads as it did. -/
def traceBackUptoRow : OpenClaim := { program := "yticpmkdlnjnfgaa", sum := "eb57e04e7adfdd48654e1a4a46bcb87a9a98820465f961f439efbe3d5a2afb5b", func := "viaticum/viaticumlaw06.TraceBack", spec := "traceBack", unfollowed := true, recurses := true, apart := false, narrowed := true }
def TraceBackUptoSaid : Prop := traceBackUptoRow.holds Try.pinned (OpenSpec.upto traceBackSpec)

end Rows
end Go.Proofs.Yticpmkdlnjnfgaa
