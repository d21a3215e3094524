/- Layer 38 (op): OpBack, as its row wants it. -/
import Derived.Test.YticpmkdlnjnfgaaOp15
namespace Go.Proofs.Yticpmkdlnjnfgaa
open Go.RowKit
theorem opback_row (v0 : Value) (o : OpD × Value × Value × Value) (v1 : Value) (l : List UInt8) (w : World) (h0 : v0 = o.1.agg o.2.1 o.2.2.1 o.2.2.2 ∧ OpV w o.1 o.2.1 o.2.2.1 o.2.2.2) (h1 : Bs w v1 l) :
    Calls Try.prog 8 #[v0, v1] w fun e w' => e = .returned (.bool true) ∧ Below w.heap.size w w' := by
  obtain ⟨rfl, h0⟩ := h0
  exact opback_walk _ _ _ _ _ _ w h0 h1
end Go.Proofs.Yticpmkdlnjnfgaa
