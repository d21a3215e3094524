/- Layer 35 (log): LogOpens, as its row wants it. -/
import Derived.Test.YtbonapdainlpjaaLg16
import Derived.Test.YtbonapdainlpjaaFrame
namespace Go.Proofs.Ytbonapdainlpjaa
open Go.RowKit Go.Sort
theorem lo_row (v : Value) (l : List UInt8) (v2 : Value) (z : Int × Int) (w : World) (h : Bs w v l) (h2 : v2 = .agg #[.int .i64 z.1, .int .i64 z.2] ∧ (Lit.int .i64 z.1).wf = true ∧ (Lit.int .i64 z.2).wf = true) :
    Calls Try.prog 7 #[v, v2] w fun e w' => e = .returned (.bool true) ∧ Below w.heap.size w w' := by
  obtain ⟨rfl, h3, h4⟩ := h2
  exact lo_walk v l z.1 z.2 w h (wf_i64 h3) (wf_i64 h4)
end Go.Proofs.Ytbonapdainlpjaa
