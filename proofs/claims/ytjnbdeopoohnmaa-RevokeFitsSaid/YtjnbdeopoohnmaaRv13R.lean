/- Layer 12 (revoke): RevokeFits, as its row wants it. -/
import Derived.Test.YtjnbdeopoohnmaaRv13
import Derived.Test.YtjnbdeopoohnmaaFrame
namespace Go.Proofs.Ytjnbdeopoohnmaa
open Go.RowKit Go.Sort
theorem rf_row (v : Value) (a : List RT) (u : Value) (b : List RT) (v2 : Value) (z : Int × Int) (w : World) (h : Revs w v a) (hu : Revs w u b) (h2 : v2 = .agg #[.int .i64 z.1, .int .i64 z.2] ∧ (Lit.int .i64 z.1).wf = true ∧ (Lit.int .i64 z.2).wf = true) :
    Calls Try.prog 5 #[v, u, v2] w fun e w' => e = .returned (.bool true) ∧ Below w.heap.size w w' := by
  obtain ⟨rfl, -, -⟩ := h2
  exact rf_walk v a u b z.1 z.2 w h hu
end Go.Proofs.Ytjnbdeopoohnmaa
