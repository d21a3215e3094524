/- Layer 19 (version): VersionPublishes, as its row wants it. -/
import Derived.Test.YtbonapdainlpjaaVp6
import Derived.Test.YtbonapdainlpjaaFrame
namespace Go.Proofs.Ytbonapdainlpjaa
open Go.RowKit Go.Sort
theorem vp_row (v : Value) (l : List NetX) (v1 : Value) (x : NetX) (v2 : Value) (z : Int × Int) (w : World) (h : Nets w v l) (h1 : v1 = x.agg ∧ NetIs w x) (h2 : v2 = .agg #[.int .i64 z.1, .int .i64 z.2] ∧ (Lit.int .i64 z.1).wf = true ∧ (Lit.int .i64 z.2).wf = true) :
    Calls Try.prog 14 #[v, v1, v2] w fun e w' => e = .returned (.bool true) ∧ Below w.heap.size w w' := by
  obtain ⟨rfl, hx⟩ := h1
  obtain ⟨rfl, -, hz⟩ := h2
  exact vp_walk v l x z.1 z.2 w h hx (wf_i64 hz)
end Go.Proofs.Ytbonapdainlpjaa
