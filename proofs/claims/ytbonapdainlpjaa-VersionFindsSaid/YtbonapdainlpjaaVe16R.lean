/- Layer 19 (version): VersionFinds, as its row wants it. -/
import Derived.Test.YtbonapdainlpjaaVe16
import Derived.Test.YtbonapdainlpjaaFrame
namespace Go.Proofs.Ytbonapdainlpjaa
open Go.RowKit Go.Sort
theorem vf_row (v : Value) (l : List NetX) (v1 : Value) (x : NetX) (z : Int) (w : World) (h : Nets w v l) (h1 : v1 = x.agg ∧ NetIs w x) (_h2 : -9223372036854775808 ≤ z ∧ z ≤ 9223372036854775807) :
    Calls Try.prog 13 #[v, v1, .int .i64 z] w fun e w' => e = .returned (.bool true) ∧ Below w.heap.size w w' := by
  obtain ⟨rfl, hx⟩ := h1
  exact vf_walk v l x z w h hx
end Go.Proofs.Ytbonapdainlpjaa
