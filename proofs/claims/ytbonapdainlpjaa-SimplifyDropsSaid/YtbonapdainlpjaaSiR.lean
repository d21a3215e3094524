/- Layer 53 (simplify): SimplifyDrops, as its row wants it. -/
import Derived.Test.YtbonapdainlpjaaSi7
import Derived.Test.YtbonapdainlpjaaFrame
namespace Go.Proofs.Ytbonapdainlpjaa
open Go.RowKit Go.Sort
theorem simplifydrops_row (v : Value) (l : List Smp) (limit most : Int) (w : World) (h : Ss w v l) (_h1 : -9223372036854775808 ≤ limit ∧ limit ≤ 9223372036854775807) (_h2 : -9223372036854775808 ≤ most ∧ most ≤ 9223372036854775807) :
    Calls Try.prog 3 #[v, .int .i64 limit, .int .i64 most] w fun e w' => e = .returned (.bool true) ∧ Below w.heap.size w w' := simplifydrops_walk v l limit most w h
end Go.Proofs.Ytbonapdainlpjaa
