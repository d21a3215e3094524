/- Layer 34 (block): BlockPlays, as its row wants it. -/
import Derived.Test.YtbonapdainlpjaaBk12
import Derived.Test.YtbonapdainlpjaaBo1
import Derived.Test.YtbonapdainlpjaaFrame
namespace Go.Proofs.Ytbonapdainlpjaa
open Go.RowKit Go.Sort
theorem blockplays_row (z : Int) (v : Value) (l : List BOp) (w : World) (_h1 : -9223372036854775808 ≤ z ∧ z ≤ 9223372036854775807) (h : Bos w v l) :
    Calls Try.prog 5 #[.int .i64 z, v] w fun e w' => e = .returned (.bool true) ∧ Below w.heap.size w w' := blockplays_walk z v l w h
end Go.Proofs.Ytbonapdainlpjaa
