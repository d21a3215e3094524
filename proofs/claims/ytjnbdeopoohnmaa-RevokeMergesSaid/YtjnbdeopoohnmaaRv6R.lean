/- Layer 12 (revoke): RevokeMerges, as its row wants it. -/
import Derived.Test.YtjnbdeopoohnmaaRv6
import Derived.Test.YtjnbdeopoohnmaaFrame
namespace Go.Proofs.Ytjnbdeopoohnmaa
open Go.RowKit Go.Sort
theorem rm_row (v : Value) (a : List RT) (u : Value) (b : List RT) (w : World) (h : Revs w v a) (hu : Revs w u b) :
    Calls Try.prog 3 #[v, u] w fun e w' => e = .returned (.bool true) ∧ Below w.heap.size w w' := rm_walk v a u b w h hu
end Go.Proofs.Ytjnbdeopoohnmaa
