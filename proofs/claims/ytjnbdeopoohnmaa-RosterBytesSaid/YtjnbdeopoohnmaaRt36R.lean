/- Layer 56 (roster): RosterBytes, as its row wants it. -/
import Derived.Test.YtjnbdeopoohnmaaRt36
import Derived.Test.YtjnbdeopoohnmaaRtV
import Derived.Test.YtjnbdeopoohnmaaFrame
namespace Go.Proofs.Ytjnbdeopoohnmaa
open Go.RowKit Go.Sort
theorem rosterbytes_row (v0 : Value) (l : List AcX) (v1 : Value) (b : List UInt8) (w : World) (h0 : Acs w v0 l) (h1 : Bs w v1 b) :
    Calls Try.prog 8 #[v0, v1] w fun e w' => e = .returned (.bool true) ∧ Below w.heap.size w w' := rosterbytes_walk v0 l v1 b w h0 h1
end Go.Proofs.Ytjnbdeopoohnmaa
