/- Layer 10 (token): TokenTagged, as its row wants it. -/
import Derived.Test.YtmhgdddnjnichaaDoorTokT
import Derived.Test.YtmhgdddnjnichaaDoorFrameR
namespace Go.Proofs.YtmhgdddnjnichaaDoor
open Go.RowKit Go.Sort
theorem tokentagged_row (v0 : Value) (x : RingArg) (y : Value) (b : List UInt8) (now : Int) (w : World) (h0 : v0 = .agg #[.int .i64 x.keep, x.v] ∧ RingIs w x) (hy : Bs w y b) (_hn : -9223372036854775808 ≤ now ∧ now ≤ 9223372036854775807) (hT : Tabbed w) :
    Calls Tryd.prog 11 #[v0, y, .int .i64 now] w fun e w' => e = .returned (.bool true) ∧ Below w.heap.size w w' := by
  rw [h0.1]
  exact tokentagged_walk x.keep x.v x.l y b now w h0.2.1 hy hT
end Go.Proofs.YtmhgdddnjnichaaDoor
