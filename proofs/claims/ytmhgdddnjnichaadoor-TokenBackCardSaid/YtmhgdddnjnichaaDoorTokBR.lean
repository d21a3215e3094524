/- Layer 10 (token): TokenBack, as its row wants it. -/
import Derived.Test.YtmhgdddnjnichaaDoorTokB
import Derived.Test.YtmhgdddnjnichaaDoorFrameR
import Derived.Test.YtmhgdddnjnichaaDoorFrameBs
import Derived.Test.YtmhgdddnjnichaaDoorTokR
namespace Go.Proofs.YtmhgdddnjnichaaDoor
open Go.RowKit Go.Sort
theorem tokenback_row (v0 : Value) (x : RingArg) (v1 : Value) (t : Tok) (vl : Value) (y : List Value × List (List UInt8)) (w : World) (h0 : v0 = .agg #[.int .i64 x.keep, x.v] ∧ RingIs w x) (h1 : v1 = .agg t.row ∧ t.Wf) (hl : Bss w vl y) (hT : Tabbed w) :
    Calls Tryd.prog 12 #[v0, v1, vl] w fun e w' => e = .returned (.bool true) ∧ Below w.heap.size w w' := by
  rw [h0.1, h1.1]
  exact tokenback_walk x.keep x.v x.l t vl y.1 y.2 hl.1 w h0.2.1 h0.2.2 h1.2 hl.2.1 hl.2.2 hT
end Go.Proofs.YtmhgdddnjnichaaDoor
