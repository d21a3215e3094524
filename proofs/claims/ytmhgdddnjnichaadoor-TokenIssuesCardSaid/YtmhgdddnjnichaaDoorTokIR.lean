/- Layer 10 (token): TokenIssues, as its row wants it. -/
import Derived.Test.YtmhgdddnjnichaaDoorTokI
import Derived.Test.YtmhgdddnjnichaaDoorFrameR
import Derived.Test.YtmhgdddnjnichaaDoorTokR
namespace Go.Proofs.YtmhgdddnjnichaaDoor
open Go.RowKit Go.Sort
theorem tokenissues_row (v0 : Value) (x : RingArg) (v1 : Value) (t : Tok) (w : World) (h0 : v0 = .agg #[.int .i64 x.keep, x.v] ∧ RingIs w x) (h1 : v1 = .agg t.row ∧ t.Wf) (hT : Tabbed w) :
    Calls Tryd.prog 9 #[v0, v1] w fun e w' => e = .returned (.bool true) ∧ Below w.heap.size w w' := by
  rw [h0.1, h1.1]
  exact tokenissues_walk x.keep x.v x.l t w h0.2.1 h0.2.2 h1.2 hT
end Go.Proofs.YtmhgdddnjnichaaDoor
