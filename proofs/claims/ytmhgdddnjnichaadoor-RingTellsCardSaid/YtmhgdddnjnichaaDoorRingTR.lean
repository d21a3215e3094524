/- Layer 9 (ring): RingTells, as its row wants it. -/
import Derived.Test.YtmhgdddnjnichaaDoorRingT
import Derived.Test.YtmhgdddnjnichaaDoorFrameR
namespace Go.Proofs.YtmhgdddnjnichaaDoor
open Go.RowKit Go.Sort
theorem ringtells_row (v0 : Value) (x : RingArg) (vd : Value) (draw : List UInt8) (v2 : Value) (n : Int × Int) (w : World) (h0 : v0 = .agg #[.int .i64 x.keep, x.v] ∧ RingIs w x) (hd : Bs w vd draw) (h2 : v2 = .agg #[.int .i64 n.1, .int .i64 n.2]) (hT : Tabbed w) :
    Calls Tryd.prog 7 #[v0, vd, v2] w fun e w' => e = .returned (.bool true) ∧ Below w.heap.size w w' := by
  rw [h0.1, h2]
  exact ringtells_walk x.keep n.1 n.2 x.v vd x.l draw w h0.2.1 h0.2.2 hd hT
end Go.Proofs.YtmhgdddnjnichaaDoor
