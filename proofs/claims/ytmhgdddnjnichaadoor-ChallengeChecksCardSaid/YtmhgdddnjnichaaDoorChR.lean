/- Layer 11 (challenge): ChallengeAnswers and ChallengeChecks, as their rows want them. -/
import Derived.Test.YtmhgdddnjnichaaDoorChA
import Derived.Test.YtmhgdddnjnichaaDoorFrameT
namespace Go.Proofs.YtmhgdddnjnichaaDoor
open Go.RowKit Go.Sort
theorem challengeanswers_row (v0 : Value) (x : RingArg) (v1 : Value) (y : BsThree) (now : Int) (w : World) (h0 : v0 = .agg #[.int .i64 x.keep, x.v] ∧ RingIs w x) (h1 : v1 = .agg #[y.v0, y.v1, y.v2] ∧ Bs w y.v0 y.b0 ∧ Bs w y.v1 y.b1 ∧ Bs w y.v2 y.b2) (_hn : -9223372036854775808 ≤ now ∧ now ≤ 9223372036854775807) (hT : Tabbed w) :
    Calls Tryd.prog 13 #[v0, v1, .int .i64 now] w fun e w' => e = .returned (.bool true) ∧ Below w.heap.size w w' := by
  rw [h0.1, h1.1]
  exact challengeanswers_walk x.keep x.v x.l _ _ _ y.b0 y.b1 y.b2 now w h0.2.1 h1.2.1 h1.2.2.1 h1.2.2.2 hT
theorem challengechecks_row (v0 : Value) (x : RingArg) (v1 : Value) (y : BsThree) (v2 : Value) (z : Int × Int) (w : World) (h0 : v0 = .agg #[.int .i64 x.keep, x.v] ∧ RingIs w x) (h1 : v1 = .agg #[y.v0, y.v1, y.v2] ∧ Bs w y.v0 y.b0 ∧ Bs w y.v1 y.b1 ∧ Bs w y.v2 y.b2)
    (h2 : v2 = .agg #[.int .i64 z.1, .int .i64 z.2] ∧ (Lit.int .i64 z.1).wf = true ∧ (Lit.int .i64 z.2).wf = true) (hT : Tabbed w) :
    Calls Tryd.prog 14 #[v0, v1, v2] w fun e w' => e = .returned (.bool true) ∧ Below w.heap.size w w' := by
  rw [h0.1, h1.1, h2.1]
  exact challengechecks_walk x.keep x.v x.l _ _ _ y.b0 y.b1 y.b2 z.1 z.2 w h0.2.1 h1.2.1 h1.2.2.1 h1.2.2.2 (wf_i64 h2.2.2) hT
end Go.Proofs.YtmhgdddnjnichaaDoor
