/- Layer 56 (roster): RosterFits, as its row wants it. -/
import Derived.Test.YtjnbdeopoohnmaaRt28
import Derived.Test.YtjnbdeopoohnmaaRtV
import Derived.Test.YtjnbdeopoohnmaaFrame
namespace Go.Proofs.Ytjnbdeopoohnmaa
open Go.RowKit Go.Sort
theorem rosterfits_row (v0 : Value) (l : List AcX) (v1 : Value) (a : Int × Int × Int) (tm : Int) (w : World) (h0 : Acs w v0 l) (ha : v1 = .agg #[.int .i64 a.1, .int .i64 a.2.1, .int .i64 a.2.2] ∧ (Lit.int .i64 a.1).wf = true ∧ (Lit.int .i64 a.2.1).wf = true ∧ (Lit.int .i64 a.2.2).wf = true) (h1 : -9223372036854775808 ≤ tm ∧ tm ≤ 9223372036854775807) :
    Calls Try.prog 6 #[v0, v1, .int .i64 tm] w fun e w' => e = .returned (.bool true) ∧ Below w.heap.size w w' := by
  obtain ⟨x, y, z⟩ := a
  obtain ⟨rfl, k1, k2, k3⟩ := ha
  exact rosterfits_walk v0 l x y z tm w h0 (iw_wf k2) (iw_wf k3) (by unfold IW; omega)
end Go.Proofs.Ytjnbdeopoohnmaa
