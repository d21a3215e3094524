/- Layer 56 (roster): RosterTurns, as its row wants it. -/
import Derived.Test.YtjnbdeopoohnmaaRt25
import Derived.Test.YtjnbdeopoohnmaaRtV
import Derived.Test.YtjnbdeopoohnmaaFrame
namespace Go.Proofs.Ytjnbdeopoohnmaa
open Go.RowKit Go.Sort
theorem rosterturns_row (v0 : Value) (l : List AcX) (id : Int) (v2 : Value) (a : Int × Int × Int) (w : World) (h0 : Acs w v0 l) (h1 : -9223372036854775808 ≤ id ∧ id ≤ 9223372036854775807) (ha : v2 = .agg #[.int .i64 a.1, .int .i64 a.2.1, .int .i64 a.2.2] ∧ (Lit.int .i64 a.1).wf = true ∧ (Lit.int .i64 a.2.1).wf = true ∧ (Lit.int .i64 a.2.2).wf = true) :
    Calls Try.prog 7 #[v0, .int .i64 id, v2] w fun e w' => e = .returned (.bool true) ∧ Below w.heap.size w w' := by
  obtain ⟨x, y, z⟩ := a
  obtain ⟨rfl, k1, k2, k3⟩ := ha
  exact rosterturns_walk v0 l id x y z w h0 (by unfold IW; omega) (iw_wf k1) (iw_wf k2) (iw_wf k3)
end Go.Proofs.Ytjnbdeopoohnmaa
