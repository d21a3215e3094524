/- Layer 48 (device): DeviceRecords, as its row wants it. -/
import Derived.Test.YtjnbdeopoohnmaaDoorDv8
import Derived.Test.YtjnbdeopoohnmaaDoorDvV
import Derived.Test.YtjnbdeopoohnmaaDoorFrame
namespace Go.Proofs.YtjnbdeopoohnmaaDoor
open Go.RowKit Go.Sort
theorem devicerecords_row (v0 : Value) (x : DvArg) (v1 : Value) (s : Smp) (gap : Int) (w : World) (h0 : DvIs w v0 x) (h1 : v1 = .agg #[.int .i64 s.t, .int .i64 s.x, .int .i64 s.y]) (_h2 : -9223372036854775808 ≤ gap ∧ gap ≤ 9223372036854775807) (hT : Tabbed w) :
    Calls Tryd.prog 3 #[v0, v1, .int .i64 gap] w fun e w' => e = .returned (.bool true) ∧ Below w.heap.size w w' := by
  obtain ⟨rfl, hd⟩ := h0
  subst h1
  exact devicerecords_walk _ _ _ x.d s gap w hd hT
end Go.Proofs.YtjnbdeopoohnmaaDoor
