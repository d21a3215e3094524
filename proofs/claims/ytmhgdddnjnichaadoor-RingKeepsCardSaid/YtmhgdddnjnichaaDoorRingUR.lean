/- Layer 9 (ring): RingKeeps, as its row wants it. -/
import Derived.Test.YtmhgdddnjnichaaDoorRingU
import Derived.Test.YtmhgdddnjnichaaDoorHmT
import Derived.Test.YtmhgdddnjnichaaDoorFrameBs
namespace Go.Proofs.YtmhgdddnjnichaaDoor
open Go.RowKit Go.Sort
theorem ringkeeps_row (n : Int) (vl : Value) (x : List Value × List (List UInt8)) (w : World) (hn : 0 ≤ n ∧ n < 256) (hl : Bss w vl x) (hT : Tabbed w) :
    Calls Tryd.prog 8 #[.int .u8 n, vl] w fun e w' => e = .returned (.bool true) ∧ Below w.heap.size w w' := by
  have h := ringkeeps_walk n.toNat vl x.1 x.2 hl.1 w hl.2.1 hl.2.2 (by omega) hT
  rw [show ((n.toNat : Nat) : Int) = n by omega] at h
  exact h
end Go.Proofs.YtmhgdddnjnichaaDoor
