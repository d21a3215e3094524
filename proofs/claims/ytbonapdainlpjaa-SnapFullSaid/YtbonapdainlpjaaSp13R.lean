/- Layer 36 (snap): SnapFull, as its row wants it. -/
import Derived.Test.YtbonapdainlpjaaSp13
import Derived.Test.YtbonapdainlpjaaFrame
namespace Go.Proofs.Ytbonapdainlpjaa
open Go.RowKit Go.Sort
theorem sf_row (a : Int) (v1 : Value) (r : List UInt8) (v2 : Value) (sn : List UInt8) (w : World) (ha : 0 ≤ a ∧ a < 256) (h1 : Bs w v1 r) (h2 : Bs w v2 sn) :
    Calls Try.prog 12 #[.int .u8 a, v1, v2] w fun e w' => e = .returned (.bool true) ∧ Below w.heap.size w w' := by
  obtain ⟨z, rfl⟩ : ∃ z : Nat, a = z := ⟨a.toNat, by omega⟩
  exact sf_walk z (by omega) v1 v2 r sn w h1 h2
end Go.Proofs.Ytbonapdainlpjaa
