/- Layer 36 (snap): SnapSteps, as its row wants it. -/
import Derived.Test.YtbonapdainlpjaaSp19
import Derived.Test.YtbonapdainlpjaaFrame
namespace Go.Proofs.Ytbonapdainlpjaa
open Go.RowKit Go.Sort
theorem ss_row (a : Int) (v : Value) (l : List StD) (w : World) (ha : 0 ≤ a ∧ a < 256) (h : Sts w v l) :
    Calls Try.prog 11 #[.int .u8 a, v] w fun e w' => e = .returned (.bool true) ∧ Below w.heap.size w w' := by
  obtain ⟨z, rfl⟩ : ∃ z : Nat, a = z := ⟨a.toNat, by omega⟩
  exact ss_walk z (by omega) v l w h
end Go.Proofs.Ytbonapdainlpjaa
