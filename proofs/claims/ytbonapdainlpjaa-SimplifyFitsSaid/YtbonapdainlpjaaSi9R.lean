/- Layer 53 (simplify): SimplifyFits, as its row wants it. -/
import Derived.Test.YtbonapdainlpjaaSi9
import Derived.Test.YtbonapdainlpjaaFrame
namespace Go.Proofs.Ytbonapdainlpjaa
open Go.RowKit Go.Sort
theorem simplifyfits_row (v : Value) (l : List Smp) (v1 : Value) (z : Int × Int) (mo : Int) (w : World) (h : Ss w v l) (h1 : v1 = .agg #[.int .i64 z.1, .int .i64 z.2] ∧ (Lit.int .i64 z.1).wf = true ∧ (Lit.int .i64 z.2).wf = true) (h2 : 0 ≤ mo ∧ mo < 256) :
    Calls Try.prog 4 #[v, v1, .int .u8 mo] w fun e w' => e = .returned (.bool true) ∧ Below w.heap.size w w' := by
  rw [h1.1]
  have h := simplifyfits_walk v l z.1 z.2 mo.toNat w h (by omega)
  rw [show ((mo.toNat : Nat) : Int) = mo by omega] at h
  exact h
end Go.Proofs.Ytbonapdainlpjaa
