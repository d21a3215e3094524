/- Layer 11 (challenge): ChallengeBack, as its row wants it. -/
import Derived.Test.YtmhgdddnjnichaaDoorChB
import Derived.Test.YtmhgdddnjnichaaDoorFrameT
import Derived.Test.YtmhgdddnjnichaaDoorTokR
namespace Go.Proofs.YtmhgdddnjnichaaDoor
open Go.RowKit Go.Sort
theorem challengeback_row (v0 : Value) (t : Tok) (v1 : Value) (y : BsTwo) (v2 : Value) (z : Int × Int × Int) (w : World) (h0 : v0 = .agg t.row ∧ t.Wf) (h1 : v1 = .agg #[y.v0, y.v1] ∧ Bs w y.v0 y.b0 ∧ Bs w y.v1 y.b1)
    (h2 : v2 = .agg #[.int .u16 z.1, .int .u16 z.2.1, .int .u16 z.2.2] ∧ (Lit.int .u16 z.1).wf = true ∧ (Lit.int .u16 z.2.1).wf = true ∧ (Lit.int .u16 z.2.2).wf = true) (hT : Tabbed w) :
    Calls Tryd.prog 15 #[v0, v1, v2] w fun e w' => e = .returned (.bool true) ∧ Below w.heap.size w w' := by
  rw [h0.1, h1.1, h2.1]
  have g0 := wf_u16 h2.2.1
  have g1 := wf_u16 h2.2.2.1
  have g2 := wf_u16 h2.2.2.2
  have h := challengeback_walk t _ _ y.b0 y.b1 z.1.toNat z.2.1.toNat z.2.2.toNat w h0.2 h1.2.1 h1.2.2 (by omega) (by omega) (by omega) hT
  rw [show ((z.1.toNat : Nat) : Int) = z.1 by omega, show ((z.2.1.toNat : Nat) : Int) = z.2.1 by omega, show ((z.2.2.toNat : Nat) : Int) = z.2.2 by omega] at h
  exact h
end Go.Proofs.YtmhgdddnjnichaaDoor
