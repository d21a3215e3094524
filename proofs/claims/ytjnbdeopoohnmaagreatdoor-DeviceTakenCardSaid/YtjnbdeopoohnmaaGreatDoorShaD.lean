/- Layer 7 (sha): the table of rounds, as the row's condition lays it. -/
import Derived.Test.YtjnbdeopoohnmaaGreatDoorShaM
import Derived.Test.YtjnbdeopoohnmaaGreatDoorRows
import Derived.ProofKit
import Derived.LaidMore
import Derived.OpenShut
import Derived.Stop.Joined
namespace Go.Proofs.YtjnbdeopoohnmaaGreatDoor
open Go.ChangeShapes Go.WideShapes Go.ChangeAt Go.RowKit

def roundsLaid : List (String × DataW Unit) := [("viaticum/sha.rounds", Rows.laid_viaticum_sha_rounds)]
theorem gRounds : Tryz.prog.globalNamed "viaticum/sha.rounds" = some 0 := by kernel_rfl
theorem tRounds : (Tryz.prog.globals[0]?).map (·.type) = some 164 := by kernel_rfl
theorem laid_is : (Rows.laid_viaticum_sha_rounds : DataW Unit) = .agg (ktab.map fun x => .lit (.int .u32 (x.toNat : Int))) := by rfl

set_option maxRecDepth 100000 in
theorem tabbed_of_laid {W : World} (h : laidMetH Tryz.prog roundsLaid W) : Tabbed W := by
  rw [MakeChecks.laidMetH_plain _ _ _ (by kernel_rfl)] at h
  obtain ⟨ps, ⟨g0, t0, cs0, f0, p0, q0, hg0, ht0, hv0, hd0, _⟩, _⟩ := h
  obtain rfl := Option.some.inj (gRounds.symm.trans hg0)
  obtain rfl := Option.some.inj (tRounds.symm.trans ht0)
  obtain ⟨xs, m1, rfl, hx1, hlen, hn3, hel⟩ := DataW.trod_array Tryz.underlying164 hd0
  have c1 : Tryz.prog.cellsOf 114 = 1 := by kernel_rfl
  rw [c1] at hel
  simp only [Prod.mk.injEq] at hx1
  have hcell : ∀ t, t < 64 → W.cell? ⟨0, t, none⟩ = some (.int .u32 (wn (shaK t))) := by
    intro t ht
    have h1 := hel t ht
    obtain ⟨x, hx⟩ : ∃ x, xs[t]? = some x := ⟨_, List.getElem?_eq_getElem (by omega)⟩
    rw [hx] at h1
    obtain ⟨k, e1, e2, _⟩ := DataW.trod_int Tryz.underlying114 h1
    have e3 : (xs.map (·.1))[t]? = some (.lit (.int .u32 k)) := by rw [List.getElem?_map, hx, e2]; rfl
    have e4 : DataW.agg (xs.map (·.1)) = DataW.agg (ktab.map fun x => .lit (.int .u32 (x.toNat : Int))) := by rw [← hx1.1]; exact laid_is
    have e5 := DataW.agg.inj e4
    rw [e5, List.getElem?_map, List.getElem?_eq_getElem (show t < ktab.length from ht)] at e3
    simp only [Option.map_some, Option.some.injEq, DataW.lit.injEq, Lit.int.injEq, true_and] at e3
    have e6 : shaK t = ktab[t]'(ht) := by unfold shaK; rw [List.getElem?_eq_getElem (show t < ktab.length from ht)]; rfl
    rw [World.var?_cell hg0 hv0 t, e6, ← Array.getElem?_toList]
    have e7 := congrArg (fun l => l[0]?) e1
    simp only [Nat.mul_one, List.getElem?_take, List.getElem?_drop, Nat.add_zero, List.getElem?_cons_zero] at e7
    rw [if_pos (by omega)] at e7
    rw [e7, ← e3]
    rfl
  refine ⟨?_, hcell⟩
  have h0 := hcell 0 (by omega)
  exact block_lt_of_cell h0

end Go.Proofs.YtjnbdeopoohnmaaGreatDoor
