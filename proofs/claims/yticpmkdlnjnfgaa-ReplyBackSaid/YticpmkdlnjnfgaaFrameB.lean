/- Opening a field of bytes of an argument. -/
import Derived.Test.YticpmkdlnjnfgaaFrame3
import Derived.Lib.SmallJoins
namespace Go.Proofs.Yticpmkdlnjnfgaa
open Go.ChangeShapes Go.WideShapes Go.ChangeAt Go.RowKit Go.Deep Go.Joins

section
variable {H : Type} {enc : TypeId × Value → H} {P : Program} {w : World} {b0 : Nat} {r : Reach}

theorem bytes_trod {t e : TypeId} (ht : P.underlying t = some (.slice e)) (he : P.underlying e = some (.int .u8)) (hcells : P.cellsOf e = 1) {m : Nat} {cs : List Value} {y : DataW H × List MemPlace}
    (hf : DataW.trod enc P w 0 (fun _ => true) true m t cs = some y) : ∃ v l, cs = [v] ∧ Bs w v l := by
  rcases open_ints ht he hcells hf with ⟨hcs, _⟩ | ⟨x, l, c, zs, hcs, _, hl, hm, hz, _, hcell, hwz⟩
  · exact ⟨_, [], hcs, Rd.nil _ _⟩
  · obtain ⟨l', _, h⟩ := bs_of_row hl hm (by simpa using hz) rfl hcell hwz
    exact ⟨_, l', hcs, h⟩
end

end Go.Proofs.Yticpmkdlnjnfgaa
