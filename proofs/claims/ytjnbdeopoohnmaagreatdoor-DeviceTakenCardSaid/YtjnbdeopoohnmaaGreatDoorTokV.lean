/- Layer 10 (token): the walk of the statement TokenVerifies. -/
import Derived.Test.YtjnbdeopoohnmaaGreatDoorTok6
import Derived.Deep.RegionHeld3
import Derived.Deep.CutBlock
set_option linter.unusedSimpArgs false
namespace Go.Proofs.YtjnbdeopoohnmaaGreatDoor
open Go.RowKit Go.Sort

/-- few, and no more than 500 bytes -/
theorem few_small {l : List RK} (h : RFew l) : ∀ k ∈ l, k.b.length ≤ 1000000 := fun k hk => by
  obtain ⟨i, hi⟩ := List.mem_iff_getElem?.1 hk
  have := h.2 i k hi
  omega

end Go.Proofs.YtjnbdeopoohnmaaGreatDoor
