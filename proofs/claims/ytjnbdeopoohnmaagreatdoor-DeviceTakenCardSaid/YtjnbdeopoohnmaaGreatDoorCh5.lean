/- Layer 11 (challenge): the walk of the reference's Check. -/
import Derived.Test.YtjnbdeopoohnmaaGreatDoorCh4
import Derived.Deep.RegionHeld3
import Derived.Deep.CutBlock
set_option linter.unusedSimpArgs false
namespace Go.Proofs.YtjnbdeopoohnmaaGreatDoor
open Go.RowKit Go.Sort

theorem setRow_setCell {w : World} {g t : Nat} {cs0 : Array Value} (h : w.heap[g]? = some (.cells cs0 t (0, 0))) (cs : Array Value) (i : Nat) (a : Value) : (w.setRow g cs).setCell ⟨g, i, none⟩ a = w.setRow g (cs.setIfInBounds i a) := by
  rw [setCell_eq_setRow (w.setRow g cs) g i cs t _ a (setRow_heap w g _ cs t _ h), setRow_setRow]
theorem six_cells (w : World) (g t : Nat) (x0 x1 x2 x3 x4 x5 a0 a1 a2 a3 a4 a5 : Value) (h : w.heap[g]? = some (.cells #[x0, x1, x2, x3, x4, x5] t (0, 0))) :
    (((((w.setCell ⟨g, 0, none⟩ a0).setCell ⟨g, 1, none⟩ a1).setCell ⟨g, 2, none⟩ a2).setCell ⟨g, 3, none⟩ a3).setCell ⟨g, 4, none⟩ a4).setCell ⟨g, 5, none⟩ a5 = w.setRow g #[a0, a1, a2, a3, a4, a5] := by
  rw [setCell_eq_setRow w g 0 _ t _ a0 h, setRow_setCell h, setRow_setCell h, setRow_setCell h, setRow_setCell h, setRow_setCell h]
  rfl
theorem TAt.zcells {w : World} {g : Nat} (h : TAt w g tz) : w.cell? ⟨g, 0, none⟩ = some (.int .i64 0) ∧ w.cell? ⟨g, 1, none⟩ = some (.int .i64 0) ∧ w.cell? ⟨g, 2, none⟩ = some (.int .i64 0) ∧ w.cell? ⟨g, 3, none⟩ = some (.int .i64 0) ∧ w.cell? ⟨g, 4, none⟩ = some (.int .i64 0) ∧ w.cell? ⟨g, 5, none⟩ = some (.int .i64 0) := h.cells
theorem TAt.frees {w : World} {g : Nat} {t : Tok} (h : TAt w g t) : w.frozen? ⟨g, 0, none⟩ = false ∧ w.frozen? ⟨g, 1, none⟩ = false ∧ w.frozen? ⟨g, 2, none⟩ = false ∧ w.frozen? ⟨g, 3, none⟩ = false ∧ w.frozen? ⟨g, 4, none⟩ = false ∧ w.frozen? ⟨g, 5, none⟩ = false :=
  ⟨row_free h.row 0, row_free h.row 1, row_free h.row 2, row_free h.row 3, row_free h.row 4, row_free h.row 5⟩

end Go.Proofs.YtjnbdeopoohnmaaGreatDoor
