/- The walk of Put of layer 5's reference. -/
import Derived.Test.YtjnbdeopoohnmaaDoorSmp0
import Derived.Test.YtjnbdeopoohnmaaDoorRfield
import Derived.Deep.RegionHeld3
namespace Go.Proofs.YtjnbdeopoohnmaaDoor
open Go.RowKit Go.Sort

/-- what samples' bytes are answered by -/
def SPutPost (l : List Smp) (w : World) (e : Ending) (w' : World) : Prop :=
  if 2048 < l.length then e = .returned (.tuple #[.slice none 0 0, .int .i64 3]) ∧ Below w.heap.size w w'
  else (SRight l ∧ ∃ v, e = .returned (.tuple #[v, .int .i64 0]) ∧ Ob w' w.heap.size 5 v (sputs szero l) ∧ Below w.heap.size w w') ∨
    (¬ SRight l ∧ e = .returned (.tuple #[.slice none 0 0, .int .i64 2]) ∧ Below w.heap.size w w')

/-- what a round of Put stands on: bytes of the call's own, and the sample ahead in the call's first block -/
structure RPut (w : World) (v : Value) (m : List UInt8) (p : Smp) (W : World) : Prop where
  ob : Ob W w.heap.size 5 v m
  blk : W.heap[w.heap.size]? = some (.cells #[.int .i64 p.t, .int .i64 p.x, .int .i64 p.y] 27 (0, 0))
  bel : Below w.heap.size w W

section
variable {w W W' : World} {v v' : Value} {m m' : List UInt8} {p : Smp}
theorem RPut.lt (h : RPut w v m p W) : w.heap.size < W.heap.size := (Array.getElem?_eq_some_iff.1 h.blk).1
theorem RPut.below (h : RPut w v m p W) (hb : Below W.heap.size W W') : RPut w v m p W' :=
  ⟨h.ob.below hb, (hb.block _ h.lt).trans h.blk, h.bel.trans (hb.mono h.bel.size)⟩
theorem RPut.grown (h : RPut w v m p W) (ho : Ob W' w.heap.size 5 v' m') (hg : W.grownBy W' v.ownBlock) : RPut w v' m' p W' :=
  ⟨ho, (hg.block _ h.lt (Ne.symm (h.ob.ne h.blk (by decide)))).trans h.blk, h.bel.trans ((grown_only hg).below (fun k hk => (h.ob.lt k hk).1) h.bel.size)⟩
theorem RPut.free (h : RPut w v m p W) (i : Nat) : W.frozen? ⟨w.heap.size, i, none⟩ = false := row_free h.blk i
theorem RPut.set (h : RPut w v m p W) (s : Smp) : RPut w v m s (((W.setCell ⟨w.heap.size, 0, none⟩ (.int .i64 s.t)).setCell ⟨w.heap.size, 1, none⟩ (.int .i64 s.x)).setCell ⟨w.heap.size, 2, none⟩ (.int .i64 s.y)) := by
  have b1 := row_setCell h.blk 0 (.int .i64 s.t)
  have b2 := row_setCell b1 1 (.int .i64 s.x)
  have b3 := row_setCell b2 2 (.int .i64 s.y)
  have o1 := ownsRow_setCell_other h.ob (h.ob.ne h.blk (by decide)) (a := ⟨w.heap.size, 0, none⟩) (.int .i64 s.t)
  have o2 := ownsRow_setCell_other o1 (Ob.ne o1 b1 (by decide)) (a := ⟨w.heap.size, 1, none⟩) (.int .i64 s.x)
  have o3 := ownsRow_setCell_other o2 (Ob.ne o2 b2 (by decide)) (a := ⟨w.heap.size, 2, none⟩) (.int .i64 s.y)
  exact ⟨o3, b3, ((h.bel.setCell (Nat.le_refl _) _).setCell (Nat.le_refl _) _).setCell (Nat.le_refl _) _⟩
theorem RPut.drew (h : RPut w v m p W) : RPut w v m p W.drew := h.below (Below.refl _ _).drew
theorem RPut.c0 (h : RPut w v m p W) : W.cell? ⟨w.heap.size, 0, none⟩ = some (.int .i64 p.t) := cell_of_row W _ 0 _ _ _ h.blk
theorem RPut.c1 (h : RPut w v m p W) : W.cell? ⟨w.heap.size, 1, none⟩ = some (.int .i64 p.x) := cell_of_row W _ 1 _ _ _ h.blk
theorem RPut.c2 (h : RPut w v m p W) : W.cell? ⟨w.heap.size, 2, none⟩ = some (.int .i64 p.y) := cell_of_row W _ 2 _ _ _ h.blk
end

end Go.Proofs.YtjnbdeopoohnmaaDoor
