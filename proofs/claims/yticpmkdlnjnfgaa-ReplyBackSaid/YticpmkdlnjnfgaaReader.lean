/- Walks of the reader of layer 3 (field). -/
import Derived.Test.YticpmkdlnjnfgaaRspec
import Derived.Test.YticpmkdlnjnfgaaFoot
import Derived.Test.YticpmkdlnjnfgaaBase3
import Derived.Test.YticpmkdlnjnfgaaVTake
import Derived.Test.YticpmkdlnjnfgaaWriter
import Derived.Lib.QuietBelow
namespace Go.Proofs.Yticpmkdlnjnfgaa
open Go.RowKit

/-- block g is a reader of the bytes l (the slice y), at pos, bad -/
structure Rdr (w : World) (g : Nat) (y : Value) (l : List UInt8) (pos bad : Nat) : Prop where
  cell : w.heap[g]? = some (.cells #[y, .int .i64 pos, .int .i64 bad, .bool true] 126 (0, 0))
  src : Bs w y l
  le : pos ≤ l.length
  apart : l ≠ [] → y.ownBlock ≠ some g


section
variable {w w' : World} {g : Nat} {y : Value} {l : List UInt8} {pos bad : Nat}
theorem Rdr.lt (h : Rdr w g y l pos bad) : g < w.heap.size := heap_lt h.cell
theorem Rdr.below (h : Rdr w g y l pos bad) (hb : Below w.heap.size w w') : Rdr w' g y l pos bad := ⟨(hb.block g h.lt).trans h.cell, h.src.below hb, h.le, h.apart⟩
theorem Rdr.only {F : Nat → Prop} (h : Rdr w g y l pos bad) (ho : Only F w w') (hg : ¬ F g) (hy : l ≠ [] → ∀ k, y.ownBlock = some k → ¬ F k) : Rdr w' g y l pos bad :=
  ⟨(ho.block g h.lt hg).trans h.cell, h.src.only' ho hy, h.le, h.apart⟩
theorem Rdr.drew' (h : Rdr w g y l pos bad) : Rdr w.drew g y l pos bad := h.below (Below.refl _ _).drew
theorem Rdr.c0 (h : Rdr w g y l pos bad) : w.cell? ⟨g, 0, none⟩ = some y := cell_of_row w g 0 _ _ _ h.cell
theorem Rdr.c1 (h : Rdr w g y l pos bad) : w.cell? ⟨g, 1, none⟩ = some (.int .i64 pos) := cell_of_row w g 1 _ _ _ h.cell
theorem Rdr.c2 (h : Rdr w g y l pos bad) : w.cell? ⟨g, 2, none⟩ = some (.int .i64 bad) := cell_of_row w g 2 _ _ _ h.cell
theorem Rdr.c3 (h : Rdr w g y l pos bad) : w.cell? ⟨g, 3, none⟩ = some (.bool true) := cell_of_row w g 3 _ _ _ h.cell
theorem Rdr.f1 (h : Rdr w g y l pos bad) : w.frozen? ⟨g, 1, none⟩ = false := row_free h.cell 1
theorem Rdr.f2 (h : Rdr w g y l pos bad) : w.frozen? ⟨g, 2, none⟩ = false := row_free h.cell 2
theorem Rdr.setBad (h : Rdr w g y l pos bad) (b : Nat) : Rdr (w.setCell ⟨g, 2, none⟩ (.int .i64 b)) g y l pos b :=
  ⟨row_setCell h.cell 2 _, h.src.only' (setCell_only w ⟨g, 2, none⟩ _) (fun hl k hk e => h.apart hl (by rw [hk, e])), h.le, h.apart⟩
theorem Rdr.setPos (h : Rdr w g y l pos bad) (p : Nat) (hp : p ≤ l.length) : Rdr (w.setCell ⟨g, 1, none⟩ (.int .i64 p)) g y l p bad :=
  ⟨row_setCell h.cell 1 _, h.src.only' (setCell_only w ⟨g, 1, none⟩ _) (fun hl k hk e => h.apart hl (by rw [hk, e])), hp, h.apart⟩
end

theorem read_any (y : Value) (l : List UInt8) (w : World) (hy : Bs w y l) :
    Calls Try.prog 60 #[y] w fun e w' => e = .returned (.pointer (some ⟨w.heap.size, 0, none⟩)) ∧ Rdr w' w.heap.size y l 0 0 ∧ Below w.heap.size w w' := by
  obtain ⟨a, c, hs⟩ := hy.shape
  subst hs
  go_enter Try.func60, Try.ntmps60
  go_wp2
  go_ret
  exact ⟨rfl, ⟨heap_alloc_new w _, hy.alloc _, by omega, fun hl e => by have := hy.lt hl _ e; omega⟩, (Below.refl _ _).alloc (Nat.le_refl _) _⟩

theorem rok_yes (g : Nat) (y : Value) (l : List UInt8) (pos : Nat) (w : World) (h : Rdr w g y l pos 0) : Calls Try.prog 105 #[.pointer (some ⟨g, 0, none⟩)] w fun e w' => e = .returned (.bool true) ∧ w = w' := by
  have c2 := h.c2
  have c3 := h.c3
  clear h
  go_enter Try.func105, Try.ntmps105
  go_wp2
  go_ret
  exact ⟨rfl, rfl⟩

theorem rok_no (g : Nat) (y : Value) (l : List UInt8) (pos bad : Nat) (w : World) (h : Rdr w g y l pos bad) (hb : bad ≠ 0) : Calls Try.prog 105 #[.pointer (some ⟨g, 0, none⟩)] w fun e w' => e = .returned (.bool false) ∧ w = w' := by
  have c2 := h.c2
  have c3 := h.c3
  have hb' : ((bad : Int) == 0) = false := by simp; omega
  clear h hb
  go_enter Try.func105, Try.ntmps105
  go_wp2
  go_ret
  exact ⟨rfl, rfl⟩

theorem rok_nil (w : World) : Calls Try.prog 105 #[.pointer none] w fun e w' => e = .returned (.bool false) ∧ w = w' := by
  go_enter Try.func105, Try.ntmps105
  go_wp2
  go_ret
  exact ⟨rfl, rfl⟩

theorem number1_any (n : Nat) (hn : n < 18446744073709551616) (most : Int) (p : Addr) (w : World) (hp : w.cell? p = some (.int .i64 most)) :
    Calls Try.prog 101 #[.int .u64 n, .pointer (some p)] w fun e w' => e = .returned (.bool (mayN most n)) ∧ w = w' := by
  go_enter Try.func101, Try.ntmps101
  go_wp2
  all_goals
    go_ret
    refine ⟨ret_bool ?_, rfl⟩
    unfold mayN
    rw [Bool.eq_iff_iff]
    simp only [Bool.and_eq_true, decide_eq_true_eq, Bool.false_eq_true, false_iff]
    omega

theorem signed1_any (n : Nat) (hn : n < 18446744073709551616) (most : Int) (p : Addr) (w : World) (hp : w.cell? p = some (.int .i64 most)) :
    Calls Try.prog 102 #[.int .u64 n, .pointer (some p)] w fun e w' => e = .returned (.bool (mayS most n)) ∧ w = w' := by
  have hv := vback_range n hn
  go_enter Try.func102, Try.ntmps102
  go_wp2_with fail
  refine (back_any n hn _).mono ?_
  rintro e w1 ⟨rfl, rfl⟩
  go_wp2
  all_goals
    go_ret
    refine ⟨ret_bool ?_, rfl⟩
    unfold mayS
    rw [Bool.eq_iff_iff]
    simp only [Bool.and_eq_true, decide_eq_true_eq, Bool.false_eq_true, false_iff]
    omega

end Go.Proofs.Yticpmkdlnjnfgaa
