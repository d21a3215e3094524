/- Layer 19 (version): Latest. -/
import Derived.Test.YtbonapdainlpjaaVe7
import Derived.Deep.CutBlock
set_option linter.unusedSimpArgs false
namespace Go.Proofs.Ytbonapdainlpjaa
open Go.RowKit Go.Sort

theorem net_cells {w : World} {q : Nat} {k : Int} {ya yb : Value} (h : w.heap[q]? = some (.cells #[.int .i64 k, ya, yb] 95 (0, 0))) :
    w.cell? ⟨q, 0, none⟩ = some (.int .i64 k) ∧ w.cell? ⟨q, 1, none⟩ = some ya ∧ w.cell? ⟨q, 2, none⟩ = some yb :=
  ⟨cell_of_row w _ _ _ _ _ h, cell_of_row w _ _ _ _ _ h, cell_of_row w _ _ _ _ _ h⟩
theorem net_frees {W : World} {r : Nat} {A : Array Value} (h : W.heap[r]? = some (.cells A 95 (0, 0))) : W.frozen? ⟨r, 0, none⟩ = false ∧ W.frozen? ⟨r, 1, none⟩ = false ∧ W.frozen? ⟨r, 2, none⟩ = false :=
  ⟨row_free h 0, row_free h 1, row_free h 2⟩
def netChain (W : World) (r : Nat) (v0 v1 v2 : Value) : World := ((W.setCell ⟨r, 0, none⟩ v0).setCell ⟨r, 1, none⟩ v1).setCell ⟨r, 2, none⟩ v2
theorem net_chain {W : World} {r : Nat} {u0 u1 u2 : Value} (h : W.heap[r]? = some (.cells #[u0, u1, u2] 95 (0, 0))) (v0 v1 v2 : Value) :
    (netChain W r v0 v1 v2).heap[r]? = some (.cells #[v0, v1, v2] 95 (0, 0)) ∧ Only (fun k => k = r) W (netChain W r v0 v1 v2) := by
  have h0 : (W.setCell ⟨r, 0, none⟩ v0).heap[r]? = some (.cells #[v0, u1, u2] 95 (0, 0)) := row_setCell h 0 v0
  have h1 : ((W.setCell ⟨r, 0, none⟩ v0).setCell ⟨r, 1, none⟩ v1).heap[r]? = some (.cells #[v0, v1, u2] 95 (0, 0)) := row_setCell h0 1 v1
  have h2 : (((W.setCell ⟨r, 0, none⟩ v0).setCell ⟨r, 1, none⟩ v1).setCell ⟨r, 2, none⟩ v2).heap[r]? = some (.cells #[v0, v1, v2] 95 (0, 0)) := row_setCell h1 2 v2
  exact ⟨h2, ((set_only W r 0 v0).trans (set_only _ r 1 v1)).trans (set_only _ r 2 v2)⟩

def netZero : NetX := (⟨0, [], []⟩, (none, 0, 0), (none, 0, 0))
def NetX.agg (x : NetX) : Value := x.1.agg (Sl3.v x.2.1) (Sl3.v x.2.2)

set_option maxRecDepth 100000 in
theorem vLatest_some (v : Value) (l : List NetX) (x : NetX) (w : World) (h : Nets w v l) (hx : l[l.length - 1]? = some x) : Calls Try.prog 70 #[v] w fun e w' => e = .returned (.tuple #[x.agg, .bool true]) ∧ Below w.heap.size w w' := by
  obtain ⟨n, hn⟩ : ∃ n, l.length = n := ⟨_, rfl⟩
  obtain ⟨a, c, b, o, rfl, h1, h2, hix, hlt', hcell, -⟩ := h.1.open_n layX elNet n hn
  rw [hn] at hx
  have hn0 : 0 < n := by have := (List.getElem?_eq_some_iff.1 hx).1; omega
  have c0 := hcell _ x hx 0 _ rfl
  have c1 := hcell _ x hx 1 _ rfl
  have c2 := hcell _ x hx 2 _ rfl
  rw [Nat.add_zero] at c0
  have hbl := hlt' (n - 1) (by omega)
  have hixp : ∀ V : World, (Instr.indexAt 91 (.slice a n c) (.int .i64 ((n : Int) - 1))).run Try.prog V = .ok (.pointer (some ⟨b, o (n - 1), none⟩)) V := fun V => by
    have := hix V (n - 1) (by omega)
    rwa [show (((n - 1 : Nat)) : Int) = (n : Int) - 1 by omega] at this
  have e0 : ((n : Int) == 0) = false := by simp; omega
  have e1 : (1 : Int) ≤ n := by omega
  obtain ⟨nt, ⟨xa, xn, xc⟩, ⟨ya, yn, yc⟩⟩ := x
  obtain ⟨ver, st, ln⟩ := nt
  unfold Sl3.v at c1 c2
  unfold NetX.agg Net.agg Sl3.v
  simp only at c0 c1 c2 ⊢
  obtain ⟨W, hW⟩ : ∃ V, w.alloc (.cells #[.int .i64 0, .slice none 0 0, .slice none 0 0] 95) = V := ⟨_, rfl⟩
  obtain ⟨r, hr⟩ : ∃ r, w.heap.size = r := ⟨_, rfl⟩
  have hrow : W.heap[r]? = some (.cells #[.int .i64 0, .slice none 0 0, .slice none 0 0] 95 (0, 0)) := by rw [← hW, ← hr]; exact heap_alloc_new _ _
  have hB : Below w.heap.size w W := by rw [← hW]; exact (Below.refl _ _).alloc (Nat.le_refl _) _
  rw [← hB.cell (by exact hbl)] at c0 c1 c2
  obtain ⟨s0, s1, s2⟩ := net_cells hrow
  obtain ⟨f0, f1, f2⟩ := net_frees hrow
  obtain ⟨hz1, hz2⟩ := net_chain hrow (.int .i64 ver) (.slice xa xn xc) (.slice ya yn yc)
  have hZb : Below w.heap.size w (netChain W r (.int .i64 ver) (.slice xa xn xc) (.slice ya yn yc)) := hB.trans (hz2.below (fun x hx => by omega) hB.size)
  have HZ1 := Lib.hid hz1
  have HZb := Lib.hid hZb
  have HW := Lib.hid hW
  have HR := Lib.hid hr
  clear h hn hx hcell hlt' hix hbl hW hr hrow hB hz1 hz2 hZb
  go_enter Try.func70, Try.ntmps70
  go_upto_region 1 with fail
  rw [HW.out, HR.out]
  go_wp2
  obtain ⟨Z, hZ⟩ : ∃ Z, netChain W r (.int .i64 ver) (.slice xa xn xc) (.slice ya yn yc) = Z := ⟨_, rfl⟩
  rw [hZ] at HZ1 HZb
  unfold netChain at hZ
  rw [hZ]
  obtain ⟨d0, d1, d2⟩ := net_cells HZ1.out
  refine bodyPost_ret (v := .tuple #[.agg #[.int .i64 ver, .slice xa xn xc, .slice ya yn yc], .bool true]) ?_ rfl ⟨rfl, HZb.out⟩
  simp [results, Try.results70, go_sem, d0, d1, d2]

end Go.Proofs.Ytbonapdainlpjaa
