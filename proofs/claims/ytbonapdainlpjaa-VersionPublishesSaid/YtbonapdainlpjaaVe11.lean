/- Layer 19 (version): Latest of the empty shelf. -/
import Derived.Test.YtbonapdainlpjaaVe10
import Derived.Deep.CutBlock
set_option linter.unusedSimpArgs false
namespace Go.Proofs.Ytbonapdainlpjaa
open Go.RowKit Go.Sort

set_option maxRecDepth 100000 in
theorem vLatest_nil (v : Value) (w : World) (h : Nets w v []) : Calls Try.prog 70 #[v] w fun e w' => e = .returned (.tuple #[netZero.agg, .bool false]) ∧ Below w.heap.size w w' := by
  obtain ⟨a, c, rfl⟩ := h.1.shape
  rw [List.length_nil]
  obtain ⟨W, hW⟩ : ∃ V, w.alloc (.cells #[.int .i64 0, .slice none 0 0, .slice none 0 0] 95) = V := ⟨_, rfl⟩
  obtain ⟨r, hr⟩ : ∃ r, w.heap.size = r := ⟨_, rfl⟩
  have hrow : W.heap[r]? = some (.cells #[.int .i64 0, .slice none 0 0, .slice none 0 0] 95 (0, 0)) := by rw [← hW, ← hr]; exact heap_alloc_new _ _
  have hB : Below w.heap.size w W := by rw [← hW]; exact (Below.refl _ _).alloc (Nat.le_refl _) _
  obtain ⟨s0, s1, s2⟩ := net_cells hrow
  obtain ⟨f0, f1, f2⟩ := net_frees hrow
  obtain ⟨hz1, hz2⟩ := net_chain hrow (.int .i64 0) (.slice none 0 0) (.slice none 0 0)
  have hZb : Below w.heap.size w (netChain W r (.int .i64 0) (.slice none 0 0) (.slice none 0 0)) := hB.trans (hz2.below (fun x hx => by omega) hB.size)
  have HZ1 := Lib.hid hz1
  have HZb := Lib.hid hZb
  have HW := Lib.hid hW
  have HR := Lib.hid hr
  clear h hW hr hrow hB hz1 hz2 hZb
  go_enter Try.func70, Try.ntmps70
  go_upto_region 1 with fail
  rw [HW.out, HR.out]
  go_wp2
  obtain ⟨Z, hZ⟩ : ∃ Z, netChain W r (.int .i64 0) (.slice none 0 0) (.slice none 0 0) = Z := ⟨_, rfl⟩
  rw [hZ] at HZ1 HZb
  unfold netChain at hZ
  rw [hZ]
  obtain ⟨d0, d1, d2⟩ := net_cells HZ1.out
  refine bodyPost_ret (v := .tuple #[netZero.agg, .bool false]) ?_ rfl ⟨rfl, HZb.out⟩
  simp [results, Try.results70, go_sem, d0, d1, d2, NetX.agg, Net.agg, netZero, Sl3.v]

end Go.Proofs.Ytbonapdainlpjaa
