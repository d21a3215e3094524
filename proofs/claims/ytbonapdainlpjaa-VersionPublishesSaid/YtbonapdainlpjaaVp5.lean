/- Layer 19 (version): Since. -/
import Derived.Test.YtbonapdainlpjaaVp4
set_option linter.unusedSimpArgs false
namespace Go.Proofs.Ytbonapdainlpjaa
open Go.RowKit Go.Sort

set_option maxRecDepth 100000 in
theorem vSince_any (v : Value) (l : List NetX) (z : Int) (w : World) (h : Nets w v l) (hl : l.length ≤ 1000) : Calls Try.prog 78 #[v, .int .i64 z] w fun e w' => ∃ v', e = .returned v' ∧ Nets w' v' (vsince l z) ∧ Below w.heap.size w w' := by
  have HX := Lib.hid h.2
  obtain ⟨W, hW⟩ : ∃ V, w.alloc (.cells #[.int .i64 z] 3) = V := ⟨_, rfl⟩
  obtain ⟨q, hq⟩ : ∃ q, w.heap.size = q := ⟨_, rfl⟩
  have hB : Below w.heap.size w W := by rw [← hW]; exact (Below.refl _ _).alloc (Nat.le_refl _) _
  have hr : W.heap[q]? = some (.cells #[.int .i64 z] 3 (0, 0)) := by rw [← hW, ← hq]; exact heap_alloc_new _ _
  have hc : W.cell? ⟨q, 0, none⟩ = some (.int .i64 z) := cell_of_row W _ _ _ _ _ hr
  have hqW : q < W.heap.size := heap_lt hr
  have CC := Lib.hid (vClone_any v l W (h.1.below hB) hl)
  have HC := Lib.hid (fun (V : World) (hV : Below W.heap.size W V) => (hV.cell (by exact hqW)).trans hc)
  have HW := Lib.hid hW
  have HQ := Lib.hid hq
  have HB := Lib.hid hB
  have HL := Lib.hid hl
  have HQW := Lib.hid hqW
  clear h hW hq hB hr hc hqW hl
  go_enter Try.func78, Try.ntmps78
  go_upto_region 1 with fail
  rw [HW.out, HQ.out]
  go_wp2_with fail
  refine CC.out.mono ?_
  rintro e w2 ⟨v2, rfl, hg2, hb2⟩
  have CD := Lib.hid (vDel_any v2 l z q W.heap.size w2 hg2 HL.out (HC.out w2 hb2) HQW.out hb2.size)
  have HB2 := Lib.hid hb2
  clear hg2 hb2
  go_wp2_with fail
  refine CD.out.mono ?_
  rintro e w3 ⟨v3, rfl, hg3, hb3⟩
  have hb03 := HB.out.trans ((HB2.out.trans hb3).mono HB.out.size)
  have hfin : Nets w3 v3 (vsince l z) := ⟨hg3, fun x hx => (HX.out x (List.mem_filter.1 hx).1).below hb03⟩
  have HF := Lib.hid hfin
  have HB3 := Lib.hid hb03
  clear hg3 hb3 hb03 hfin
  go_wp2
  go_ret
  exact ⟨_, rfl, HF.out, HB3.out⟩

end Go.Proofs.Ytbonapdainlpjaa
