/- Layer 12 (revoke): Add at nothing; the chapter's example. -/
import Derived.Test.YtjnbdeopoohnmaaRv4
import Derived.Lib.SliceRun
import Derived.Deep.RegionHeld3
import Derived.Deep.DeepCutAuto
import Derived.Deep.CutBlock
import Derived.Lib.QuietBelow
set_option linter.unusedSimpArgs false
namespace Go.Proofs.Ytjnbdeopoohnmaa
open Go.RowKit Go.Sort

theorem rClone_nil (w : World) : Calls Try.prog 42 #[.slice none 0 0] w fun e w' => e = .returned (.slice none 0 0) ∧ Below w.heap.size w w' := by
  have hq := fun W => Lib.run_eql_slice_nil (P := Try.prog) W 22 29 none 0 0 0 0 Try.underlying22
  go_enter Try.func42, Try.ntmps42
  go_wp2
  go_ret
  exact ⟨rfl, Below.refl _ _⟩

set_option maxRecDepth 100000 in
theorem rInsert_nil (y : Value) (x : RT) (w : World) (hy : Gs 2 csR w y [x]) : Calls Try.prog 45 #[.slice none 0 0, .int .i64 0, y] w fun e w' => ∃ v', e = .returned v' ∧ Gs 2 csR w' v' [x] ∧ Below w.heap.size w w' := by
  obtain ⟨a, c, hs⟩ := hy.shape
  rw [List.length_singleton] at hs
  subst hs
  have hT := elR.1
  have hel : Try.prog.elem 22 = 29 := by simp [Program.elem, hT]
  have hsz := elR.sizeOf
  have R1 : ∀ W : World, (Instr.sliceAt 22 (.slice none 0 0) (some (.int .i64 0)) none none).run Try.prog W = .ok (.slice none 0 0) W := fun W => by
    obtain ⟨Y, hY, hYg⟩ := Gs.from layR elR (Gs.nil (cs := csR) (s := 2) W) 0 (by simp)
    have h0 : (Instr.sliceAt 22 (.slice none 0 0) (some (.int .i64 ((0 : Nat) : Int))) none none).run Try.prog W = .ok (.slice none 0 0) W := by
      rw [run_sliceAt_slice (h := by rw [hel]; exact hT), run_slice_l (ht := by rw [hel]; exact hT) (h0 := by omega) (h1 := by omega), hel, hsz]
      simp [Result.andThen, sliced]
    exact h0
  have hown : Gw 2 csR w w.heap.size 29 (.slice none 0 0) [] := Gw.nil _ _ _
  have HY := hy
  clear hel hsz hT
  go_enter Try.func45, Try.ntmps45
  go_wp2_with (at_builtin; go_must (refine wpList_append_gs layR hown HY elR (by simp) (by simp) (Nat.le_refl _) ?_ _ _ rfl rfl rfl rfl); intro v3 w3 ho3 hg3 hb3 _; have H3 := Lib.hid ho3; have HB3 := Lib.hid hb3; clear ho3 hg3 hb3)
  go_ret
  exact ⟨_, rfl, H3.out.gs, HB3.out⟩

set_option maxRecDepth 100000 in
theorem rAdd_nil (x : RT) (w : World) (hx : rone x = true) : Calls Try.prog 19 #[.slice none 0 0, .agg #[.int .i64 x.1, .int .i64 x.2]] w fun e w' => ∃ v', e = .returned (.tuple #[v', .int .i64 0]) ∧ Gs 2 csR w' v' [x] ∧ Below w.heap.size w w' := by
  obtain ⟨W, hW⟩ : ∃ V, w.alloc (.cells #[.int .i64 x.1, .int .i64 x.2] 29) = V := ⟨_, rfl⟩
  obtain ⟨q, hq⟩ : ∃ q, w.heap.size = q := ⟨_, rfl⟩
  have hB : Below w.heap.size w W := by rw [← hW]; exact (Below.refl _ _).alloc (Nat.le_refl _) _
  have hr : W.heap[q]? = some (.cells #[.int .i64 x.1, .int .i64 x.2] 29 (0, 0)) := by rw [← hW, ← hq]; exact heap_alloc_new _ _
  have HQX := Lib.hid (fun (V : World) (hV : Below W.heap.size W V) => rev_cells ((hV.block q (heap_lt hr)).trans hr))
  have C1 := Lib.hid (rRight_any (.slice none 0 0) [] W (Gs.nil _))
  rw [show rright [] = true by decide] at C1
  have C2 := Lib.hid (fun V => rOne_any x V)
  rw [hx] at C2
  have C3 := Lib.hid (fun V => rFind_any (.slice none 0 0) [] x.1 0 V (Gs.nil _) (by simp) trivial)
  have C5 := Lib.hid (fun (V : World) => rInsert_nil (.slice (some ⟨V.heap.size, 0, none⟩) 1 1) x (V.alloc (.cells #[.int .i64 x.1, .int .i64 x.2] 29)) (gw_lit layR V 29 #[.int .i64 x.1, .int .i64 x.2] [x] 1 rfl (by decide) rfl).gs)
  obtain ⟨s0, s1⟩ := HQX.out W (Below.refl _ _)
  obtain ⟨xt, xu⟩ := x
  simp only at hW HQX C2 C3 C5 s0 s1 ⊢
  have HW := Lib.hid hW
  have HQ := Lib.hid hq
  have HB := Lib.hid hB
  clear hx hW hq hB hr s0 s1
  go_enter Try.func19, Try.ntmps19
  go_upto_region 1 with fail
  rw [HW.out, HQ.out]
  go_wp2_with fail
  refine C1.out.mono ?_
  rintro e w2 ⟨rfl, hb2⟩
  have HB2 := Lib.hid hb2
  obtain ⟨s0, s1⟩ := HQX.out w2 hb2
  clear hb2
  go_wp2_with fail
  refine (C2.out w2).mono ?_
  rintro e w3 ⟨rfl, hb3⟩
  have hb03 := HB2.out.trans (hb3.mono HB2.out.size)
  have HB3 := Lib.hid hb03
  clear s0 s1
  obtain ⟨s0, s1⟩ := HQX.out w3 hb03
  clear hb3 hb03
  go_wp2_with fail
  refine (C3.out w3).mono ?_
  rintro e w4 ⟨i, rfl, hfd, hb4⟩
  obtain rfl : i = 0 := by have := hfd.le; simpa using this
  rw [show rok [] xt 0 = false from rfl, Int.natCast_zero]
  have hb04 := HB3.out.trans (hb4.mono HB3.out.size)
  have HB4 := Lib.hid hb04
  clear s0 s1
  clear hfd hb4 hb04
  go_wp2_with fail
  refine (rClone_nil w4).mono ?_
  rintro e w5 ⟨rfl, hb5⟩
  have hb05 := HB4.out.trans (hb5.mono HB4.out.size)
  have HB5 := Lib.hid hb05
  obtain ⟨s0, s1⟩ := HQX.out w5 hb05
  clear hb5 hb05
  go_wp2_with fail
  refine (C5.out w5).mono ?_
  rintro e w6 ⟨v6, rfl, hg6, hb6⟩
  have hal : Below w5.heap.size w5 (w5.alloc (.cells #[.int .i64 xt, .int .i64 xu] 29)) := (Below.refl _ _).alloc (Nat.le_refl _) _
  have hb06 := HB5.out.trans ((hal.trans (hb6.mono hal.size)).mono HB5.out.size)
  have HB6 := Lib.hid (HB.out.trans (hb06.mono HB.out.size))
  have HG6 := Lib.hid hg6
  clear hg6 hb6 hal hb06 s0 s1
  go_wp2
  go_ret2
  exact ⟨_, rfl, HG6.out, HB6.out⟩

set_option maxRecDepth 100000 in
theorem rAwake_any (w : World) : Calls Try.prog 9 #[] w fun e w' => e = .returned (.bool true) ∧ Below w.heap.size w w' := by
  have CA := Lib.hid (rAdd_nil (3, 5) w (by decide))
  have CH := Lib.hid (fun (V : World) (u : Value) (t : Int) (hg : Gs 2 csR V u [(3, 5)]) => rHas_any u [(3, 5)] 3 t 0 V hg (by simp) ⟨by decide, trivial⟩)
  go_enter Try.func9, Try.ntmps9
  go_wp2_with fail
  refine CA.out.mono ?_
  rintro e w2 ⟨v2, rfl, hg2, hb2⟩
  obtain ⟨a, c, hs⟩ := hg2.shape
  rw [List.length_singleton] at hs
  subst hs
  have HB2 := Lib.hid hb2
  have HG2 := Lib.hid hg2
  have C5 := Lib.hid (CH.out w2 _ 5 hg2)
  rw [show rhas [(3, 5)] 3 5 = true by decide] at C5
  clear hb2 hg2
  go_wp2_with fail
  refine C5.out.mono ?_
  rintro e w3 ⟨rfl, hb3⟩
  have HB3 := Lib.hid (HB2.out.trans (hb3.mono HB2.out.size))
  have C6 := Lib.hid (CH.out w3 _ 6 (HG2.out.below hb3))
  rw [show rhas [(3, 5)] 3 6 = false by decide] at C6
  clear hb3
  go_wp2_with fail
  refine C6.out.mono ?_
  rintro e w4 ⟨rfl, hb4⟩
  have HB4 := Lib.hid (HB3.out.trans (hb4.mono HB3.out.size))
  clear hb4
  go_wp2
  go_ret
  exact ⟨rfl, HB4.out⟩

end Go.Proofs.Ytjnbdeopoohnmaa
