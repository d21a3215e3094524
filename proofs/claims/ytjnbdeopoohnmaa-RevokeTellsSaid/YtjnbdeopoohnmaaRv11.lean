/- Layer 12 (revoke): the statement RevokeTells, the walk. -/
import Derived.Test.YtjnbdeopoohnmaaRv10
import Derived.Deep.RegionLaw
import Derived.Deep.RegionHeld3
import Derived.Deep.DrawnRows
import Derived.Deep.DeepCutAuto
import Derived.Deep.CutBlock
import Derived.Lib.QuietBelow
set_option linter.unusedSimpArgs false
namespace Go.Proofs.Ytjnbdeopoohnmaa
open Go.RowKit Go.Sort

theorem gdrop {ops : Array Oper} {i : Nat} {o : Oper} {r : List Oper} (h : ops.toList.drop i = o :: r) : ops[i]? = some o := by
  have := congrArg (fun l => l[0]?) h
  simpa using this

theorem rright_one (x : RT) : rright [x] = rone x := by
  unfold rright rinc rinc
  simp only [List.length_singleton, Bool.and_true]
  cases h : rone x with
  | false => simp
  | true => have := rone_pos h; simp; omega

set_option maxRecDepth 100000 in
set_option maxHeartbeats 3200000 in
theorem rt_walk (v : Value) (l : List RT) (x : RT) (z0 z1 : Int) (w : World) (h : Revs w v l) : Calls Try.prog 4 #[v, .agg #[.int .i64 x.1, .int .i64 x.2], .agg #[.int .i64 z0, .int .i64 z1]] w fun e w' => e = .returned (.bool true) ∧ Below w.heap.size w w' := by
  have HG := Lib.hid (show Gs 2 csR w v l from h)
  obtain ⟨n, hn⟩ : ∃ n, l.length = n := ⟨_, rfl⟩
  have HN := Lib.hid hn
  obtain ⟨W, hW⟩ : ∃ V, (w.alloc (.cells #[.int .i64 x.1, .int .i64 x.2] 29)).alloc (.cells #[.int .i64 z0, .int .i64 z1] 32) = V := ⟨_, rfl⟩
  obtain ⟨q, hq⟩ : ∃ q, w.heap.size = q := ⟨_, rfl⟩
  have hB : Below w.heap.size w W := by rw [← hW]; exact ((Below.refl _ _).alloc (Nat.le_refl _) _).alloc (by simp) _
  have hr : W.heap[q]? = some (.cells #[.int .i64 x.1, .int .i64 x.2] 29 (0, 0)) := by rw [← hW, ← hq, alloc_get, if_neg (by simp)]; exact heap_alloc_new _ _
  have hr2 : W.heap[q + 1]? = some (.cells #[.int .i64 z0, .int .i64 z1] 32 (0, 0)) := by rw [← hW, ← hq, alloc_get, if_pos (by simp)]
  have HQX := Lib.hid (fun (V : World) (hV : Below W.heap.size W V) => rev_cells ((hV.block q (heap_lt hr)).trans hr))
  have HQZ := Lib.hid (fun (V : World) (hV : Below W.heap.size W V) => show V.cell? ⟨q + 1, 0, none⟩ = some (.int .i64 z0) ∧ V.cell? ⟨q + 1, 1, none⟩ = some (.int .i64 z1) from ⟨cell_of_row V _ _ _ _ _ ((hV.block _ (heap_lt hr2)).trans hr2), cell_of_row V _ _ _ _ _ ((hV.block _ (heap_lt hr2)).trans hr2)⟩)
  have HW := Lib.hid hW
  have HQ := Lib.hid hq
  have HB := Lib.hid hB
  have CA := Lib.hid (rAwake_any W)
  obtain ⟨av, cv, hsv⟩ := HG.out.shape
  rw [hn] at hsv
  subst hsv
  obtain ⟨xt, xu⟩ := x
  simp only at hW HQX HW ⊢
  clear h hn hW hq hB hr hr2
  go_enter Try.func4, Try.ntmps4
  go_upto_region 1 with fail
  rw [HW.out, HQ.out]
  go_wp2_with fail
  refine CA.out.mono ?_
  rintro e w2 ⟨rfl, hb2⟩
  have HB2 := Lib.hid hb2
  have HB02 := Lib.hid (HB.out.trans (hb2.mono HB.out.size))
  clear hb2
  by_cases hbig : 5000 < n
  · have e1 : (5000 : Int) < n := by omega
    go_wp2
    go_ret
    exact ⟨rfl, HB02.out⟩
  · have e1 : ¬ (5000 : Int) < n := by omega
    have hl : l.length ≤ 5000 := by rw [HN.out]; omega
    have HL := Lib.hid hl
    have C3 := Lib.hid (rrRight_any _ l w2 (HG.out.below HB02.out) (by omega))
    obtain ⟨rt, hrt⟩ : ∃ r, rright l = r := ⟨_, rfl⟩
    rw [hrt] at C3
    have HRT := Lib.hid hrt
    clear hbig hl hrt
    go_wp2_with fail
    refine C3.out.mono ?_
    rintro e w3 ⟨rfl, hb3⟩
    have hb23 := HB2.out.trans (hb3.mono HB2.out.size)
    have HB23 := Lib.hid hb23
    have HB03 := Lib.hid (HB.out.trans (hb23.mono HB.out.size))
    obtain ⟨p0, p1⟩ := HQZ.out w3 hb23
    have HZ : Hid (∀ V : World, Below w3.heap.size w3 V → V.cell? ⟨q + 1, 0, none⟩ = some (.int .i64 z0) ∧ V.cell? ⟨q + 1, 1, none⟩ = some (.int .i64 z1)) := fun V hV => HQZ.out V (HB23.out.trans (hV.mono HB23.out.size))
    have HGS : Hid (∀ V : World, Below w3.heap.size w3 V → Gs 2 csR V (.slice av n cv) l) := fun V hV => HG.out.below (HB03.out.trans (hV.mono HB03.out.size))
    have D1 : Hid (∀ V : World, Below w3.heap.size w3 V → Calls Try.prog 14 #[.slice av n cv] V fun e w' => e = .returned (.bool rt) ∧ Below V.heap.size V w') := fun V hV => by
      have := rRight_any _ l V (HGS.out V hV); rwa [HRT.out] at this
    have D2 : Hid (∀ V : World, Below w3.heap.size w3 V → Calls Try.prog 15 #[.slice av n cv, .int .i64 z0] V fun e w' => ∃ v', e = .returned v' ∧ Gs 2 csR w' v' (vsince l z0) ∧ Below V.heap.size V w') := fun V hV => rPrune_any _ l z0 V (HGS.out V hV) (by have := HL.out; omega)
    have D3 : Hid (∀ V : World, Below w3.heap.size w3 V → Calls Try.prog 16 #[.slice av n cv, .int .i64 z0] V fun e w' => ∃ v', e = .returned v' ∧ Gs 2 csR w' v' (vsince l z0) ∧ Below V.heap.size V w') := fun V hV => rrPrune_any _ l z0 V (HGS.out V hV) (by have := HL.out; omega)
    have hvl : (vsince l z0).length ≤ 100000 := Nat.le_trans (List.length_filter_le _ _) (by have := HL.out; omega)
    have D4 : Hid (∀ (V : World) (y u : Value), Gs 2 csR V y (vsince l z0) → Gs 2 csR V u (vsince l z0) → Calls Try.prog 13 #[y, u] V fun e w' => e = .returned (.bool true) ∧ Below V.heap.size V w') := fun V y u h1 h2 => rrSame_yes y u _ V h1 h2 hvl
    have D5 : Hid (rt = true → ∀ V : World, Below w3.heap.size w3 V → Calls Try.prog 17 #[.slice av n cv, .int .i64 z1, .int .i64 z0] V fun e w' => e = .returned (.bool (rhas l z1 z0)) ∧ Below V.heap.size V w') := fun hh V hV => rHas_any _ l z1 z0 0 V (HGS.out V hV) (by have := HL.out; omega) (rright_lt (HRT.out.trans hh))
    have D6 : Hid (rt = true → ∀ V : World, Below w3.heap.size w3 V → Calls Try.prog 18 #[.slice av n cv, .int .i64 z1, .int .i64 z0] V fun e w' => e = .returned (.bool (rhas l z1 z0)) ∧ Below V.heap.size V w') := fun hh V hV => rrHas_any _ l z1 z0 0 V (HGS.out V hV) (by have := HL.out; omega) (rright_lt (HRT.out.trans hh))
    obtain ⟨hv, hhv⟩ : ∃ b, rhas l z1 z0 = b := ⟨_, rfl⟩
    rw [hhv] at D5 D6
    clear hb3 hb23 hvl hhv
    go_upto_region 6 with fail
    go_cut [51] (fun c wx => c = .bool false ∧ Hid (Below w3.heap.size w3 wx))
    case first =>
--<A
      clear HG HN HQX HQZ HW HQ HB CA HB2 HB02 HL C3 HRT HB23 HB03 HGS e1
      have HS : Hid (∀ V : World, Below w3.heap.size w3 V → Below w3.heap.size w3 V ∧ V.cell? ⟨q + 1, 0, none⟩ = some (.int .i64 z0) ∧ V.cell? ⟨q + 1, 1, none⟩ = some (.int .i64 z1)) := fun V hV => ⟨hV, HZ.out V hV⟩
      clear p0 p1 HZ
      cases rt with
      | false =>
--<A1
        clear D5 D6
        refine wp_region_held_drew (S := (fun W => Below w3.heap.size w3 W ∧ W.cell? ⟨q + 1, 0, none⟩ = some (.int .i64 z0) ∧ W.cell? ⟨q + 1, 1, none⟩ = some (.int .i64 z1))) (by kernel_rfl) (HS.out _ (bw_dr (Below.refl _ _))) (fun hHeld => ?_)
        refine wpAnyH_take (i := 0) (v := ?_) (gdrop rfl) (by kernel_rfl) (by kernel_rfl) (by kernel_rfl) (fun _ _ _ h => h) (Or.inl ⟨by rfl, ?_⟩) (by assumption) ?_
        rotate_left 1
        focus (intro w hSw; (try dsimp only at hSw); go_simp; try (with_reducible rfl))
        try simp only [Act.put, List.setIfInBounds_toArray, List.set_cons_zero, List.set_cons_succ]
        refine wpAnyH_take (i := 2) (v := ?_) (gdrop rfl) (by kernel_rfl) (by kernel_rfl) (by kernel_rfl) (fun _ _ _ h => h) (Or.inl ⟨by rfl, ?_⟩) (by assumption) ?_
        rotate_left 1
        focus (intro w hSw; (try dsimp only at hSw); go_simp; try (with_reducible rfl))
        try simp only [Act.put, List.setIfInBounds_toArray, List.set_cons_zero, List.set_cons_succ]
        refine wpAnyH_ready (rs := [1]) (by kernel_rfl) (by simp) ?_
        refine AllReadyH.cons (gdrop rfl) (fun K hK => ?_) AllReadyH.nil
        go_simp
        go_at_call 14
        (with_reducible refine (D1.out _ (bw_dr (Below.refl _ _))).mono ?_)
        rintro e wa ⟨rfl, hba⟩
        have hBa : Below w3.heap.size w3 wa := (bw_dr (Below.refl _ _)).trans (hba.mono (by simp))
        clear hba
        refine hK.out _ _ (HS.out _ hBa) (fun hHeld => ?_)
        clear hK K
        try simp only [Act.put, List.setIfInBounds_toArray, List.set_cons_zero, List.set_cons_succ]
        refine wpAnyH_take (i := 3) (v := ?_) (gdrop rfl) (by kernel_rfl) (by kernel_rfl) (by kernel_rfl) (fun _ _ _ h => h) (Or.inl ⟨by rfl, ?_⟩) (by assumption) ?_
        rotate_left 1
        focus (intro w hSw; (try dsimp only at hSw); go_simp; try (with_reducible rfl))
        try simp only [Act.put, List.setIfInBounds_toArray, List.set_cons_zero, List.set_cons_succ]
        refine wpAnyH_take (i := 4) (v := ?_) (gdrop rfl) (by kernel_rfl) (by kernel_rfl) (by kernel_rfl) (fun _ _ _ h => h) (Or.inl ⟨by rfl, ?_⟩) (by assumption) ?_
        rotate_left 1
        focus (intro w hSw; (try dsimp only at hSw); go_simp; try (with_reducible rfl))
        try simp only [Act.put, List.setIfInBounds_toArray, List.set_cons_zero, List.set_cons_succ]
        refine wpAnyH_take (i := 5) (v := ?_) (gdrop rfl) (by kernel_rfl) (by kernel_rfl) (by kernel_rfl) (fun _ _ _ h => h) (Or.inl ⟨by rfl, ?_⟩) (by assumption) ?_
        rotate_left 1
        focus (intro w hSw; (try dsimp only at hSw); go_simp; try (with_reducible rfl))
        try simp only [Act.put, List.setIfInBounds_toArray, List.set_cons_zero, List.set_cons_succ]
        refine wpAnyH_take (i := 6) (v := ?_) (gdrop rfl) (by kernel_rfl) (by kernel_rfl) (by kernel_rfl) (fun _ _ _ h => h) (Or.inl ⟨by rfl, ?_⟩) (by assumption) ?_
        rotate_left 1
        focus (intro w hSw; (try dsimp only at hSw); go_simp; try (with_reducible rfl))
        try simp only [Act.put, List.setIfInBounds_toArray, List.set_cons_zero, List.set_cons_succ]
        refine wpAnyH_take (i := 7) (v := ?_) (gdrop rfl) (by kernel_rfl) (by kernel_rfl) (by kernel_rfl) (fun _ _ _ h => h) (Or.inl ⟨by rfl, ?_⟩) (by assumption) ?_
        rotate_left 1
        focus (intro w hSw; (try dsimp only at hSw); go_simp; try (with_reducible rfl))
        try simp only [Act.put, List.setIfInBounds_toArray, List.set_cons_zero, List.set_cons_succ]
        refine wpAnyH_take (i := 9) (v := ?_) (gdrop rfl) (by kernel_rfl) (by kernel_rfl) (by kernel_rfl) (fun _ _ _ h => h) (Or.inl ⟨by rfl, ?_⟩) (by assumption) ?_
        rotate_left 1
        focus (intro w hSw; (try dsimp only at hSw); go_simp; try (with_reducible rfl))
        try simp only [Act.put, List.setIfInBounds_toArray, List.set_cons_zero, List.set_cons_succ]
        refine wpAnyH_take (i := 10) (v := ?_) (gdrop rfl) (by kernel_rfl) (by kernel_rfl) (by kernel_rfl) (fun _ _ _ h => h) (Or.inl ⟨by rfl, ?_⟩) (by assumption) ?_
        rotate_left 1
        focus (intro w hSw; (try dsimp only at hSw); go_simp; try (with_reducible rfl))
        try simp only [Act.put, List.setIfInBounds_toArray, List.set_cons_zero, List.set_cons_succ]
        refine wpAnyH_take (i := 11) (v := ?_) (gdrop rfl) (by kernel_rfl) (by kernel_rfl) (by kernel_rfl) (fun _ _ _ h => h) (Or.inl ⟨by rfl, ?_⟩) (by assumption) ?_
        rotate_left 1
        focus (intro w hSw; (try dsimp only at hSw); go_simp; try (with_reducible rfl))
        try simp only [Act.put, List.setIfInBounds_toArray, List.set_cons_zero, List.set_cons_succ]
        refine wpAnyH_ready (rs := [8]) (by kernel_rfl) (by simp) ?_
        refine AllReadyH.cons (gdrop rfl) (fun K hK => ?_) AllReadyH.nil
        go_simp
        go_at_call 15
        (with_reducible refine (D2.out _ hBa).mono ?_)
        rintro e wb ⟨vb, rfl, hgb, hbb⟩
        have hBb := hBa.trans (hbb.mono hBa.size)
        clear hbb
        refine hK.out _ _ (HS.out _ hBb) (fun hHeld => ?_)
        clear hK K
        try simp only [Act.put, List.setIfInBounds_toArray, List.set_cons_zero, List.set_cons_succ]
        refine wpAnyH_ready (rs := [12]) (by kernel_rfl) (by simp) ?_
        refine AllReadyH.cons (gdrop rfl) (fun K hK => ?_) AllReadyH.nil
        go_simp
        go_at_call 16
        (with_reducible refine (D3.out _ hBb).mono ?_)
        rintro e wd ⟨vd, rfl, hgd, hbd⟩
        have hBd := hBb.trans (hbd.mono hBb.size)
        have hgb2 := hgb.below hbd
        clear hbd
        refine hK.out _ _ (HS.out _ hBd) (fun hHeld => ?_)
        clear hK K
        try simp only [Act.put, List.setIfInBounds_toArray, List.set_cons_zero, List.set_cons_succ]
        refine wpAnyH_ready (rs := [13]) (by kernel_rfl) (by simp) ?_
        refine AllReadyH.cons (gdrop rfl) (fun K hK => ?_) AllReadyH.nil
        go_simp
        go_at_call 13
        (with_reducible refine (D4.out _ _ _ hgb2 hgd).mono ?_)
        rintro e we ⟨rfl, hbe⟩
        have hBe := hBd.trans (hbe.mono hBd.size)
        clear hbe
        refine hK.out _ _ (HS.out _ hBe) (fun hHeld => ?_)
        clear hK K
        try simp only [Act.put, List.setIfInBounds_toArray, List.set_cons_zero, List.set_cons_succ]
        refine wpAnyH_take (i := 14) (v := ?_) (gdrop rfl) (by kernel_rfl) (by kernel_rfl) (by kernel_rfl) (fun _ _ _ h => h) (Or.inl ⟨by rfl, ?_⟩) (by assumption) ?_
        rotate_left 1
        focus (intro w hSw; (try dsimp only at hSw); go_simp; try (with_reducible rfl))
        try simp only [Act.put, List.setIfInBounds_toArray, List.set_cons_zero, List.set_cons_succ]
        refine wpAnyH_take (i := 15) (v := ?_) (gdrop rfl) (by kernel_rfl) (by kernel_rfl) (by kernel_rfl) (fun _ _ _ h => h) (Or.inl ⟨by rfl, ?_⟩) (by assumption) ?_
        rotate_left 1
        focus (intro w hSw; (try dsimp only at hSw); go_simp; try (with_reducible rfl))
        try simp only [Act.put, List.setIfInBounds_toArray, List.set_cons_zero, List.set_cons_succ]
        refine wpAnyH_take (i := 16) (v := ?_) (gdrop rfl) (by kernel_rfl) (by kernel_rfl) (by kernel_rfl) (fun _ _ _ h => h) (Or.inl ⟨by rfl, ?_⟩) (by assumption) ?_
        rotate_left 1
        focus (intro w hSw; (try dsimp only at hSw); go_simp; try (with_reducible rfl))
        try simp only [Act.put, List.setIfInBounds_toArray, List.set_cons_zero, List.set_cons_succ]
        refine wpAnyH_take (i := 17) (v := ?_) (gdrop rfl) (by kernel_rfl) (by kernel_rfl) (by kernel_rfl) (fun _ _ _ h => h) (Or.inl ⟨by rfl, ?_⟩) (by assumption) ?_
        rotate_left 1
        focus (intro w hSw; (try dsimp only at hSw); go_simp; try (with_reducible rfl))
        try simp only [Act.put, List.setIfInBounds_toArray, List.set_cons_zero, List.set_cons_succ]
        refine wpAnyH_take (i := 18) (v := ?_) (gdrop rfl) (by kernel_rfl) (by kernel_rfl) (by kernel_rfl) (fun _ _ _ h => h) (Or.inl ⟨by rfl, ?_⟩) (by assumption) ?_
        rotate_left 1
        focus (intro w hSw; (try dsimp only at hSw); go_simp; try (with_reducible rfl))
        try simp only [Act.put, List.setIfInBounds_toArray, List.set_cons_zero, List.set_cons_succ]
        refine wpAnyH_take (i := 19) (v := undef) (gdrop rfl) (by kernel_rfl) (by kernel_rfl) (by kernel_rfl) (fun _ _ _ h => h) (Or.inr ⟨by rfl, rfl⟩) (by assumption) ?_
        try simp only [Act.put, List.setIfInBounds_toArray, List.set_cons_zero, List.set_cons_succ]
        refine wpAnyH_take (i := 20) (v := undef) (gdrop rfl) (by kernel_rfl) (by kernel_rfl) (by kernel_rfl) (fun _ _ _ h => h) (Or.inr ⟨by rfl, rfl⟩) (by assumption) ?_
        try simp only [Act.put, List.setIfInBounds_toArray, List.set_cons_zero, List.set_cons_succ]
        refine wpAnyH_take (i := 21) (v := undef) (gdrop rfl) (by kernel_rfl) (by kernel_rfl) (by kernel_rfl) (fun _ _ _ h => h) (Or.inr ⟨by rfl, rfl⟩) (by assumption) ?_
        try simp only [Act.put, List.setIfInBounds_toArray, List.set_cons_zero, List.set_cons_succ]
        refine wpAnyH_take (i := 22) (v := undef) (gdrop rfl) (by kernel_rfl) (by kernel_rfl) (by kernel_rfl) (fun _ _ _ h => h) (Or.inr ⟨by rfl, rfl⟩) (by assumption) ?_
        try simp only [Act.put, List.setIfInBounds_toArray, List.set_cons_zero, List.set_cons_succ]
        refine wpAnyH_take (i := 23) (v := undef) (gdrop rfl) (by kernel_rfl) (by kernel_rfl) (by kernel_rfl) (fun _ _ _ h => h) (Or.inr ⟨by rfl, rfl⟩) (by assumption) ?_
        try simp only [Act.put, List.setIfInBounds_toArray, List.set_cons_zero, List.set_cons_succ]
        refine wpAnyH_take (i := 24) (v := undef) (gdrop rfl) (by kernel_rfl) (by kernel_rfl) (by kernel_rfl) (fun _ _ _ h => h) (Or.inr ⟨by rfl, rfl⟩) (by assumption) ?_
        try simp only [Act.put, List.setIfInBounds_toArray, List.set_cons_zero, List.set_cons_succ]
        refine wpAnyH_take (i := 25) (v := undef) (gdrop rfl) (by kernel_rfl) (by kernel_rfl) (by kernel_rfl) (fun _ _ _ h => h) (Or.inr ⟨by rfl, rfl⟩) (by assumption) ?_
        try simp only [Act.put, List.setIfInBounds_toArray, List.set_cons_zero, List.set_cons_succ]
        refine wpAnyH_take (i := 26) (v := undef) (gdrop rfl) (by kernel_rfl) (by kernel_rfl) (by kernel_rfl) (fun _ _ _ h => h) (Or.inr ⟨by rfl, rfl⟩) (by assumption) ?_
        try simp only [Act.put, List.setIfInBounds_toArray, List.set_cons_zero, List.set_cons_succ]
        refine wpAnyH_take (i := 27) (v := undef) (gdrop rfl) (by kernel_rfl) (by kernel_rfl) (by kernel_rfl) (fun _ _ _ h => h) (Or.inr ⟨by rfl, rfl⟩) (by assumption) ?_
        try simp only [Act.put, List.setIfInBounds_toArray, List.set_cons_zero, List.set_cons_succ]
        refine wpAnyH_take (i := 28) (v := undef) (gdrop rfl) (by kernel_rfl) (by kernel_rfl) (by kernel_rfl) (fun _ _ _ h => h) (Or.inr ⟨by rfl, rfl⟩) (by assumption) ?_
        try simp only [Act.put, List.setIfInBounds_toArray, List.set_cons_zero, List.set_cons_succ]
        refine wpAnyH_take (i := 29) (v := undef) (gdrop rfl) (by kernel_rfl) (by kernel_rfl) (by kernel_rfl) (fun _ _ _ h => h) (Or.inr ⟨by rfl, rfl⟩) (by assumption) ?_
        try simp only [Act.put, List.setIfInBounds_toArray, List.set_cons_zero, List.set_cons_succ]
        refine wpAnyH_take (i := 30) (v := undef) (gdrop rfl) (by kernel_rfl) (by kernel_rfl) (by kernel_rfl) (fun _ _ _ h => h) (Or.inr ⟨by rfl, rfl⟩) (by assumption) ?_
        try simp only [Act.put, List.setIfInBounds_toArray, List.set_cons_zero, List.set_cons_succ]
        refine wpAnyH_take (i := 31) (v := undef) (gdrop rfl) (by kernel_rfl) (by kernel_rfl) (by kernel_rfl) (fun _ _ _ h => h) (Or.inr ⟨by rfl, rfl⟩) (by assumption) ?_
        try simp only [Act.put, List.setIfInBounds_toArray, List.set_cons_zero, List.set_cons_succ]
        refine wpAnyH_take (i := 32) (v := ?_) (gdrop rfl) (by kernel_rfl) (by kernel_rfl) (by kernel_rfl) (fun _ _ _ h => h) (Or.inl ⟨by rfl, ?_⟩) (by assumption) ?_
        rotate_left 1
        focus (intro w hSw; (try dsimp only at hSw); go_simp; try (with_reducible rfl))
        try simp only [Act.put, List.setIfInBounds_toArray, List.set_cons_zero, List.set_cons_succ]
        refine wpAnyH_take (i := 33) (v := ?_) (gdrop rfl) (by kernel_rfl) (by kernel_rfl) (by kernel_rfl) (fun _ _ _ h => h) (Or.inl ⟨by rfl, ?_⟩) (by assumption) ?_
        rotate_left 1
        focus (intro w hSw; (try dsimp only at hSw); go_simp; try (with_reducible rfl))
        try simp only [Act.put, List.setIfInBounds_toArray, List.set_cons_zero, List.set_cons_succ]
        refine wpAnyH_done (by kernel_rfl) ?_ _
        have HBe := Lib.hid hBe
        go_simp
        go_wp2
        go_meet
        case rel => exact ⟨by first | rfl | simp, HBe⟩
-->A1
      | true =>
        have E5 := Lib.hid (D5.out rfl)
        have E6 := Lib.hid (D6.out rfl)
        clear D5 D6
--<B
        go_region_held3 (fun W => Below w3.heap.size w3 W ∧ W.cell? ⟨q + 1, 0, none⟩ = some (.int .i64 z0) ∧ W.cell? ⟨q + 1, 1, none⟩ = some (.int .i64 z1)) (first
          | (with_reducible exact HS.out _ hBg)
          | (with_reducible exact HS.out _ hBf)
          | (with_reducible exact HS.out _ hBe)
          | (with_reducible exact HS.out _ hBd)
          | (with_reducible exact HS.out _ hBb)
          | (with_reducible exact HS.out _ hBa)
          | (with_reducible exact HS.out _ (bw_dr (Below.refl _ _)))) (first
          | (go_at_call 14; (with_reducible refine (D1.out _ (bw_dr (Below.refl _ _))).mono ?_); rintro e wa ⟨rfl, hba⟩; have hBa : Below w3.heap.size w3 wa := (bw_dr (Below.refl _ _)).trans (hba.mono (by simp)); clear hba)
          | (go_at_call 15; (with_reducible refine (D2.out _ hBa).mono ?_); rintro e wb ⟨vb, rfl, hgb, hbb⟩; have hBb := hBa.trans (hbb.mono hBa.size); clear hbb)
          | (go_at_call 16; (with_reducible refine (D3.out _ hBb).mono ?_); rintro e wd ⟨vd, rfl, hgd, hbd⟩; have hBd := hBb.trans (hbd.mono hBb.size); have hgb2 := hgb.below hbd; clear hbd)
          | (go_at_call 13; (with_reducible refine (D4.out _ _ _ hgb2 hgd).mono ?_); rintro e we ⟨rfl, hbe⟩; have hBe := hBd.trans (hbe.mono hBd.size); clear hbe)
          | (go_at_call 17; (with_reducible refine (E5.out _ hBe).mono ?_); rintro e wf ⟨rfl, hbf⟩; have hBf := hBe.trans (hbf.mono hBe.size); clear hbf)
          | (go_at_call 18; (with_reducible refine (E6.out _ hBf).mono ?_); rintro e wg ⟨rfl, hbg⟩; have hBg := hBf.trans (hbg.mono hBf.size); clear hbg))
        all_goals
          have HBe := Lib.hid hBg
          go_simp
          go_wp2
          go_meet
          case rel => exact ⟨by first | rfl | simp, HBe⟩
-->B
-->A
    case rest =>
--<R
      obtain ⟨rfl, HB6⟩ := hcut
      obtain ⟨w6, hw6⟩ : ∃ V, V = wc := ⟨_, rfl⟩
      subst hw6
      have HB26 := Lib.hid (HB23.out.trans (HB6.out.mono HB23.out.size))
      have HB06 := Lib.hid (HB03.out.trans (HB6.out.mono HB03.out.size))
      obtain ⟨s0, s1⟩ := HQX.out w6 HB26.out
      have CAD := Lib.hid (rAdd_any _ l (xt, xu) w6 (HG.out.below HB06.out))
      unfold AddPost at CAD
      obtain ⟨E, hE⟩ : ∃ E, addE l (xt, xu) = E := ⟨_, rfl⟩
      have HEV : Hid (E = if rright l = false ∨ rone (xt, xu) = false then 2 else if 4096 < (rins l (xt, xu)).length then 3 else 0) := hE.symm
      rw [hE] at CAD
      simp only at CAD
      clear hE p0 p1
      go_wp2_with fail
      refine CAD.out.mono ?_
      rintro e w7 ⟨⟨va, rfl, hnil, hgs⟩, hb7⟩
      have HNIL := Lib.hid hnil
      have HGS7 := Lib.hid hgs
      have hb27 := HB26.out.trans (hb7.mono HB26.out.size)
      have HB27 := Lib.hid hb27
      have HB07 := Lib.hid (HB.out.trans (hb27.mono HB.out.size))
      clear s0 s1
      obtain ⟨s0, s1⟩ := HQX.out w7 hb27
      have CRA := Lib.hid (rrAdd_any _ l (xt, xu) w7 (HG.out.below HB07.out) (by have := HL.out; omega))
      simp only at CRA
      clear hnil hgs hb7 hb27
      go_wp2_with fail
      refine CRA.out.mono ?_
      rintro e w8 ⟨vw, rfl, hgw, hb8⟩
      have hb28 := HB27.out.trans (hb8.mono HB27.out.size)
      have HB28 := Lib.hid hb28
      have HB08 := Lib.hid (HB.out.trans (hb28.mono HB.out.size))
      have HB78 := Lib.hid hb8
      have HGW := Lib.hid hgw
      clear s0 s1
      obtain ⟨s0, s1⟩ := HQX.out w8 hb28
      clear hgw hb8 hb28
      cases rt with
      | false =>
        have hE2 : E = 2 := by rw [HEV.out, if_pos (.inl HRT.out)]
        obtain rfl := HNIL.out (by rw [hE2]; decide)
        subst hE2
        go_wp2
        go_ret
        exact ⟨rfl, HB08.out⟩
      | true =>
        have hal : Below w8.heap.size w8 (w8.alloc (.cells #[.int .i64 xt, .int .i64 xu] 29)) := (Below.refl _ _).alloc (Nat.le_refl _) _
        have CRX := Lib.hid (rrRight_any (.slice (some ⟨w8.heap.size, 0, none⟩) 1 1) [((xt, xu) : RT)] (w8.alloc (.cells #[.int .i64 xt, .int .i64 xu] 29)) (gw_lit layR w8 29 #[.int .i64 xt, .int .i64 xu] [(xt, xu)] 1 rfl (by decide) rfl).gs (by simp))
        rw [rright_one] at CRX
        obtain ⟨ro, hro⟩ : ∃ r, rone (xt, xu) = r := ⟨_, rfl⟩
        rw [hro] at CRX
        have HRO := Lib.hid hro
        have HAL := Lib.hid hal
        clear hal hro
        go_wp2_with fail
        refine CRX.out.mono ?_
        rintro e w9 ⟨rfl, hb9⟩
        have hb89 := HAL.out.trans (hb9.mono HAL.out.size)
        have HB09 := Lib.hid (HB08.out.trans (hb89.mono HB08.out.size))
        have HB89 := Lib.hid hb89
        clear hb9 hb89 s0 s1
        cases ro with
        | false =>
          have hE2 : E = 2 := by rw [HEV.out, if_pos (.inr HRO.out)]
          obtain rfl := HNIL.out (by rw [hE2]; decide)
          subst hE2
          go_wp2
          go_ret
          exact ⟨rfl, HB09.out⟩
        | true =>
          have HEV2 : Hid (E = if 4096 < (rins l (xt, xu)).length then 3 else 0) := by show _ = _; rw [HEV.out, HRT.out, HRO.out]; simp
          have hgw2 := HGW.out
          rw [radd_ins (rright_lt HRT.out)] at hgw2
          obtain ⟨N, hN⟩ : ∃ N, (rins l (xt, xu)).length = N := ⟨_, rfl⟩
          obtain ⟨aw, cw, hsw⟩ := hgw2.shape
          rw [hN] at hsw
          subst hsw
          rw [hN] at HEV2
          have HGW2 := Lib.hid hgw2
          have HNN := Lib.hid hN
          have hNl : N ≤ 5001 := by rw [← hN]; exact Nat.le_trans (rins_len _ _) (by have := HL.out; omega)
          clear hgw2 hN
          by_cases h4 : 4096 < N
          · have e4 : (4096 : Int) < N := by omega
            have hE3 : E = 3 := by rw [HEV2.out, if_pos h4]
            obtain rfl := HNIL.out (by rw [hE3]; decide)
            subst hE3
            go_wp2
            go_ret
            exact ⟨rfl, HB09.out⟩
          · have e4 : ¬ (4096 : Int) < N := by omega
            have hE0 : E = 0 := by rw [HEV2.out, if_neg h4]
            have hga := HGS7.out hE0
            have CSA := Lib.hid (rrSame_yes va (.slice aw N cw) (rins l (xt, xu)) w9 ((hga.below HB78.out).below HB89.out) (HGW2.out.below HB89.out) (by rw [HNN.out]; omega))
            subst hE0
            clear hga
            go_wp2_with fail
            refine CSA.out.mono ?_
            rintro e w10 ⟨rfl, hb10⟩
            have HB010 := Lib.hid (HB09.out.trans (hb10.mono HB09.out.size))
            clear hb10
            go_wp2
            go_ret
            exact ⟨rfl, HB010.out⟩
-->R

end Go.Proofs.Ytjnbdeopoohnmaa
