/- Layer 12 (revoke): Merge. -/
import Derived.Test.YtjnbdeopoohnmaaRv1
import Derived.Deep.RegionHeld3
import Derived.Deep.RegionLaw
import Derived.Deep.DeepCutAuto
import Derived.Deep.CutBlock
import Derived.Lib.QuietBelow
set_option linter.unusedSimpArgs false
namespace Go.Proofs.Ytjnbdeopoohnmaa
open Go.RowKit Go.Sort

/-- a list that is not empty, for reading its first and the rest -/
theorem Gs.head {w : World} {v : Value} {x : RT} {A : List RT} (h : Gs 2 csR w v (x :: A)) :
    ∃ a c b o, v = .slice a (A.length + 1) c ∧ (∀ W : World, (Instr.indexAt 22 (.slice a (A.length + 1) c) (.int .i64 0)).run Try.prog W = .ok (.pointer (some ⟨b, o, none⟩)) W) ∧ b < w.heap.size ∧
      w.cell? ⟨b, o, none⟩ = some (.int .i64 x.1) ∧ w.cell? ⟨b, o + 1, none⟩ = some (.int .i64 x.2) ∧
      ∃ Y, (∀ W : World, (Instr.sliceAt 22 (.slice a (A.length + 1) c) (some (.int .i64 1)) none none).run Try.prog W = .ok Y W) ∧ Gs 2 csR w Y A ∧ lenOfV Y = A.length := by
  obtain ⟨a, c, b, o, rfl, h1, h2, hix, hlt, hcell, -⟩ := h.open_n layR elR (A.length + 1) (by simp)
  obtain ⟨Y, hY, hYg⟩ := Gs.from layR elR h 1 (by simp)
  have c0 := hcell 0 x rfl 0 _ rfl
  have c1 := hcell 0 x rfl 1 _ rfl
  have hg : Gs 2 csR w Y A := by simpa using hYg
  obtain ⟨a2, c2, hs⟩ := hg.shape
  exact ⟨a, c, b, o 0, rfl, fun W => hix W 0 (by omega), hlt 0 (by omega), c0, c1, Y, hY, hg, by rw [hs]; rfl⟩

def merE (a b : List RT) : Int := if rright a = false ∨ rright b = false then 2 else if 4096 < (rmerge a b).length then 3 else 0
def MerPost (a b : List RT) (w : World) (e : Ending) (w' : World) : Prop :=
  (∃ v, e = .returned (.tuple #[v, .int .i64 (merE a b)]) ∧ (merE a b ≠ 0 → v = .slice none 0 0) ∧ (merE a b = 0 → Gs 2 csR w' v (rmerge a b))) ∧ Below w.heap.size w w'

/-- where Merge stands -/
structure MSt (w0 : World) (a b A C O : List RT) (w : World) (y0 y1 y6 : Value) : Prop where
  ga : Gs 2 csR w0 y0 A
  gb : Gs 2 csR w0 y1 C
  go : Gw 2 csR w w0.heap.size 29 y6 O
  eq : O ++ rmerge A C = rmerge a b
  len : A.length + C.length + O.length ≤ 20000
  bel : Below w0.heap.size w0 w
  la : lenOfV y0 = A.length
  lb : lenOfV y1 = C.length

set_option maxRecDepth 100000 in
set_option maxHeartbeats 3200000 in
theorem rMerge_any (v u : Value) (a b : List RT) (w : World) (h : Gs 2 csR w v a) (hu : Gs 2 csR w u b) : Calls Try.prog 10 #[v, u] w (MerPost a b w) := by
  unfold MerPost
  have HGA := Lib.hid h
  have HGB := Lib.hid hu
  obtain ⟨E, hE⟩ : ∃ E, merE a b = E := ⟨_, rfl⟩
  have HEV : Hid (E = if rright a = false ∨ rright b = false then 2 else if 4096 < (rmerge a b).length then 3 else 0) := hE.symm
  rw [hE]
  have C1 := Lib.hid (rRight_any v a w h)
  have C2 := Lib.hid (fun (V : World) (hV : Below w.heap.size w V) => rRight_any u b V (hu.below hV))
  obtain ⟨ra, hra⟩ : ∃ r, rright a = r := ⟨_, rfl⟩
  obtain ⟨rb, hrb⟩ : ∃ r, rright b = r := ⟨_, rfl⟩
  rw [hra, hrb] at HEV
  rw [hra] at C1
  rw [hrb] at C2
  have HRA := Lib.hid hra
  have HRB := Lib.hid hrb
  clear h hu hE hra hrb
  go_enter Try.func10, Try.ntmps10
  go_wp2_with fail
  refine C1.out.mono ?_
  rintro e w2 ⟨rfl, hb2⟩
  have HB2 := Lib.hid hb2
  clear hb2
  cases ra with
  | false =>
    have HEE : Hid (E = 2) := by show _ = _; rw [HEV.out]; rfl
    go_wp2
    go_ret2
    exact ⟨⟨_, by rw [HEE.out]; rfl, fun _ => rfl, fun h => absurd h (by rw [HEE.out]; decide)⟩, HB2.out⟩
  | true =>
  go_wp2_with fail
  refine (C2.out w2 HB2.out).mono ?_
  rintro e w3 ⟨rfl, hb3⟩
  have HB3 := Lib.hid (HB2.out.trans (hb3.mono HB2.out.size))
  clear hb3
  cases rb with
  | false =>
    have HEE : Hid (E = 2) := by show _ = _; rw [HEV.out]; rfl
    go_wp2
    go_ret2
    exact ⟨⟨_, by rw [HEE.out]; rfl, fun _ => rfl, fun h => absurd h (by rw [HEE.out]; decide)⟩, HB3.out⟩
  | true =>
  have HEV2 : Hid (E = if 4096 < (rmerge a b).length then 3 else 0) := by show _ = _; rw [HEV.out]; simp
  have hla : a.length ≤ 4096 := by have := HRA.out; unfold rright at this; simp at this; exact this.1
  have hlb : b.length ≤ 4096 := by have := HRB.out; unfold rright at this; simp at this; exact this.1
  have hst0 : MSt w a b a b [] w3 v u (.slice none 0 0) := by
    obtain ⟨a1, c1, e1⟩ := HGA.out.shape
    obtain ⟨a2, c2, e2⟩ := HGB.out.shape
    exact ⟨HGA.out, HGB.out, Gw.nil _ _ _, rfl, by simp; omega, HB3.out, by rw [e1]; rfl, by rw [e2]; rfl⟩
  have HST0 := Lib.hid hst0
  clear hla hlb hst0
  go_wp2_with fail
  go_loopw [0, 1, 6] (fun v0 v1 v6 wr => ∃ (A C O : List RT) (y0 y1 y6 : Value), y0 = v0 ∧ y1 = v1 ∧ y6 = v6 ∧ Hid (MSt w a b A C O wr y0 y1 y6)) (fun v0 v1 _ _ => lenOfV v0 + lenOfV v1)
  case atStart => exact ⟨a, b, [], _, _, _, rfl, rfl, rfl, HST0⟩
  case round =>
    obtain ⟨A, C, O, y0, y1, y6, rfl, rfl, rfl, HS⟩ := hrel
    obtain ⟨pv, pcv, hsv⟩ := HS.out.go.gs.shape
    subst hsv
    have HB := Lib.hid HS.out.bel
    have hO : O.length ≤ 20000 := by have := HS.out.len; omega
    have HLA := Lib.hid HS.out.la
    have HLB := Lib.hid HS.out.lb
    cases A with
    | nil =>
      cases C with
      | nil =>
        obtain ⟨a1, k1, e1⟩ := HS.out.ga.shape
        subst e1
        rw [List.length_nil] at HLA HS ⊢

        obtain ⟨a2, k2, e2⟩ := HS.out.gb.shape
        subst e2
        rw [List.length_nil] at HLB HS ⊢

        obtain ⟨N, hN⟩ : ∃ N, O.length = N := ⟨_, rfl⟩
        have heq : O = rmerge a b := by have := HS.out.eq; rw [rmerge_nil, List.append_nil] at this; exact this
        have HE2 : Hid (E = if 4096 < N then 3 else 0) := by show _ = _; rw [HEV2.out, ← heq, hN]
        have HF : Hid (Gs 2 csR wr (.slice pv N pcv) (rmerge a b)) := by rw [← heq, ← hN]; exact HS.out.go.gs
        rw [hN] at HS ⊢
        clear heq hN
        by_cases h4 : 4096 < N
        · have e4 : (4096 : Int) < N := by omega
          have HEE : Hid (E = 3) := by show _ = _; rw [HE2.out, if_pos h4]
          go_wp2
          go_ret2
          exact ⟨⟨_, by rw [HEE.out]; rfl, fun _ => rfl, fun h => absurd h (by rw [HEE.out]; decide)⟩, HB.out⟩
        · have e4 : ¬ (4096 : Int) < N := by omega
          have HEE : Hid (E = 0) := by show _ = _; rw [HE2.out, if_neg h4]
          go_wp2
          go_ret2
          exact ⟨⟨_, by rw [HEE.out]; rfl, fun h => absurd HEE.out h, fun _ => HF.out⟩, HB.out⟩
      | cons y C' =>
        obtain ⟨a1, k1, e1⟩ := HS.out.ga.shape
        subst e1
        rw [List.length_nil] at HLA HS ⊢

        obtain ⟨a2, k2, b2, o2, e2, hix2, hlt2, d0, d1, Z, hZ, hZg, hZl⟩ := HS.out.gb.head
        subst e2
        obtain ⟨N2, hN2⟩ : ∃ N, C'.length + 1 = N := ⟨_, rfl⟩
        rw [hN2] at hix2 hZ HLB HS ⊢
        rw [← HB.out.cell (by exact hlt2)] at d0 d1
        have hn2 : 0 < N2 := by omega
        have hn2b : ((N2 : Int) == 0) = false := by simp; omega
        obtain ⟨yt, yu⟩ := y
        simp only at d0 d1
        have r3 := fun d os => cell_regrown d0 d os
        go_upto_region 7 with fail
        refine wp_region_quiet_below (by kernel_rfl) (by kernel_rfl) ?_
        repeat (go_big_quiet_step ((fail)))
        refine wpQuiet_nil ?_
        intro _ hw'
        obtain ⟨⟨dq, osq⟩, hw''⟩ := hw'
        subst hw''
        have HB2 := below_regrown wr dq osq
        obtain ⟨W2, hwq⟩ : ∃ x, x = grow (redrawn wr dq) osq := ⟨_, rfl⟩
        rw [← hwq] at HB2 ⊢
        clear hwq
        go_upto_region 9 with fail
        refine wp_region_quiet_below (by kernel_rfl) (by kernel_rfl) ?_
        repeat (go_big_quiet_step ((fail)))
        refine wpQuiet_nil ?_
        intro _ hw'
        obtain ⟨⟨dq, osq⟩, hw''⟩ := hw'
        subst hw''
        have HB3' := below_regrown W2 dq osq
        obtain ⟨W3, hwq⟩ : ∃ x, x = grow (redrawn W2 dq) osq := ⟨_, rfl⟩
        rw [← hwq] at HB3' ⊢
        clear hwq

        have hb23 := HB2.trans (HB3'.mono HB2.size)
        have HBW3 := Lib.hid (HB.out.trans (hb23.mono HB.out.size))
        have HGOW3 := Lib.hid (HS.out.go.below hb23)
        rw [← hb23.cell (World.block_lt_of_cell? _ _ d0)] at d0
        rw [← hb23.cell (World.block_lt_of_cell? _ _ d1)] at d1
        clear r3 HB2 HB3' hb23

        have V1 : Hid (Below W3.heap.size W3 ((W3.alloc (.cells #[.int .i64 yt, .int .i64 yu] 29)).drew)) := by show Below _ _ _; exact bw_dr (bw_al (Below.refl _ _) _)
        have B1 : Hid (Below w.heap.size w ((W3.alloc (.cells #[.int .i64 yt, .int .i64 yu] 29)).drew)) := HBW3.out.trans (V1.out.mono HBW3.out.size)
        have G1 : Hid (Gw 2 csR ((W3.alloc (.cells #[.int .i64 yt, .int .i64 yu] 29)).drew) w.heap.size 29 (.slice pv O.length pcv) O) := (HGOW3.out).below V1.out
        have L1 : Hid (Gs 2 csR ((W3.alloc (.cells #[.int .i64 yt, .int .i64 yu] 29)).drew) (.slice (some ⟨W3.heap.size, 0, none⟩) 1 1) [((yt, yu) : RT)]) := (gw_lit layR W3 29 #[.int .i64 yt, .int .i64 yu] [((yt, yu) : RT)] 1 rfl (by decide) rfl).gs.below (bw_dr (Below.refl _ _))
        have S1 : Hid ((O.length + [((yt, yu) : RT)].length) * 16 ≤ 140737488355328) := by show _ ≤ _; simp; omega
        have S2 : Hid (O.length + [((yt, yu) : RT)].length ≤ 9223372036854775807) := by show _ ≤ _; simp; omega
        go_upto_region 10 with fail
        go_region_law (refine step_append_row layR G1.out L1.out elR S1.out S2.out B1.out.size ?_ _ _ rfl rfl rfl rfl; intro v8 w8 hg8 hb8 _; have H8 := Lib.hid hg8; have HB8 := Lib.hid (B1.out.trans hb8); clear hg8 hb8)

        all_goals
          have hst : MSt w a b [] C' (O ++ [((yt, yu) : RT)]) w8 (.slice a1 0 k1) (Z) v8 := ⟨HS.out.ga, hZg, H8.out, by rw [List.append_assoc]; have := HS.out.eq; rw [show rmerge [] ((yt, yu) :: C') = (yt, yu) :: rmerge [] C' by simp [rmerge]] at this; exact this, by have := HS.out.len; simp at this ⊢; omega, HB8.out, rfl, hZl⟩
          have HST := Lib.hid hst
          have hm : lenOfV (.slice a1 0 k1) + lenOfV (Z) < lenOfV (.slice a1 0 k1) + lenOfV (.slice a2 N2 k2) := by rw [hZl]; show 0 + C'.length < 0 + N2; omega
          clear hst
          go_simp
          go_wp2
          exact ⟨⟨_, _, _, _, _, _, rfl, rfl, rfl, HST⟩, hm⟩
    | cons x A' =>
      cases C with
      | nil =>
        obtain ⟨a1, k1, b1, o1, e1, hix1, hlt1, c0, c1, Y, hY, hYg, hYl⟩ := HS.out.ga.head
        subst e1
        obtain ⟨N1, hN1⟩ : ∃ N, A'.length + 1 = N := ⟨_, rfl⟩
        rw [hN1] at hix1 hY HLA HS ⊢
        rw [← HB.out.cell (by exact hlt1)] at c0 c1
        have hn1 : 0 < N1 := by omega
        have hn1b : ((N1 : Int) == 0) = false := by simp; omega
        obtain ⟨xt, xu⟩ := x
        simp only at c0 c1

        obtain ⟨a2, k2, e2⟩ := HS.out.gb.shape
        subst e2
        rw [List.length_nil] at HLB HS ⊢
        have r1 := fun d os => cell_regrown c0 d os
        go_upto_region 7 with fail
        refine wp_region_quiet_below (by kernel_rfl) (by kernel_rfl) ?_
        repeat (go_big_quiet_step ((fail)))
        refine wpQuiet_nil ?_
        intro _ hw'
        obtain ⟨⟨dq, osq⟩, hw''⟩ := hw'
        subst hw''
        have HB2 := below_regrown wr dq osq
        obtain ⟨W2, hwq⟩ : ∃ x, x = grow (redrawn wr dq) osq := ⟨_, rfl⟩
        rw [← hwq] at HB2 ⊢
        clear hwq

        have HBW2 := Lib.hid (HB.out.trans (HB2.mono HB.out.size))
        have HGOW2 := Lib.hid (HS.out.go.below HB2)
        rw [← HB2.cell (World.block_lt_of_cell? _ _ c0)] at c0
        rw [← HB2.cell (World.block_lt_of_cell? _ _ c1)] at c1
        clear r1 HB2

        have V1 : Hid (Below W2.heap.size W2 ((W2.alloc (.cells #[.int .i64 xt, .int .i64 xu] 29)).drew)) := by show Below _ _ _; exact bw_dr (bw_al (Below.refl _ _) _)
        have B1 : Hid (Below w.heap.size w ((W2.alloc (.cells #[.int .i64 xt, .int .i64 xu] 29)).drew)) := HBW2.out.trans (V1.out.mono HBW2.out.size)
        have G1 : Hid (Gw 2 csR ((W2.alloc (.cells #[.int .i64 xt, .int .i64 xu] 29)).drew) w.heap.size 29 (.slice pv O.length pcv) O) := (HGOW2.out).below V1.out
        have L1 : Hid (Gs 2 csR ((W2.alloc (.cells #[.int .i64 xt, .int .i64 xu] 29)).drew) (.slice (some ⟨W2.heap.size, 0, none⟩) 1 1) [((xt, xu) : RT)]) := (gw_lit layR W2 29 #[.int .i64 xt, .int .i64 xu] [((xt, xu) : RT)] 1 rfl (by decide) rfl).gs.below (bw_dr (Below.refl _ _))
        have S1 : Hid ((O.length + [((xt, xu) : RT)].length) * 16 ≤ 140737488355328) := by show _ ≤ _; simp; omega
        have S2 : Hid (O.length + [((xt, xu) : RT)].length ≤ 9223372036854775807) := by show _ ≤ _; simp; omega
        go_upto_region 8 with fail
        go_region_law (refine step_append_row layR G1.out L1.out elR S1.out S2.out B1.out.size ?_ _ _ rfl rfl rfl rfl; intro v8 w8 hg8 hb8 _; have H8 := Lib.hid hg8; have HB8 := Lib.hid (B1.out.trans hb8); clear hg8 hb8)

        all_goals
          have hst : MSt w a b A' [] (O ++ [((xt, xu) : RT)]) w8 (Y) (.slice a2 0 k2) v8 := ⟨hYg, HS.out.gb, H8.out, by rw [List.append_assoc]; have := HS.out.eq; rw [show rmerge ((xt, xu) :: A') [] = (xt, xu) :: rmerge A' [] by rw [rmerge_nil, rmerge_nil]] at this; exact this, by have := HS.out.len; simp at this ⊢; omega, HB8.out, hYl, rfl⟩
          have HST := Lib.hid hst
          have hm : lenOfV (Y) + lenOfV (.slice a2 0 k2) < lenOfV (.slice a1 N1 k1) + lenOfV (.slice a2 0 k2) := by rw [hYl]; show A'.length + 0 < N1 + 0; omega
          clear hst
          go_simp
          go_wp2
          exact ⟨⟨_, _, _, _, _, _, rfl, rfl, rfl, HST⟩, hm⟩
      | cons y C' =>
        obtain ⟨a1, k1, b1, o1, e1, hix1, hlt1, c0, c1, Y, hY, hYg, hYl⟩ := HS.out.ga.head
        subst e1
        obtain ⟨N1, hN1⟩ : ∃ N, A'.length + 1 = N := ⟨_, rfl⟩
        rw [hN1] at hix1 hY HLA HS ⊢
        rw [← HB.out.cell (by exact hlt1)] at c0 c1
        have hn1 : 0 < N1 := by omega
        have hn1b : ((N1 : Int) == 0) = false := by simp; omega
        obtain ⟨xt, xu⟩ := x
        simp only at c0 c1

        obtain ⟨a2, k2, b2, o2, e2, hix2, hlt2, d0, d1, Z, hZ, hZg, hZl⟩ := HS.out.gb.head
        subst e2
        obtain ⟨N2, hN2⟩ : ∃ N, C'.length + 1 = N := ⟨_, rfl⟩
        rw [hN2] at hix2 hZ HLB HS ⊢
        rw [← HB.out.cell (by exact hlt2)] at d0 d1
        have hn2 : 0 < N2 := by omega
        have hn2b : ((N2 : Int) == 0) = false := by simp; omega
        obtain ⟨yt, yu⟩ := y
        simp only at d0 d1
        have r1 := fun d os => cell_regrown c0 d os
        have r3 := fun d os => cell_regrown d0 d os
        by_cases hlt : xt < yt
        · skip
          go_upto_region 7 with fail
          refine wp_region_quiet_below (by kernel_rfl) (by kernel_rfl) ?_
          repeat (go_big_quiet_step ((fail)))
          refine wpQuiet_nil ?_
          intro _ hw'
          obtain ⟨⟨dq, osq⟩, hw''⟩ := hw'
          subst hw''
          have HB2 := below_regrown wr dq osq
          obtain ⟨W2, hwq⟩ : ∃ x, x = grow (redrawn wr dq) osq := ⟨_, rfl⟩
          rw [← hwq] at HB2 ⊢
          clear hwq

          have HBW2 := Lib.hid (HB.out.trans (HB2.mono HB.out.size))
          have HGOW2 := Lib.hid (HS.out.go.below HB2)
          rw [← HB2.cell (World.block_lt_of_cell? _ _ c0)] at c0
          rw [← HB2.cell (World.block_lt_of_cell? _ _ c1)] at c1
          clear r1 r3 HB2

          have V1 : Hid (Below W2.heap.size W2 ((W2.alloc (.cells #[.int .i64 xt, .int .i64 xu] 29)).drew)) := by show Below _ _ _; exact bw_dr (bw_al (Below.refl _ _) _)
          have B1 : Hid (Below w.heap.size w ((W2.alloc (.cells #[.int .i64 xt, .int .i64 xu] 29)).drew)) := HBW2.out.trans (V1.out.mono HBW2.out.size)
          have G1 : Hid (Gw 2 csR ((W2.alloc (.cells #[.int .i64 xt, .int .i64 xu] 29)).drew) w.heap.size 29 (.slice pv O.length pcv) O) := (HGOW2.out).below V1.out
          have L1 : Hid (Gs 2 csR ((W2.alloc (.cells #[.int .i64 xt, .int .i64 xu] 29)).drew) (.slice (some ⟨W2.heap.size, 0, none⟩) 1 1) [((xt, xu) : RT)]) := (gw_lit layR W2 29 #[.int .i64 xt, .int .i64 xu] [((xt, xu) : RT)] 1 rfl (by decide) rfl).gs.below (bw_dr (Below.refl _ _))
          have S1 : Hid ((O.length + [((xt, xu) : RT)].length) * 16 ≤ 140737488355328) := by show _ ≤ _; simp; omega
          have S2 : Hid (O.length + [((xt, xu) : RT)].length ≤ 9223372036854775807) := by show _ ≤ _; simp; omega
          go_upto_region 8 with fail
          go_region_law (refine step_append_row layR G1.out L1.out elR S1.out S2.out B1.out.size ?_ _ _ rfl rfl rfl rfl; intro v8 w8 hg8 hb8 _; have H8 := Lib.hid hg8; have HB8 := Lib.hid (B1.out.trans hb8); clear hg8 hb8)

          all_goals
            have hst : MSt w a b A' ((yt, yu) :: C') (O ++ [((xt, xu) : RT)]) w8 (Y) (.slice a2 N2 k2) v8 := ⟨hYg, HS.out.gb, H8.out, by rw [List.append_assoc]; have := HS.out.eq; rw [rmerge_lt (x := (xt, xu)) (y := (yt, yu)) hlt] at this; exact this, by have := HS.out.len; simp at this ⊢; omega, HB8.out, hYl, HLB.out⟩
            have HST := Lib.hid hst
            have hm : lenOfV (Y) + lenOfV (.slice a2 N2 k2) < lenOfV (.slice a1 N1 k1) + lenOfV (.slice a2 N2 k2) := by rw [hYl]; show A'.length + N2 < N1 + N2; omega
            clear hst
            go_simp
            go_wp2
            exact ⟨⟨_, _, _, _, _, _, rfl, rfl, rfl, HST⟩, hm⟩
        · by_cases hgt : yt < xt
          · skip
            have hng : ¬ xt < yt := by omega
            go_upto_region 7 with fail
            refine wp_region_quiet_below (by kernel_rfl) (by kernel_rfl) ?_
            repeat (go_big_quiet_step ((fail)))
            refine wpQuiet_nil ?_
            intro _ hw'
            obtain ⟨⟨dq, osq⟩, hw''⟩ := hw'
            subst hw''
            have HB2 := below_regrown wr dq osq
            obtain ⟨W2, hwq⟩ : ∃ x, x = grow (redrawn wr dq) osq := ⟨_, rfl⟩
            rw [← hwq] at HB2 ⊢
            clear hwq
            rw [← HB2.cell (World.block_lt_of_cell? _ _ c0)] at c0
            rw [← HB2.cell (World.block_lt_of_cell? _ _ c1)] at c1
            rw [← HB2.cell (World.block_lt_of_cell? _ _ d0)] at d0
            rw [← HB2.cell (World.block_lt_of_cell? _ _ d1)] at d1
            clear r1 r3
            have r1 := fun d os => cell_regrown c0 d os
            have r3 := fun d os => cell_regrown d0 d os
            go_upto_region 9 with fail

            refine wp_region_quiet_below (by kernel_rfl) (by kernel_rfl) ?_
            repeat (go_big_quiet_step ((fail)))
            refine wpQuiet_nil ?_
            intro _ hw'
            obtain ⟨⟨dq, osq⟩, hw''⟩ := hw'
            subst hw''
            have HB3' := below_regrown W2 dq osq
            obtain ⟨W3, hwq⟩ : ∃ x, x = grow (redrawn W2 dq) osq := ⟨_, rfl⟩
            rw [← hwq] at HB3' ⊢
            clear hwq
            have hb23 := HB2.trans (HB3'.mono HB2.size)
            have HBW3 := Lib.hid (HB.out.trans (hb23.mono HB.out.size))
            have HGOW3 := Lib.hid (HS.out.go.below hb23)
            rw [← HB3'.cell (World.block_lt_of_cell? _ _ d0)] at d0
            rw [← HB3'.cell (World.block_lt_of_cell? _ _ d1)] at d1
            clear r1 r3 HB2 HB3' hb23

            have V1 : Hid (Below W3.heap.size W3 ((W3.alloc (.cells #[.int .i64 yt, .int .i64 yu] 29)).drew)) := by show Below _ _ _; exact bw_dr (bw_al (Below.refl _ _) _)
            have B1 : Hid (Below w.heap.size w ((W3.alloc (.cells #[.int .i64 yt, .int .i64 yu] 29)).drew)) := HBW3.out.trans (V1.out.mono HBW3.out.size)
            have G1 : Hid (Gw 2 csR ((W3.alloc (.cells #[.int .i64 yt, .int .i64 yu] 29)).drew) w.heap.size 29 (.slice pv O.length pcv) O) := (HGOW3.out).below V1.out
            have L1 : Hid (Gs 2 csR ((W3.alloc (.cells #[.int .i64 yt, .int .i64 yu] 29)).drew) (.slice (some ⟨W3.heap.size, 0, none⟩) 1 1) [((yt, yu) : RT)]) := (gw_lit layR W3 29 #[.int .i64 yt, .int .i64 yu] [((yt, yu) : RT)] 1 rfl (by decide) rfl).gs.below (bw_dr (Below.refl _ _))
            have S1 : Hid ((O.length + [((yt, yu) : RT)].length) * 16 ≤ 140737488355328) := by show _ ≤ _; simp; omega
            have S2 : Hid (O.length + [((yt, yu) : RT)].length ≤ 9223372036854775807) := by show _ ≤ _; simp; omega
            go_upto_region 10 with fail
            go_region_law (refine step_append_row layR G1.out L1.out elR S1.out S2.out B1.out.size ?_ _ _ rfl rfl rfl rfl; intro v8 w8 hg8 hb8 _; have H8 := Lib.hid hg8; have HB8 := Lib.hid (B1.out.trans hb8); clear hg8 hb8)

            all_goals
              have hst : MSt w a b ((xt, xu) :: A') C' (O ++ [((yt, yu) : RT)]) w8 (.slice a1 N1 k1) (Z) v8 := ⟨HS.out.ga, hZg, H8.out, by rw [List.append_assoc]; have := HS.out.eq; rw [rmerge_gt (x := (xt, xu)) (y := (yt, yu)) hgt] at this; exact this, by have := HS.out.len; simp at this ⊢; omega, HB8.out, HLA.out, hZl⟩
              have HST := Lib.hid hst
              have hm : lenOfV (.slice a1 N1 k1) + lenOfV (Z) < lenOfV (.slice a1 N1 k1) + lenOfV (.slice a2 N2 k2) := by rw [hZl]; show N1 + C'.length < N1 + N2; omega
              clear hst
              go_simp
              go_wp2
              exact ⟨⟨_, _, _, _, _, _, rfl, rfl, rfl, HST⟩, hm⟩
          · skip
            have hng : ¬ xt < yt := by omega
            have hng2 : ¬ yt < xt := by omega
            obtain ⟨mx, hmx⟩ : ∃ z, (if xu < yu then yu else xu) = z := ⟨_, rfl⟩
            have HMX : Hid (mx = max xu yu) := by show _ = _; rw [← hmx]; split <;> omega
            go_upto_region 7 with fail
            refine wp_region_quiet_below (by kernel_rfl) (by kernel_rfl) ?_
            repeat (go_big_quiet_step ((fail)))
            refine wpQuiet_nil ?_
            intro _ hw'
            obtain ⟨⟨dq, osq⟩, hw''⟩ := hw'
            subst hw''
            have HB2 := below_regrown wr dq osq
            obtain ⟨W2, hwq⟩ : ∃ x, x = grow (redrawn wr dq) osq := ⟨_, rfl⟩
            rw [← hwq] at HB2 ⊢
            clear hwq
            rw [← HB2.cell (World.block_lt_of_cell? _ _ c0)] at c0
            rw [← HB2.cell (World.block_lt_of_cell? _ _ c1)] at c1
            rw [← HB2.cell (World.block_lt_of_cell? _ _ d0)] at d0
            rw [← HB2.cell (World.block_lt_of_cell? _ _ d1)] at d1
            clear r1 r3
            have r1 := fun d os => cell_regrown c0 d os
            have r3 := fun d os => cell_regrown d0 d os

            go_upto_region 9 with fail
            refine wp_region_quiet_below (by kernel_rfl) (by kernel_rfl) ?_
            repeat (go_big_quiet_step ((fail)))
            refine wpQuiet_nil ?_
            intro _ hw'
            obtain ⟨⟨dq, osq⟩, hw''⟩ := hw'
            subst hw''
            have HB3' := below_regrown W2 dq osq
            obtain ⟨W3, hwq⟩ : ∃ x, x = grow (redrawn W2 dq) osq := ⟨_, rfl⟩
            rw [← hwq] at HB3' ⊢
            clear hwq
            have hb23 := HB2.trans (HB3'.mono HB2.size)
            have HBW3 := Lib.hid (HB.out.trans (hb23.mono HB.out.size))
            have HGOW3 := Lib.hid (HS.out.go.below hb23)
            rw [← HB3'.cell (World.block_lt_of_cell? _ _ c0)] at c0
            rw [← HB3'.cell (World.block_lt_of_cell? _ _ c1)] at c1
            rw [← HB3'.cell (World.block_lt_of_cell? _ _ d0)] at d0
            rw [← HB3'.cell (World.block_lt_of_cell? _ _ d1)] at d1
            clear r1 r3 HB2 HB3' hb23

            have V1 : Hid (Below W3.heap.size W3 ((W3.alloc (.cells #[.int .i64 xt, .int .i64 mx] 29)).drew)) := by show Below _ _ _; exact bw_dr (bw_al (Below.refl _ _) _)
            have B1 : Hid (Below w.heap.size w ((W3.alloc (.cells #[.int .i64 xt, .int .i64 mx] 29)).drew)) := HBW3.out.trans (V1.out.mono HBW3.out.size)
            have G1 : Hid (Gw 2 csR ((W3.alloc (.cells #[.int .i64 xt, .int .i64 mx] 29)).drew) w.heap.size 29 (.slice pv O.length pcv) O) := (HGOW3.out).below V1.out
            have L1 : Hid (Gs 2 csR ((W3.alloc (.cells #[.int .i64 xt, .int .i64 mx] 29)).drew) (.slice (some ⟨W3.heap.size, 0, none⟩) 1 1) [((xt, mx) : RT)]) := (gw_lit layR W3 29 #[.int .i64 xt, .int .i64 mx] [((xt, mx) : RT)] 1 rfl (by decide) rfl).gs.below (bw_dr (Below.refl _ _))
            have S1 : Hid ((O.length + [((xt, mx) : RT)].length) * 16 ≤ 140737488355328) := by show _ ≤ _; simp; omega
            have S2 : Hid (O.length + [((xt, mx) : RT)].length ≤ 9223372036854775807) := by show _ ≤ _; simp; omega
            go_upto_region 5 with fail
            go_cut [6] (fun s6 wx => ∃ b6, b6 = s6 ∧ Hid (Gw 2 csR wx w.heap.size 29 b6 (O ++ [((xt, mx) : RT)])) ∧ Hid (Below w.heap.size w wx))
            case first =>
              go_region_law (refine step_append_row layR G1.out L1.out elR S1.out S2.out B1.out.size ?_ _ _ rfl rfl rfl rfl; intro v8 w8 hg8 hb8 _; have H8 := Lib.hid hg8; have HB8 := Lib.hid (B1.out.trans hb8); clear hg8 hb8)

              all_goals
                go_simp
                go_wp2
                go_meet
                case rel => exact ⟨_, rfl, H8, HB8⟩
            case rest =>
              obtain ⟨b6, rfl, H8, HB8⟩ := hcut
              have HEQ : Hid (rmerge ((xt, xu) :: A') ((yt, yu) :: C') = (xt, mx) :: rmerge A' C') := by show _ = _; rw [rmerge_eq (x := (xt, xu)) (y := (yt, yu)) (by show xt = yt; omega), HMX.out]
              clear c0 c1 d0 d1
              go_upto_region 6 with fail
              refine wp_region_quiet_below (by kernel_rfl) (by kernel_rfl) ?_
              repeat (go_big_quiet_step ((fail)))
              refine wpQuiet_nil ?_
              intro _ hw'
              obtain ⟨⟨dq, osq⟩, hw''⟩ := hw'
              subst hw''
              have HB9 := below_regrown wc dq osq
              obtain ⟨W9, hwq⟩ : ∃ x, x = grow (redrawn wc dq) osq := ⟨_, rfl⟩
              rw [← hwq] at HB9 ⊢
              clear hwq
              have hst : MSt w a b A' C' (O ++ [((xt, mx) : RT)]) W9 Y Z b6 := ⟨hYg, hZg, H8.out.below HB9, by rw [List.append_assoc]; have := HS.out.eq; rw [HEQ.out] at this; exact this, by have := HS.out.len; simp at this ⊢; omega, HB8.out.trans (HB9.mono HB8.out.size), hYl, hZl⟩
              have HST := Lib.hid hst
              have hm : lenOfV Y + lenOfV Z < lenOfV (.slice a1 N1 k1) + lenOfV (.slice a2 N2 k2) := by rw [hYl, hZl]; show A'.length + C'.length < N1 + N2; omega
              clear hst
              go_wp2
              go_roundw
              case rel => exact ⟨_, _, _, _, _, _, rfl, rfl, rfl, HST⟩
              case measure => exact hm

end Go.Proofs.Ytjnbdeopoohnmaa
