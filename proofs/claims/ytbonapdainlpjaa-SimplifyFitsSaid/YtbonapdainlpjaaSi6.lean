/- Layer 53 (simplify): the walks of Simplify, To on both sides; the example. -/
import Derived.Test.YtbonapdainlpjaaSi5
import Derived.Deep.RegionHeld3
import Derived.Deep.CutBlock
import Derived.Deep.RegionLaw
import Derived.Lib.QuietBelow
import Derived.Lib.SliceRun
set_option linter.unusedSimpArgs false
set_option linter.unusedVariables false
namespace Go.Proofs.Ytbonapdainlpjaa
open Go.RowKit Go.Sort

noncomputable def simE (l : List Smp) (bad : Bool) : Nat := if smayE l ≠ 0 then smayE l else if bad = true then 2 else 0
noncomputable def simL (l m : List Smp) (bad : Bool) : List Smp := if simE l bad = 0 then m else []
theorem smayE_len {l : List Smp} (h : smayE l = 0) : l.length ≤ 2048 := by
  by_cases hl : 2048 < l.length
  · rw [smayE_3 hl] at h; cases h
  · omega
def SimPost (l m : List Smp) (bad : Bool) (w : World) (e : Ending) (w' : World) : Prop :=
  ∃ v', e = .returned (.tuple #[v', .int .i64 (simE l bad : Nat)]) ∧ Gw 3 Smp.cells w' w.heap.size 30 v' (simL l m bad) ∧ Below w.heap.size w w'

set_option maxRecDepth 100000 in
set_option maxHeartbeats 1600000 in
theorem simplify_any (v : Value) (l : List Smp) (limit : Int) (w : World) (h : Ss w v l) :
    Calls Try.prog 16 #[v, .int .i64 limit] w (SimPost l (sdrop (soS limit) l) (decide (limit < 0)) w) := by
  have HV := Lib.hid h
  obtain ⟨w1, hw1⟩ : ∃ W, w.alloc (.cells #[.int .i64 limit] 3) = W := ⟨_, rfl⟩
  have hb1 : Below w.heap.size w w1 := by rw [← hw1]; exact (Below.refl _ _).alloc (Nat.le_refl _) _
  have hc1 : w1.cell? ⟨w.heap.size, 0, none⟩ = some (.int .i64 limit) := by rw [← hw1]; exact cell_of_row _ _ 0 _ _ _ (heap_alloc_new _ _)
  have hlt : w.heap.size < w1.heap.size := by rw [← hw1]; simp
  have HC : Hid (∀ W, Below w1.heap.size w1 W → W.cell? ⟨w.heap.size, 0, none⟩ = some (.int .i64 limit)) := fun W hW => by rw [hW.cell hlt]; exact hc1
  obtain ⟨g, hg⟩ : ∃ g, w.heap.size = g := ⟨_, rfl⟩
  rw [hg] at HC hlt
  have HG := Lib.hid hg
  have HB1 := Lib.hid hb1
  have HWW := Lib.hid hw1
  have HM := Lib.hid (simay_any v l w1 (h.below hb1))
  clear h hb1 hc1 hg hw1
  obtain ⟨me, hme⟩ : ∃ m, smayE l = m := ⟨_, rfl⟩
  rw [hme] at HM
  have HE := Lib.hid hme
  go_enter Try.func16, Try.ntmps16
  go_upto_region 1 with fail
  rw [HWW.out, HG.out]
  by_cases hz : me = 0
  · subst hz
    have hll := smayE_len hme
    by_cases hneg : limit < 0
    · have HF : Hid (simE l (decide (limit < 0)) = 2) := by show simE _ _ = 2; unfold simE; rw [hme]; simp [hneg]
      clear hme
      go_upto_region 4 with (go_at_call 79; refine HM.out.mono ?_; rintro e w2 ⟨rfl, hb2⟩; have HB2 := Lib.hid hb2; clear hb2)
      have hc2 := HC.out _ HB2.out
      go_wp2
      go_ret2
      refine ⟨.slice none 0 0, ?_, ?_, HB1.out.trans (HB2.out.mono HB1.out.size)⟩
      · rw [HF.out]; rfl
      · unfold simL; rw [HF.out]; exact Gw.nil _ _ _
    · have HF : Hid (simE l (decide (limit < 0)) = 0) := by show simE _ _ = 0; unfold simE; rw [hme]; simp [hneg]
      clear hme
      go_upto_region 4 with (go_at_call 79; refine HM.out.mono ?_; rintro e w2 ⟨rfl, hb2⟩; have HB2 := Lib.hid hb2; clear hb2)
      have hc2 := HC.out _ HB2.out
      have HD := Lib.hid (dropS_any v l limit g w2 ((HV.out.below HB1.out).below HB2.out) (by omega) hc2)
      go_wp2_with (go_at_call 80; refine HD.out.mono ?_; rintro e w3 ⟨v3, rfl, hg3, hb3⟩; have HG3 := Lib.hid hg3; have HB3 := Lib.hid hb3; clear hg3 hb3)
      go_ret2
      have h12 := HB1.out.trans (HB2.out.mono HB1.out.size)
      refine ⟨v3, ?_, ?_, h12.trans (HB3.out.mono h12.size)⟩
      · rw [HF.out]; rfl
      · unfold simL; rw [HF.out, if_pos rfl]; exact HG3.out.mono h12.size
  · have HF : Hid (simE l (decide (limit < 0)) = me) := by show simE _ _ = me; unfold simE; rw [hme, if_pos hz]
    have hne : ((me : Int) != 0) = true := by simp; omega
    have HZ := Lib.hid hz
    clear hme hz
    go_wp2_with (go_at_call 79; refine HM.out.mono ?_; rintro e w2 ⟨rfl, hb2⟩; have HB2 := Lib.hid hb2; clear hb2)
    go_ret2
    refine ⟨.slice none 0 0, ?_, ?_, HB1.out.trans (HB2.out.mono HB1.out.size)⟩
    · rw [HF.out]; rfl
    · unfold simL; rw [HF.out, if_neg HZ.out]; exact Gw.nil _ _ _

set_option maxRecDepth 100000 in
set_option maxHeartbeats 3200000 in
theorem wsimplify_any (v : Value) (l : List Smp) (limit : Int) (w : World) (h : Ss w v l) (hlen : l.length ≤ 1000000) :
    Calls Try.prog 22 #[v, .int .i64 limit] w fun e w' => ∃ v', e = .returned v' ∧ Ss w' v' (sdrop (soS limit) l) ∧ Below w.heap.size w w' := by
  have HV := Lib.hid h
  have hL0 : lenOf v = l.length := by obtain ⟨a, c, he⟩ := Ss.shape h; rw [he]; rfl
  have HL0 := Lib.hid hL0
  clear h hL0
  go_enter Try.func22, Try.ntmps22
  go_wp2_with fail
  go_loopw [0] (fun v0 wr => ∃ (y : Value) (l' : List Smp), y = v0 ∧ l'.length ≤ 1000000 ∧ Hid (lenOf y = l'.length) ∧ Hid (Ss wr y l') ∧ Hid (sdrop (soS limit) l' = sdrop (soS limit) l) ∧ Hid (Below w.heap.size w wr)) (fun v0 _ => lenOf v0)
  case atStart => exact ⟨_, l, rfl, hlen, HL0, HV, rfl, Below.refl _ _⟩
  case round =>
    obtain ⟨y, l', rfl, hl', HLN, HS, HSD, HB⟩ := hrel
    have HSS := Lib.hid HS.out
    obtain ⟨n, hn⟩ : ∃ n, l'.length = n := ⟨_, rfl⟩
    obtain ⟨a, ca, b1, o1, rfl, ha1, ha2, ha3, ha4, ha5⟩ := Ss.open_n elS HS.out n hn
    have HLST := Lib.hid (wleast_any _ l' wr HS.out)
    have HN := Lib.hid hn
    have X := Lib.hid ha3
    have C : Hid (∀ W, Below wr.heap.size wr W → ∀ i s, l'[i]? = some s → W.cell? ⟨b1, o1 i, none⟩ = some (.int .i64 s.t) ∧ W.cell? ⟨b1, o1 i + 1, none⟩ = some (.int .i64 s.x) ∧ W.cell? ⟨b1, o1 i + 2, none⟩ = some (.int .i64 s.y)) := by
      intro W hW i s hs
      have hi : i < n := by rw [← hn]; exact (List.getElem?_eq_some_iff.1 hs).1
      obtain ⟨h1, h2, h3⟩ := ha5 i s hs
      exact ⟨(hW.cell (ha4 i hi)).trans h1, (hW.cell (by exact ha4 i hi)).trans h2, (hW.cell (by exact ha4 i hi)).trans h3⟩
    clear ha3 ha4 ha5
    rcases hst : sleast l' with _ | ⟨j, u⟩
    · rw [hst] at HLST
      have HFIN : Hid (sdrop (soS limit) l = l') := by rw [← HSD.out]; exact sdrop_none hst
      unfold pat at HLST
      dsimp only at HLST
      rw [show ((0 : Nat) : Int) = 0 from rfl] at HLST
      clear hst
      go_upto_region 2 with (go_at_call 86; refine HLST.out.mono ?_; rintro e w3 ⟨rfl, hb3⟩; have HB3 := Lib.hid hb3; clear hb3)
      go_quiet (fail)
      have hbn : Below wr.heap.size wr (w3.drewN nq) := below_drewN HB3.out _
      go_wp2
      go_ret
      exact ⟨_, rfl, by rw [HFIN.out]; exact HSS.out.below hbn, HB.out.trans (hbn.mono HB.out.size)⟩
    · rw [hst] at HLST
      unfold pat at HLST
      dsimp only at HLST
      have HST := Lib.hid hst
      obtain ⟨hj1, hj2, hju⟩ := sleast_in hst
      clear hst
      obtain ⟨i, rfl⟩ : ∃ i, j = i + 1 := ⟨j - 1, by omega⟩
      obtain ⟨s3, hs3⟩ : ∃ s, l'[i]? = some s := ⟨_, List.getElem?_eq_getElem (by omega)⟩
      obtain ⟨s4, hs4⟩ : ∃ s, l'[i + 1]? = some s := ⟨_, List.getElem?_eq_getElem (by omega)⟩
      obtain ⟨s5, hs5⟩ : ∃ s, l'[i + 2]? = some s := ⟨_, List.getElem?_eq_getElem (by omega)⟩
      have y0 := fun W => X.out W (((i + 1 : Nat) : Int) - 1) (by omega) (by omega)
      have y1 := fun W => X.out W ((i + 1 : Nat) : Int) (by omega) (by omega)
      have y2 := fun W => X.out W (((i + 1 : Nat) : Int) + 1) (by omega) (by omega)
      rw [show (((i + 1 : Nat) : Int) - 1).toNat = i by omega] at y0
      rw [show (((i + 1 : Nat) : Int)).toNat = i + 1 by omega] at y1
      rw [show (((i + 1 : Nat) : Int) + 1).toNat = i + 2 by omega] at y2
      have hi1 : i + 1 < n := by omega
      have HI := Lib.hid hi1
      rw [areaAt_is hs3 hs4 hs5] at hju
      have ej : (((i + 1 : Nat) : Int) == 0) = false := by simp; omega
      obtain ⟨J, hJ⟩ : ∃ J : Int, ((i + 1 : Nat) : Int) = J := ⟨_, rfl⟩
      have hJb : 1 ≤ J ∧ J ≤ 1000000 := by omega
      rw [hJ] at y0 y1 y2 ej HLST
      have HJJ := Lib.hid hJ
      have AR2 := Lib.hid (warea_any s3 s4 s5)
      rw [← hju] at AR2
      clear hJ hj1 hj2 hju hn
      go_upto_region 2 with (go_at_call 86; refine HLST.out.mono ?_; rintro e w3 ⟨rfl, hb3⟩; have HB3 := Lib.hid hb3; clear hb3)
      obtain ⟨p0, p1, p2⟩ := C.out _ HB3.out _ _ hs3
      obtain ⟨p3, p4, p5⟩ := C.out _ HB3.out _ _ hs4
      obtain ⟨p6, p7, p8⟩ := C.out _ HB3.out _ _ hs5
      have g0 := fun d os => cell_regrown p0 d os
      have g1 := fun d os => cell_regrown p1 d os
      have g2 := fun d os => cell_regrown p2 d os
      have g3 := fun d os => cell_regrown p3 d os
      have g4 := fun d os => cell_regrown p4 d os
      have g5 := fun d os => cell_regrown p5 d os
      have g6 := fun d os => cell_regrown p6 d os
      have g7 := fun d os => cell_regrown p7 d os
      have g8 := fun d os => cell_regrown p8 d os
      obtain ⟨t3, x3', y3⟩ := s3
      obtain ⟨t4, x4', y4⟩ := s4
      obtain ⟨t5, x5', y5⟩ := s5
      dsimp only at g0 g1 g2 g3 g4 g5 g6 g7 g8 AR2
      clear p0 p1 p2 p3 p4 p5 p6 p7 p8 hs3 hs4 hs5
      refine wp_region_quiet_below (by kernel_rfl) (by kernel_rfl) ?_
      repeat (go_big_quiet_step ((go_at_call 20; with_reducible exact Calls.regrown_of (AR2.out _))))
      refine wpQuiet_nil ?_
      intro _ hw'
      obtain ⟨⟨dq, osq⟩, hw''⟩ := hw'
      subst hw''
      have hb2 := below_regrown w3 dq osq
      obtain ⟨W2, hwq⟩ : ∃ x, x = grow (redrawn w3 dq) osq := ⟨_, rfl⟩
      rw [← hwq] at hb2 ⊢
      clear hwq
      have HB2 := Lib.hid (HB3.out.trans (hb2.mono HB3.out.size))
      clear g0 g1 g2 g3 g4 g5 g6 g7 g8 hb2 y0 y1 y2
      have HBW := Lib.hid (HB.out.trans (HB2.out.mono HB.out.size))
      by_cases hu : u < limit
      · have hso : soS limit l'.length u = true := by simp [soS, hu]
        have HGO := Lib.hid ((sdrop_go HST.out hso).symm.trans HSD.out)
        have HEL := Lib.hid (List.length_eraseIdx_of_lt (l := l') (i := i + 1) (by rw [HN.out]; exact HI.out))
        clear hso
        rw [← HJJ.out]
        go_wp2_with (go_at_call 87; refine (wwithout_any _ l' (i + 1) _ (HSS.out.below HB2.out) hl').mono ?_; rintro e w5 ⟨v5, rfl, hg5, hb5⟩; have HB5 := Lib.hid (HBW.out.trans (hb5.mono HBW.out.size)); have HG5 := Lib.hid hg5.gs; clear hg5 hb5)
        go_roundw
        case rel =>
          refine ⟨_, _, rfl, by rw [HEL.out]; omega, ?_, HG5, HGO, HB5⟩
          obtain ⟨a5, c5, he⟩ := HG5.out.shape
          rw [he]; rfl
        case measure =>
          obtain ⟨a5, c5, he⟩ := HG5.out.shape
          rw [he]
          show (l'.eraseIdx (i + 1)).length < n
          rw [HEL.out, HN.out]
          have := HI.out
          omega
      · have hso : soS limit l'.length u = false := by simp [soS]; omega
        have HFIN : Hid (sdrop (soS limit) l = l') := by rw [← HSD.out]; exact sdrop_stop HST.out hso
        clear hso
        go_wp2
        go_ret
        exact ⟨_, rfl, by rw [HFIN.out]; exact HSS.out.below HB2.out, HBW.out⟩

set_option maxRecDepth 100000 in
set_option maxHeartbeats 1600000 in
theorem to_any (v : Value) (l : List Smp) (limit : Int) (w : World) (h : Ss w v l) :
    Calls Try.prog 17 #[v, .int .i64 limit] w (SimPost l (sdrop (soT limit) l) (decide (limit < 2)) w) := by
  have HV := Lib.hid h
  obtain ⟨w1, hw1⟩ : ∃ W, w.alloc (.cells #[.int .i64 limit] 3) = W := ⟨_, rfl⟩
  have hb1 : Below w.heap.size w w1 := by rw [← hw1]; exact (Below.refl _ _).alloc (Nat.le_refl _) _
  have hc1 : w1.cell? ⟨w.heap.size, 0, none⟩ = some (.int .i64 limit) := by rw [← hw1]; exact cell_of_row _ _ 0 _ _ _ (heap_alloc_new _ _)
  have hlt : w.heap.size < w1.heap.size := by rw [← hw1]; simp
  have HC : Hid (∀ W, Below w1.heap.size w1 W → W.cell? ⟨w.heap.size, 0, none⟩ = some (.int .i64 limit)) := fun W hW => by rw [hW.cell hlt]; exact hc1
  obtain ⟨g, hg⟩ : ∃ g, w.heap.size = g := ⟨_, rfl⟩
  rw [hg] at HC hlt
  have HG := Lib.hid hg
  have HB1 := Lib.hid hb1
  have HWW := Lib.hid hw1
  have HM := Lib.hid (simay_any v l w1 (h.below hb1))
  clear h hb1 hc1 hg hw1
  obtain ⟨me, hme⟩ : ∃ m, smayE l = m := ⟨_, rfl⟩
  rw [hme] at HM
  have HE := Lib.hid hme
  go_enter Try.func17, Try.ntmps17
  go_upto_region 1 with fail
  rw [HWW.out, HG.out]
  by_cases hz : me = 0
  · subst hz
    have hll := smayE_len hme
    by_cases hneg : limit < 2
    · have HF : Hid (simE l (decide (limit < 2)) = 2) := by show simE _ _ = 2; unfold simE; rw [hme]; simp [hneg]
      clear hme
      go_upto_region 4 with (go_at_call 79; refine HM.out.mono ?_; rintro e w2 ⟨rfl, hb2⟩; have HB2 := Lib.hid hb2; clear hb2)
      have hc2 := HC.out _ HB2.out
      go_wp2
      go_ret2
      refine ⟨.slice none 0 0, ?_, ?_, HB1.out.trans (HB2.out.mono HB1.out.size)⟩
      · rw [HF.out]; rfl
      · unfold simL; rw [HF.out]; exact Gw.nil _ _ _
    · have HF : Hid (simE l (decide (limit < 2)) = 0) := by show simE _ _ = 0; unfold simE; rw [hme]; simp [hneg]
      clear hme
      go_upto_region 4 with (go_at_call 79; refine HM.out.mono ?_; rintro e w2 ⟨rfl, hb2⟩; have HB2 := Lib.hid hb2; clear hb2)
      have hc2 := HC.out _ HB2.out
      have HD := Lib.hid (dropT_any v l limit g w2 ((HV.out.below HB1.out).below HB2.out) (by omega) hc2)
      go_wp2_with (go_at_call 80; refine HD.out.mono ?_; rintro e w3 ⟨v3, rfl, hg3, hb3⟩; have HG3 := Lib.hid hg3; have HB3 := Lib.hid hb3; clear hg3 hb3)
      go_ret2
      have h12 := HB1.out.trans (HB2.out.mono HB1.out.size)
      refine ⟨v3, ?_, ?_, h12.trans (HB3.out.mono h12.size)⟩
      · rw [HF.out]; rfl
      · unfold simL; rw [HF.out, if_pos rfl]; exact HG3.out.mono h12.size
  · have HF : Hid (simE l (decide (limit < 2)) = me) := by show simE _ _ = me; unfold simE; rw [hme, if_pos hz]
    have hne : ((me : Int) != 0) = true := by simp; omega
    have HZ := Lib.hid hz
    clear hme hz
    go_wp2_with (go_at_call 79; refine HM.out.mono ?_; rintro e w2 ⟨rfl, hb2⟩; have HB2 := Lib.hid hb2; clear hb2)
    go_ret2
    refine ⟨.slice none 0 0, ?_, ?_, HB1.out.trans (HB2.out.mono HB1.out.size)⟩
    · rw [HF.out]; rfl
    · unfold simL; rw [HF.out, if_neg HZ.out]; exact Gw.nil _ _ _

set_option maxRecDepth 100000 in
set_option maxHeartbeats 3200000 in
theorem wto_any (v : Value) (l : List Smp) (limit : Int) (w : World) (h : Ss w v l) (hlen : l.length ≤ 1000000) :
    Calls Try.prog 23 #[v, .int .i64 limit] w fun e w' => ∃ v', e = .returned v' ∧ Ss w' v' (sdrop (soT limit) l) ∧ Below w.heap.size w w' := by
  have HV := Lib.hid h
  have hL0 : lenOf v = l.length := by obtain ⟨a, c, he⟩ := Ss.shape h; rw [he]; rfl
  have HL0 := Lib.hid hL0
  clear h hL0
  go_enter Try.func23, Try.ntmps23
  go_wp2_with fail
  go_loopw [0] (fun v0 wr => ∃ (y : Value) (l' : List Smp), y = v0 ∧ l'.length ≤ 1000000 ∧ Hid (lenOf y = l'.length) ∧ Hid (Ss wr y l') ∧ Hid (sdrop (soT limit) l' = sdrop (soT limit) l) ∧ Hid (Below w.heap.size w wr)) (fun v0 _ => lenOf v0)
  case atStart => exact ⟨_, l, rfl, hlen, HL0, HV, rfl, Below.refl _ _⟩
  case round =>
    obtain ⟨y, l', rfl, hl', HLN, HS, HSD, HB⟩ := hrel
    have HSS := Lib.hid HS.out
    obtain ⟨n, hn⟩ : ∃ n, l'.length = n := ⟨_, rfl⟩
    obtain ⟨a, ca, b1, o1, rfl, ha1, ha2, ha3, ha4, ha5⟩ := Ss.open_n elS HS.out n hn
    have HLST := Lib.hid (wleast_any _ l' wr HS.out)
    have HN := Lib.hid hn
    have X := Lib.hid ha3
    have C : Hid (∀ W, Below wr.heap.size wr W → ∀ i s, l'[i]? = some s → W.cell? ⟨b1, o1 i, none⟩ = some (.int .i64 s.t) ∧ W.cell? ⟨b1, o1 i + 1, none⟩ = some (.int .i64 s.x) ∧ W.cell? ⟨b1, o1 i + 2, none⟩ = some (.int .i64 s.y)) := by
      intro W hW i s hs
      have hi : i < n := by rw [← hn]; exact (List.getElem?_eq_some_iff.1 hs).1
      obtain ⟨h1, h2, h3⟩ := ha5 i s hs
      exact ⟨(hW.cell (ha4 i hi)).trans h1, (hW.cell (by exact ha4 i hi)).trans h2, (hW.cell (by exact ha4 i hi)).trans h3⟩
    clear ha3 ha4 ha5
    by_cases hbig : limit < (n : Int)
    · rcases hst : sleast l' with _ | ⟨j, u⟩
      · rw [hst] at HLST
        have HFIN : Hid (sdrop (soT limit) l = l') := by rw [← HSD.out]; exact sdrop_none hst
        unfold pat at HLST
        dsimp only at HLST
        rw [show ((0 : Nat) : Int) = 0 from rfl] at HLST
        clear hst
        go_wp2_with (go_at_call 86; refine HLST.out.mono ?_; rintro e w3 ⟨rfl, hb3⟩; have HB3 := Lib.hid hb3; clear hb3)
        go_ret
        exact ⟨_, rfl, by rw [HFIN.out]; exact HSS.out.below HB3.out, HB.out.trans (HB3.out.mono HB.out.size)⟩
      · have HL2 : Hid (∀ X, Below wr.heap.size wr X → Calls Try.prog 86 #[.slice a n ca] X fun e w' => e = .returned (.int .i64 (j : Nat)) ∧ Below X.heap.size X w') := fun X hX => by
          have := wleast_any _ l' X (HSS.out.below hX)
          rw [hst] at this
          exact this
        obtain ⟨hj1, hj2, -⟩ := sleast_in hst
        have hso : soT limit l'.length u = true := by simp [soT, hn, hbig]
        have HGO := Lib.hid ((sdrop_go hst hso).symm.trans HSD.out)
        have HEL := Lib.hid (List.length_eraseIdx_of_lt (l := l') (i := j) (by omega))
        have hj0 : (0 : Int) < (j : Int) := by omega
        have HJN : Hid (j + 1 < n) := by show j + 1 < n; omega
        clear hst hso hj2
        go_upto_region 2 with (go_at_call 86; refine (HL2.out _ (Below.refl _ _)).mono ?_; rintro e w3 ⟨rfl, hb3⟩; have HB3 := Lib.hid hb3; clear hb3)
        go_wp2_with (first
          | (go_at_call 86; refine (HL2.out _ HB3.out).mono ?_; rintro e w4 ⟨rfl, hb4⟩; have HB4 := Lib.hid (HB3.out.trans (hb4.mono HB3.out.size)); clear hb4)
          | (go_at_call 87; refine (wwithout_any _ l' j _ (HSS.out.below HB4.out) hl').mono ?_; rintro e w5 ⟨v5, rfl, hg5, hb5⟩; have hb45 := HB4.out.trans (hb5.mono HB4.out.size); have HB5 := Lib.hid (HB.out.trans (hb45.mono HB.out.size)); have HG5 := Lib.hid hg5.gs; clear hg5 hb5 hb45))
        go_roundw
        case rel =>
          refine ⟨_, _, rfl, by rw [HEL.out]; omega, ?_, HG5, HGO, HB5⟩
          obtain ⟨a5, c5, he⟩ := HG5.out.shape
          rw [he]; rfl
        case measure =>
          obtain ⟨a5, c5, he⟩ := HG5.out.shape
          rw [he]
          show (l'.eraseIdx j).length < n
          rw [HEL.out, HN.out]
          have := HJN.out
          omega
    · have HFIN : Hid (sdrop (soT limit) l = l') := by
        rw [← HSD.out]
        rcases hst : sleast l' with _ | ⟨j, u⟩
        · exact sdrop_none hst
        · exact sdrop_stop hst (by simp [soT]; omega)
      go_wp2
      go_ret
      exact ⟨_, rfl, by rw [HFIN.out]; exact HSS.out, HB.out⟩

end Go.Proofs.Ytbonapdainlpjaa
