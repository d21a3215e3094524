/- Layer 53 (simplify): least, plain; the walks of least on both sides, slices.Clone at samples, without. -/
import Derived.Test.YtbonapdainlpjaaSi1
import Derived.Deep.RegionHeld3
import Derived.Deep.CutBlock
import Derived.Deep.RegionLaw
import Derived.Lib.QuietBelow
import Derived.Lib.SliceRun
set_option linter.unusedSimpArgs false
namespace Go.Proofs.Ytbonapdainlpjaa
open Go.RowKit Go.Sort

def areaAt (l : List Smp) (i : Nat) : Int :=
  match l[i - 1]?, l[i]?, l[i + 1]? with
  | some a, some b, some c => sarea a b c
  | _, _, _ => 0
/-- the first least one of the places 1 .. k, and its area -/
def lstep (st : Option (Nat × Int)) (i : Nat) (v : Int) : Option (Nat × Int) :=
  match st with
  | none => some (i, v)
  | some (j, u) => if v < u then some (i, v) else some (j, u)
def lp (l : List Smp) : Nat → Option (Nat × Int)
  | 0 => none
  | k + 1 => lstep (lp l k) (k + 1) (areaAt l (k + 1))
def sleast (l : List Smp) : Option (Nat × Int) := lp l (l.length - 2)
def pat : Option (Nat × Int) → Nat
  | none => 0
  | some (j, _) => j
def pval : Option (Nat × Int) → Int
  | none => 0
  | some (_, u) => u
def pok : Option (Nat × Int) → Bool
  | none => false
  | some _ => true
theorem lp_in {l : List Smp} : ∀ {k j : Nat} {u : Int}, lp l k = some (j, u) → 1 ≤ j ∧ j ≤ k ∧ u = areaAt l j
  | 0, j, u, h => by simp [lp] at h
  | k + 1, j, u, h => by
    unfold lp at h
    rcases hk : lp l k with _ | ⟨j', u'⟩
    · rw [hk] at h
      unfold lstep at h
      simp only [Option.some.injEq, Prod.mk.injEq] at h
      obtain ⟨rfl, rfl⟩ := h
      exact ⟨by omega, by omega, rfl⟩
    · rw [hk] at h
      unfold lstep at h
      simp only at h
      have ih := lp_in hk
      split at h
      · simp only [Option.some.injEq, Prod.mk.injEq] at h
        obtain ⟨rfl, rfl⟩ := h
        exact ⟨by omega, by omega, rfl⟩
      · simp only [Option.some.injEq, Prod.mk.injEq] at h
        obtain ⟨rfl, rfl⟩ := h
        exact ⟨ih.1, by omega, ih.2.2⟩
theorem lp_some {l : List Smp} (k : Nat) : ∃ j u, lp l (k + 1) = some (j, u) := by
  unfold lp lstep
  rcases lp l k with _ | ⟨j', u'⟩
  · exact ⟨_, _, rfl⟩
  · simp only
    split
    · exact ⟨_, _, rfl⟩
    · exact ⟨_, _, rfl⟩
theorem sleast_in {l : List Smp} {j : Nat} {u : Int} (h : sleast l = some (j, u)) : 1 ≤ j ∧ j + 1 < l.length ∧ u = areaAt l j := by
  have := lp_in h
  omega

theorem areaAt_is {l : List Smp} {i : Nat} {a b c : Smp} (ha : l[i]? = some a) (hb : l[i + 1]? = some b) (hc : l[i + 2]? = some c) : areaAt l (i + 1) = sarea a b c := by
  unfold areaAt
  rw [Nat.add_sub_cancel, ha, hb, hc]

set_option maxRecDepth 100000 in
set_option maxHeartbeats 3200000 in
theorem sileast_any (va : Value) (l : List Smp) (w : World) (ha : Ss w va l) :
    Calls Try.prog 111 #[va, .func (Fn.func 19) #[] #[]] w fun e w' => e = .returned (.tuple #[.int .i64 (pat (sleast l)), .int .i64 (pval (sleast l)), .bool (pok (sleast l))]) ∧ Below w.heap.size w w' := by
  obtain ⟨n, hn⟩ : ∃ n, l.length = n := ⟨_, rfl⟩
  obtain ⟨a, ca, b1, o1, rfl, ha1, ha2, ha3, ha4, ha5⟩ := Ss.open_n elS ha n hn
  clear ha
  have HN := Lib.hid hn
  have X := Lib.hid ha3
  have C : Hid (∀ W, Below w.heap.size w W → ∀ i s, l[i]? = some s → W.cell? ⟨b1, o1 i, none⟩ = some (.int .i64 s.t) ∧ W.cell? ⟨b1, o1 i + 1, none⟩ = some (.int .i64 s.x) ∧ W.cell? ⟨b1, o1 i + 2, none⟩ = some (.int .i64 s.y)) := by
    intro W hW i s hs
    have hi : i < n := by rw [← hn]; exact (List.getElem?_eq_some_iff.1 hs).1
    obtain ⟨h1, h2, h3⟩ := ha5 i s hs
    exact ⟨(hW.cell (ha4 i hi)).trans h1, (hW.cell (by exact ha4 i hi)).trans h2, (hW.cell (by exact ha4 i hi)).trans h3⟩
  clear hn ha3 ha4 ha5
  have hs : sleast l = lp l (n - 2) := by unfold sleast; rw [HN.out]
  rw [hs]
  have HS := Lib.hid hs
  clear hs
  go_enter Try.func111, Try.ntmps111
  go_wp2
  go_loopw [4, 5, 6, 7] (fun v4 v5 v6 v7 wr => ∃ k : Nat, (k = 0 ∨ k + 2 ≤ n) ∧ v7 = .int .i64 ((k : Int) + 1) ∧ v4 = .int .i64 (pat (lp l k)) ∧ v5 = .int .i64 (pval (lp l k)) ∧ v6 = .bool (pok (lp l k)) ∧ Hid (Below w.heap.size w wr)) (fun _ _ _ v7 _ => n + 1 - (intOf v7).toNat)
  case atStart => exact ⟨0, .inl rfl, rfl, rfl, rfl, rfl, Below.refl _ _⟩
  case round =>
    obtain ⟨k, hk, rfl, rfl, rfl, rfl, HB⟩ := hrel
    obtain ⟨st, hst⟩ : ∃ st, lp l k = st := ⟨_, rfl⟩
    rw [hst]
    have HST := Lib.hid hst
    clear hst
    by_cases hlt : k + 2 < n
    · have e1 : (k : Int) + 1 + 1 < n := by omega
      obtain ⟨s0, hs0⟩ : ∃ s, l[k]? = some s := ⟨_, List.getElem?_eq_getElem (by rw [HN.out]; omega)⟩
      obtain ⟨s1, hs1⟩ : ∃ s, l[k + 1]? = some s := ⟨_, List.getElem?_eq_getElem (by rw [HN.out]; omega)⟩
      obtain ⟨s2, hs2⟩ : ∃ s, l[k + 2]? = some s := ⟨_, List.getElem?_eq_getElem (by rw [HN.out]; omega)⟩
      obtain ⟨p0, p1, p2⟩ := C.out _ HB.out _ _ hs0
      obtain ⟨p3, p4, p5⟩ := C.out _ HB.out _ _ hs1
      obtain ⟨p6, p7, p8⟩ := C.out _ HB.out _ _ hs2
      have x0 := fun W => X.out W (k : Int) (by omega) (by omega)
      have x1 := fun W => X.out W ((k : Int) + 1) (by omega) (by omega)
      have x2 := fun W => X.out W ((k : Int) + 1 + 1) (by omega) (by omega)
      rw [show ((k : Int)).toNat = k by omega] at x0
      rw [show ((k : Int) + 1).toNat = k + 1 by omega] at x1
      rw [show ((k : Int) + 1 + 1).toNat = k + 2 by omega] at x2
      have HA : Hid (areaAt l (k + 1) = sarea s0 s1 s2) := areaAt_is hs0 hs1 hs2
      have HLP : Hid (lp l (k + 1) = lstep st (k + 1) (areaAt l (k + 1))) := by
        show lstep (lp l k) (k + 1) (areaAt l (k + 1)) = _
        rw [HST.out]
      rw [HA.out] at HLP
      have r0 := fun d os => cell_regrown p0 d os
      have r1 := fun d os => cell_regrown p1 d os
      have r2 := fun d os => cell_regrown p2 d os
      have r3 := fun d os => cell_regrown p3 d os
      have r4 := fun d os => cell_regrown p4 d os
      have r5 := fun d os => cell_regrown p5 d os
      have r6 := fun d os => cell_regrown p6 d os
      have r7 := fun d os => cell_regrown p7 d os
      have r8 := fun d os => cell_regrown p8 d os
      have AR := Lib.hid (area_any s0 s1 s2)
      obtain ⟨t0, x0', y0⟩ := s0
      obtain ⟨t1, x1', y1⟩ := s1
      obtain ⟨t2, x2', y2⟩ := s2
      dsimp only at r0 r1 r2 r3 r4 r5 r6 r7 r8 AR
      obtain ⟨ar, har⟩ : ∃ z, sarea ⟨t0, x0', y0⟩ ⟨t1, x1', y1⟩ ⟨t2, x2', y2⟩ = z := ⟨_, rfl⟩
      rw [har] at AR HLP
      clear p0 p1 p2 p3 p4 p5 p6 p7 p8 hs0 hs1 hs2 har HA
      go_upto_region 4 with fail
      refine wp_region_quiet_below (by kernel_rfl) (by kernel_rfl) ?_
      repeat (go_big_quiet_step ((go_at_call 19; with_reducible exact Calls.regrown_of (AR.out _))))
      refine wpQuiet_nil ?_
      intro _ hw'
      obtain ⟨⟨dq, osq⟩, hw''⟩ := hw'
      subst hw''
      have hb2 := below_regrown wr dq osq
      obtain ⟨W2, hwq⟩ : ∃ x, x = grow (redrawn wr dq) osq := ⟨_, rfl⟩
      rw [← hwq] at hb2 ⊢
      clear hwq
      have HB2 := Lib.hid (HB.out.trans (hb2.mono HB.out.size))
      clear r0 r1 r2 r3 r4 r5 r6 r7 r8 hb2 x0 x1 x2
      rcases st with _ | ⟨j, u⟩
      · have HN1 : Hid (lp l (k + 1) = some (k + 1, ar)) := HLP.out
        unfold pok
        go_wp2
        go_roundw
        case rel => exact ⟨k + 1, .inr (by omega), by go_num, by rw [HN1.out]; rfl, by rw [HN1.out]; rfl, by rw [HN1.out]; rfl, HB2⟩
        case measure => simp [intOf]; omega
      · unfold pok pval
        dsimp only
        by_cases hu : ar < u
        · have HN1 : Hid (lp l (k + 1) = some (k + 1, ar)) := by
            have := HLP.out
            unfold lstep at this
            dsimp only at this
            rw [if_pos hu] at this
            exact this
          go_wp2
          go_roundw
          case rel => exact ⟨k + 1, .inr (by omega), by go_num, by rw [HN1.out]; rfl, by rw [HN1.out]; rfl, by rw [HN1.out]; rfl, HB2⟩
          case measure => simp [intOf]; omega
        · have HN1 : Hid (lp l (k + 1) = some (j, u)) := by
            have := HLP.out
            unfold lstep at this
            dsimp only at this
            rw [if_neg hu] at this
            exact this
          go_wp2
          go_roundw
          case rel => exact ⟨k + 1, .inr (by omega), by go_num, by rw [HN1.out], by rw [HN1.out]; rfl, by rw [HN1.out]; rfl, HB2⟩
          case measure => simp [intOf]; omega
    · have e1 : ¬ (k : Int) + 1 + 1 < n := by omega
      have hkn : k = n - 2 := by omega
      subst hkn
      go_wp2
      refine bodyPost_ret (v := .tuple #[.int .i64 (pat st), .int .i64 (pval st), .bool (pok st)]) ?_ rfl ⟨by rw [HST.out], HB.out⟩
      simp [results, Try.results111, go_sem]

set_option maxRecDepth 100000 in
set_option maxHeartbeats 3200000 in
theorem wleast_any (va : Value) (l : List Smp) (w : World) (ha : Ss w va l) :
    Calls Try.prog 86 #[va] w fun e w' => e = .returned (.int .i64 (pat (sleast l))) ∧ Below w.heap.size w w' := by
  obtain ⟨n, hn⟩ : ∃ n, l.length = n := ⟨_, rfl⟩
  obtain ⟨a, ca, b1, o1, rfl, ha1, ha2, ha3, ha4, ha5⟩ := Ss.open_n elS ha n hn
  clear ha
  have HN := Lib.hid hn
  have X := Lib.hid ha3
  have C : Hid (∀ W, Below w.heap.size w W → ∀ i s, l[i]? = some s → W.cell? ⟨b1, o1 i, none⟩ = some (.int .i64 s.t) ∧ W.cell? ⟨b1, o1 i + 1, none⟩ = some (.int .i64 s.x) ∧ W.cell? ⟨b1, o1 i + 2, none⟩ = some (.int .i64 s.y)) := by
    intro W hW i s hs
    have hi : i < n := by rw [← hn]; exact (List.getElem?_eq_some_iff.1 hs).1
    obtain ⟨h1, h2, h3⟩ := ha5 i s hs
    exact ⟨(hW.cell (ha4 i hi)).trans h1, (hW.cell (by exact ha4 i hi)).trans h2, (hW.cell (by exact ha4 i hi)).trans h3⟩
  clear hn ha3 ha4 ha5
  have hs : sleast l = lp l (n - 2) := by unfold sleast; rw [HN.out]
  rw [hs]
  have HS := Lib.hid hs
  clear hs
  go_enter Try.func86, Try.ntmps86
  go_wp2
  go_loopw [3, 4] (fun v4 v7 wr => ∃ k : Nat, (k = 0 ∨ k + 2 ≤ n) ∧ v7 = .int .i64 ((k : Int) + 1) ∧ v4 = .int .i64 (pat (lp l k)) ∧ Hid (Below w.heap.size w wr)) (fun _ v7 _ => n + 1 - (intOf v7).toNat)
  case atStart => exact ⟨0, .inl rfl, rfl, rfl, Below.refl _ _⟩
  case round =>
    obtain ⟨k, hk, rfl, rfl, HB⟩ := hrel
    obtain ⟨st, hst⟩ : ∃ st, lp l k = st := ⟨_, rfl⟩
    rw [hst]
    have HST := Lib.hid hst
    clear hst
    by_cases hlt : k + 2 < n
    · have e1 : (k : Int) + 1 + 1 < n := by omega
      obtain ⟨s0, hs0⟩ : ∃ s, l[k]? = some s := ⟨_, List.getElem?_eq_getElem (by rw [HN.out]; omega)⟩
      obtain ⟨s1, hs1⟩ : ∃ s, l[k + 1]? = some s := ⟨_, List.getElem?_eq_getElem (by rw [HN.out]; omega)⟩
      obtain ⟨s2, hs2⟩ : ∃ s, l[k + 2]? = some s := ⟨_, List.getElem?_eq_getElem (by rw [HN.out]; omega)⟩
      obtain ⟨p0, p1, p2⟩ := C.out _ HB.out _ _ hs0
      obtain ⟨p3, p4, p5⟩ := C.out _ HB.out _ _ hs1
      obtain ⟨p6, p7, p8⟩ := C.out _ HB.out _ _ hs2
      have x0 := fun W => X.out W (k : Int) (by omega) (by omega)
      have x1 := fun W => X.out W ((k : Int) + 1) (by omega) (by omega)
      have x2 := fun W => X.out W ((k : Int) + 1 + 1) (by omega) (by omega)
      rw [show ((k : Int)).toNat = k by omega] at x0
      rw [show ((k : Int) + 1).toNat = k + 1 by omega] at x1
      rw [show ((k : Int) + 1 + 1).toNat = k + 2 by omega] at x2
      have HA : Hid (areaAt l (k + 1) = sarea s0 s1 s2) := areaAt_is hs0 hs1 hs2
      have HLP : Hid (lp l (k + 1) = lstep st (k + 1) (areaAt l (k + 1))) := by
        show lstep (lp l k) (k + 1) (areaAt l (k + 1)) = _
        rw [HST.out]
      rw [HA.out] at HLP
      have r0 := fun d os => cell_regrown p0 d os
      have r1 := fun d os => cell_regrown p1 d os
      have r2 := fun d os => cell_regrown p2 d os
      have r3 := fun d os => cell_regrown p3 d os
      have r4 := fun d os => cell_regrown p4 d os
      have r5 := fun d os => cell_regrown p5 d os
      have r6 := fun d os => cell_regrown p6 d os
      have r7 := fun d os => cell_regrown p7 d os
      have r8 := fun d os => cell_regrown p8 d os
      have AR := Lib.hid (warea_any s0 s1 s2)
      obtain ⟨t0, x0', y0⟩ := s0
      obtain ⟨t1, x1', y1⟩ := s1
      obtain ⟨t2, x2', y2⟩ := s2
      dsimp only at r0 r1 r2 r3 r4 r5 r6 r7 r8 AR
      obtain ⟨ar, har⟩ : ∃ z, sarea ⟨t0, x0', y0⟩ ⟨t1, x1', y1⟩ ⟨t2, x2', y2⟩ = z := ⟨_, rfl⟩
      rw [har] at AR HLP
      clear p0 p1 p2 p3 p4 p5 p6 p7 p8 hs0 hs1 hs2 har HA
      rcases st with _ | ⟨j, u⟩
      · have HN1 : Hid (lp l (k + 1) = some (k + 1, ar)) := HLP.out
        unfold pat
        dsimp only
        rw [show ((0 : Nat) : Int) = 0 from rfl]
        go_upto_region 5 with fail
        refine wp_region_quiet_below (by kernel_rfl) (by kernel_rfl) ?_
        repeat (go_big_quiet_step ((go_at_call 20; with_reducible exact Calls.regrown_of (AR.out _))))
        refine wpQuiet_nil ?_
        intro _ hw'
        obtain ⟨⟨dq, osq⟩, hw''⟩ := hw'
        subst hw''
        have hb2 := below_regrown wr dq osq
        obtain ⟨W2, hwq⟩ : ∃ x, x = grow (redrawn wr dq) osq := ⟨_, rfl⟩
        rw [← hwq] at hb2 ⊢
        clear hwq
        have HB2 := Lib.hid (HB.out.trans (hb2.mono HB.out.size))
        clear r0 r1 r2 r3 r4 r5 r6 r7 r8 hb2 x0 x1 x2
        go_wp2
        go_roundw
        case rel => exact ⟨k + 1, .inr (by omega), by go_num, by rw [HN1.out]; simp [pat], HB2⟩
        case measure => simp [intOf]; omega
      · obtain ⟨hj1, hj2, hju⟩ := lp_in HST.out
        unfold pat
        dsimp only
        obtain ⟨i, rfl⟩ : ∃ i, j = i + 1 := ⟨j - 1, by omega⟩
        have ej : (((i + 1 : Nat) : Int) == 0) = false := by simp; omega
        obtain ⟨s3, hs3⟩ : ∃ s, l[i]? = some s := ⟨_, List.getElem?_eq_getElem (by rw [HN.out]; omega)⟩
        obtain ⟨s4, hs4⟩ : ∃ s, l[i + 1]? = some s := ⟨_, List.getElem?_eq_getElem (by rw [HN.out]; omega)⟩
        obtain ⟨s5, hs5⟩ : ∃ s, l[i + 2]? = some s := ⟨_, List.getElem?_eq_getElem (by rw [HN.out]; omega)⟩
        obtain ⟨p0, p1, p2⟩ := C.out _ HB.out _ _ hs3
        obtain ⟨p3, p4, p5⟩ := C.out _ HB.out _ _ hs4
        obtain ⟨p6, p7, p8⟩ := C.out _ HB.out _ _ hs5
        have y0 := fun W => X.out W (((i + 1 : Nat) : Int) - 1) (by omega) (by omega)
        have y1 := fun W => X.out W ((i + 1 : Nat) : Int) (by omega) (by omega)
        have y2 := fun W => X.out W (((i + 1 : Nat) : Int) + 1) (by omega) (by omega)
        rw [show (((i + 1 : Nat) : Int) - 1).toNat = i by omega] at y0
        rw [show (((i + 1 : Nat) : Int)).toNat = i + 1 by omega] at y1
        rw [show (((i + 1 : Nat) : Int) + 1).toNat = i + 2 by omega] at y2
        rw [areaAt_is hs3 hs4 hs5] at hju
        have HJ := Lib.hid hju
        have hjb := Lib.hid hj2
        have g0 := fun d os => cell_regrown p0 d os
        have g1 := fun d os => cell_regrown p1 d os
        have g2 := fun d os => cell_regrown p2 d os
        have g3 := fun d os => cell_regrown p3 d os
        have g4 := fun d os => cell_regrown p4 d os
        have g5 := fun d os => cell_regrown p5 d os
        have g6 := fun d os => cell_regrown p6 d os
        have g7 := fun d os => cell_regrown p7 d os
        have g8 := fun d os => cell_regrown p8 d os
        have AR2 := Lib.hid (warea_any s3 s4 s5)
        rw [← hju] at AR2
        obtain ⟨t3, x3', y3⟩ := s3
        obtain ⟨t4, x4', y4⟩ := s4
        obtain ⟨t5, x5', y5⟩ := s5
        dsimp only at g0 g1 g2 g3 g4 g5 g6 g7 g8 AR2
        clear p0 p1 p2 p3 p4 p5 p6 p7 p8 hs3 hs4 hs5 hju
        obtain ⟨J, hJ⟩ : ∃ J : Int, ((i + 1 : Nat) : Int) = J := ⟨_, rfl⟩
        have hJb : 1 ≤ J ∧ J ≤ k := by omega
        rw [hJ] at y0 y1 y2 ej ⊢
        have HJJ := Lib.hid hJ
        clear hJ
        go_upto_region 5 with fail
        refine wp_region_quiet_below (by kernel_rfl) (by kernel_rfl) ?_
        repeat (go_big_quiet_step ((go_at_call 20; (first | with_reducible exact Calls.regrown_of (AR.out _) | with_reducible exact Calls.regrown_of (AR2.out _)))))
        refine wpQuiet_nil ?_
        intro _ hw'
        obtain ⟨⟨dq, osq⟩, hw''⟩ := hw'
        subst hw''
        have hb2 := below_regrown wr dq osq
        obtain ⟨W2, hwq⟩ : ∃ x, x = grow (redrawn wr dq) osq := ⟨_, rfl⟩
        rw [← hwq] at hb2 ⊢
        clear hwq
        have HB2 := Lib.hid (HB.out.trans (hb2.mono HB.out.size))
        clear r0 r1 r2 r3 r4 r5 r6 r7 r8 g0 g1 g2 g3 g4 g5 g6 g7 g8 hb2 x0 x1 x2 y0 y1 y2
        by_cases hu : ar < u
        · have HN1 : Hid (lp l (k + 1) = some (k + 1, ar)) := by
            have := HLP.out
            unfold lstep at this
            dsimp only at this
            rw [if_pos hu] at this
            exact this
          go_wp2
          go_roundw
          case rel => exact ⟨k + 1, .inr (by omega), by go_num, by rw [HN1.out]; simp [pat], HB2⟩
          case measure => simp [intOf]; omega
        · have HN1 : Hid (lp l (k + 1) = some (i + 1, u)) := by
            have := HLP.out
            unfold lstep at this
            dsimp only at this
            rw [if_neg hu] at this
            exact this
          go_wp2
          go_roundw
          case rel => exact ⟨k + 1, .inr (by omega), by go_num, by rw [HN1.out, ← HJJ.out], HB2⟩
          case measure => simp [intOf]; omega
    · have e1 : ¬ (k : Int) + 1 + 1 < n := by omega
      have hkn : k = n - 2 := by omega
      subst hkn
      go_wp2
      go_ret
      exact ⟨by rw [HST.out]; rfl, HB.out⟩

theorem gw_made {α : Type} {s : Nat} {cs : α → List Value} (w : World) (e : Nat) : Gw s cs (w.alloc (.cells #[] e)) w.heap.size e (.slice (some ⟨w.heap.size, 0, none⟩) 0 0) [] :=
  World.ownsRow_made w #[] 0 (Nat.le_refl _) (by simp [maxLen]) (by simp)

set_option maxHeartbeats 800000 in
theorem cloneS_any (y : Value) (m : List Smp) (w : World) (hy : Gs 3 Smp.cells w y m) (hm : m.length ≤ 1000000) :
    Calls Try.prog 110 #[y] w fun e w' => ∃ v, e = .returned v ∧ Gw 3 Smp.cells w' w.heap.size 30 v m ∧ Below w.heap.size w w' := by
  obtain ⟨a, c, hs⟩ := hy.shape
  subst hs
  cases a with
  | none =>
    have hm0 : m = [] ∧ c = 0 := by
      obtain ⟨_, a', c', he, h2, h3, h4, h5⟩ := hy
      simp only [Value.slice.injEq] at he
      obtain ⟨rfl, _, rfl⟩ := he
      have := h4 rfl
      exact ⟨List.eq_nil_of_length_eq_zero (by omega), this⟩
    obtain ⟨rfl, rfl⟩ := hm0
    have hq := fun W => Lib.run_eql_slice_nil (P := Try.prog) W 22 30 none 0 0 0 0 Try.underlying22
    rw [show (([] : List Smp).length) = 0 from rfl]
    go_enter Try.func110, Try.ntmps110
    go_wp2
    go_ret
    exact ⟨_, rfl, Gw.nil _ _ _, Below.refl _ _⟩
  | some ad =>
    have hq := fun W => Lib.run_eql_slice_nil (P := Try.prog) W 22 30 (some ad) m.length c 0 0 Try.underlying22
    have HY := Lib.hid (hy.below ((Below.refl _ _).alloc (Nat.le_refl _) (Obj.cells #[] 30)))
    have HM : Hid (Gw 3 Smp.cells (w.alloc (.cells #[] 30)) w.heap.size 30 (.slice (some ⟨w.heap.size, 0, none⟩) 0 0) []) := gw_made w 30
    clear hy
    go_enter Try.func110, Try.ntmps110
    go_wp2_with (at_builtin; go_must (refine wpList_append_gs layS HM.out HY.out elS (by simp; omega) (by simp; omega) (by simp) ?_ _ _ rfl rfl rfl rfl; intro v3 w3 ho3 hg3 hb3 _; have HO3 := Lib.hid ho3; have HB3 := Lib.hid hb3; clear ho3 hg3 hb3))
    go_ret
    exact ⟨_, rfl, HO3.out, ((Below.refl _ _).alloc (Nat.le_refl _) _).trans HB3.out⟩

theorem erase_take (l : List Smp) (at' i : Nat) (s : Smp) (hs : l[i]? = some s) : (l.take (i + 1)).eraseIdx at' = (l.take i).eraseIdx at' ++ (if i = at' then [] else [s]) := by
  have h1 : l.take (i + 1) = l.take i ++ [s] := by rw [List.take_add_one, hs]; rfl
  have hi := (List.getElem?_eq_some_iff.1 hs).1
  have hl : (l.take i).length = i := by rw [List.length_take]; omega
  rw [h1]
  by_cases hlt : at' < i
  · rw [List.eraseIdx_append_of_lt_length (by omega), if_neg (by omega)]
  · rw [List.eraseIdx_append_of_length_le (by omega), hl]
    by_cases he : i = at'
    · subst he
      rw [if_pos rfl, Nat.sub_self, List.eraseIdx_of_length_le (l := l.take i) (by omega)]
      rfl
    · rw [if_neg he, List.eraseIdx_of_length_le (l := l.take i) (by omega), List.eraseIdx_of_length_le (by simp; omega)]

set_option maxHeartbeats 1600000 in
theorem wwithout_any (va : Value) (l : List Smp) (at' : Nat) (w : World) (ha : Ss w va l) (hlen : l.length ≤ 1000000) :
    Calls Try.prog 87 #[va, .int .i64 (at' : Int)] w fun e w' => ∃ v, e = .returned v ∧ Gw 3 Smp.cells w' w.heap.size 30 v (l.eraseIdx at') ∧ Below w.heap.size w w' := by
  obtain ⟨n, hn⟩ : ∃ n, l.length = n := ⟨_, rfl⟩
  obtain ⟨a, ca, b1, o1, rfl, ha1, ha2, ha3, ha4, ha5⟩ := Ss.open_n elS ha n hn
  clear ha
  have HN := Lib.hid hn
  have X := Lib.hid ha3
  have C : Hid (∀ W, Below w.heap.size w W → ∀ i s, l[i]? = some s → W.cell? ⟨b1, o1 i, none⟩ = some (.int .i64 s.t) ∧ W.cell? ⟨b1, o1 i + 1, none⟩ = some (.int .i64 s.x) ∧ W.cell? ⟨b1, o1 i + 2, none⟩ = some (.int .i64 s.y)) := by
    intro W hW i s hs
    have hi : i < n := by rw [← hn]; exact (List.getElem?_eq_some_iff.1 hs).1
    obtain ⟨h1, h2, h3⟩ := ha5 i s hs
    exact ⟨(hW.cell (ha4 i hi)).trans h1, (hW.cell (by exact ha4 i hi)).trans h2, (hW.cell (by exact ha4 i hi)).trans h3⟩
  have hn6 : n ≤ 1000000 := by omega
  clear hn ha3 ha4 ha5 hlen
  go_enter Try.func87, Try.ntmps87
  go_wp2
  go_loopw [5, 6] (fun v5 v6 wr => ∃ (i : Nat) (y : Value), i ≤ n ∧ v6 = .int .i64 (i : Int) ∧ y = v5 ∧ Hid (Gw 3 Smp.cells wr w.heap.size 30 y ((l.take i).eraseIdx at')) ∧ Hid (Below w.heap.size w wr)) (fun _ v6 _ => n - (intOf v6).toNat)
  case atStart => exact ⟨0, _, by omega, rfl, rfl, Gw.nil _ _ _, Below.refl _ _⟩
  case round =>
    obtain ⟨i, y, hin, rfl, rfl, HG, HB⟩ := hrel
    by_cases hlt : i < n
    · have e1 : (i : Int) < n := by omega
      obtain ⟨s, hs⟩ : ∃ s, l[i]? = some s := ⟨_, List.getElem?_eq_getElem (by rw [HN.out]; omega)⟩
      obtain ⟨p0, p1, p2⟩ := C.out _ HB.out _ _ hs
      have x0 := fun W => X.out W (i : Int) (by omega) (by omega)
      rw [show ((i : Int)).toNat = i by omega] at x0
      have het := erase_take l at' i s hs
      have HLE : Hid (((l.take i).eraseIdx at').length ≤ 1000000) := by
        have h1 := List.length_eraseIdx_le (l.take i) at'
        have h2 : (l.take i).length ≤ i := by rw [List.length_take]; omega
        show List.length _ ≤ _
        omega
      by_cases hat : i = at'
      · rw [if_pos hat, List.append_nil] at het
        have HG1 : Hid (Gw 3 Smp.cells wr w.heap.size 30 y ((l.take (i + 1)).eraseIdx at')) := by rw [het]; exact HG.out
        have e2 : ((i : Int) != (at' : Int)) = false := by simp; omega
        clear hat het hs
        go_wp2
        go_roundw
        case rel => exact ⟨i + 1, _, by omega, by go_num, rfl, HG1, HB⟩
        case measure => simp [intOf]; omega
      · rw [if_neg hat] at het
        have HET := Lib.hid het
        have e2 : ((i : Int) != (at' : Int)) = true := by simp; omega
        clear hat het hs
        obtain ⟨t0, x0', y0⟩ := s
        dsimp only at p0 p1 p2
        go_wp2_with (at_builtin; go_must (refine wpList_append_g1 layS HG.out ⟨t0, x0', y0⟩ elS (by have := HLE.out; omega) (by have := HLE.out; omega) HB.out.size _ rfl ?_ _ _ rfl rfl _ rfl rfl rfl; intro v3 w3 ho3 hb3; have HO3 := Lib.hid ho3; have HB3 := Lib.hid (HB.out.trans hb3); clear ho3 hb3))
        rw [← HET.out] at HO3
        go_roundw
        case rel => exact ⟨i + 1, _, by omega, by go_num, rfl, HO3, HB3⟩
        case measure => simp [intOf]; omega
    · have e1 : ¬ (i : Int) < n := by omega
      obtain rfl : i = n := by omega
      rw [List.take_of_length_le (by rw [HN.out]; omega)] at HG
      go_wp2
      go_ret
      exact ⟨_, rfl, HG.out, HB.out⟩

end Go.Proofs.Ytbonapdainlpjaa
