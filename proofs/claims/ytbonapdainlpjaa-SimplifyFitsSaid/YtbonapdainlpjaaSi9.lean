/- Layer 53 (simplify): the walk of the statement SimplifyFits. -/
import Derived.Test.YtbonapdainlpjaaSi7
import Derived.Test.YtbonapdainlpjaaSi8
import Derived.Deep.RegionHeld3
import Derived.Deep.CutBlock
import Derived.Deep.DeepCutAuto
import Derived.Deep.RegionLaw
import Derived.Lib.QuietBelow
import Derived.Lib.SliceRun
set_option linter.unusedSimpArgs false
set_option linter.unusedVariables false
namespace Go.Proofs.Ytbonapdainlpjaa
open Go.RowKit Go.Sort

theorem simE_ok {l : List Smp} {limit : Int} (h : smayE l = 0) (h0 : 0 ≤ limit) : simE l (decide (limit < 0)) = 0 := by unfold simE; rw [h]; simp; omega
theorem simE_bad {l : List Smp} {limit : Int} (h : smayE l ≠ 0) (b : Bool) : simE l b = smayE l := by unfold simE; rw [if_pos h]
theorem smayE_right {l : List Smp} (h : smayE l = 0) : SRight l := by
  have hl := smayE_len h
  by_cases hr : SRight l
  · exact hr
  · rw [smayE_2 hl hr] at h; cases h

/-- what an opened slice of samples reads -/
structure SOpen (w : World) (a : Option Addr) (c n b : Nat) (o : Nat → Nat) (l : List Smp) : Prop where
  len : l.length = n
  cap : n ≤ c ∧ c ≤ 9223372036854775807
  idx : ∀ (W : World) (i : Nat), i < n → (Instr.indexAt 22 (.slice a n c) (.int .i64 (i : Int))).run Try.prog W = .ok (.pointer (some ⟨b, o i, none⟩)) W
  cell : ∀ W, Below w.heap.size w W → ∀ i s, l[i]? = some s → W.cell? ⟨b, o i, none⟩ = some (.int .i64 s.t) ∧ W.cell? ⟨b, o i + 1, none⟩ = some (.int .i64 s.x) ∧ W.cell? ⟨b, o i + 2, none⟩ = some (.int .i64 s.y)
theorem sopen {w : World} {a : Option Addr} {c n : Nat} {l : List Smp} (h : Ss w (.slice a n c) l) : ∃ b o, SOpen w a c n b o l := by
  have hn := (Ss.len_eq h).1
  obtain ⟨a', c', b, o, he, h1, h2, h3, h4, h5⟩ := Ss.open_n elS h n hn.symm
  simp only [Value.slice.injEq, true_and] at he
  obtain ⟨rfl, rfl⟩ := he
  refine ⟨b, o, hn.symm, ⟨h1, h2⟩, fun W i hi => ?_, fun W hW i s hs => ?_⟩
  · have := h3 W i (by omega) (by omega)
    simpa using this
  · have hi : i < n := by rw [hn]; exact (List.getElem?_eq_some_iff.1 hs).1
    obtain ⟨k1, k2, k3⟩ := h5 i s hs
    exact ⟨(hW.cell (h4 i hi)).trans k1, (hW.cell (by exact h4 i hi)).trans k2, (hW.cell (by exact h4 i hi)).trans k3⟩

set_option maxRecDepth 100000 in
set_option maxHeartbeats 6400000 in
theorem simplifyfits_walk (v : Value) (l : List Smp) (m0 m1 : Int) (mo : Nat) (w : World) (h : Ss w v l) (hmo : mo < 256) :
    Calls Try.prog 4 #[v, .agg #[.int .i64 m0, .int .i64 m1], .int .u8 (mo : Int)] w fun e w' => e = .returned (.bool true) ∧ Below w.heap.size w w' := by
  obtain ⟨n, hn⟩ : ∃ n, l.length = n := ⟨_, rfl⟩
  have HV := Lib.hid h
  obtain ⟨a, ca, rfl⟩ := Ss.shape h
  rw [hn] at HV ⊢
  have HN := Lib.hid hn
  obtain ⟨w0, hw0⟩ : ∃ W, w.alloc (.cells #[.int .i64 m0, .int .i64 m1] 34) = W := ⟨_, rfl⟩
  have hb0 : Below w.heap.size w w0 := by rw [← hw0]; exact (Below.refl _ _).alloc (Nat.le_refl _) _
  have hr0 : w0.heap[w.heap.size]? = some (.cells #[.int .i64 m0, .int .i64 m1] 34 (0, 0)) := by rw [← hw0]; exact heap_alloc_new _ _
  obtain ⟨g, hg⟩ : ∃ g, w.heap.size = g := ⟨_, rfl⟩
  rw [hg] at hr0
  have HG := Lib.hid hg
  have HWW := Lib.hid hw0
  have HB0 := Lib.hid hb0
  have HC : Hid (∀ W, Below w0.heap.size w0 W → W.cell? ⟨g, 0, none⟩ = some (.int .i64 m0) ∧ W.cell? ⟨g, 1, none⟩ = some (.int .i64 m1)) := fun W hW =>
    have k := (hW.block _ (heap_lt hr0)).trans hr0
    ⟨cell_of_row W _ _ _ _ _ k, cell_of_row W _ _ _ _ _ k⟩
  clear hn h hg hw0 hb0 hr0
  go_enter Try.func4, Try.ntmps4
  go_upto_region 1 with fail
  rw [HWW.out, HG.out]
  go_upto_region 3 with (go_at_call 15; refine (siawake_any _).mono ?_; rintro e w1 ⟨rfl, hb1⟩; have HB1 := Lib.hid hb1; clear hb1)
  obtain ⟨c0, c1⟩ := HC.out _ HB1.out
  have HB01 := Lib.hid (HB0.out.trans (HB1.out.mono HB0.out.size))
  by_cases hbig : 100 < n
  · have hb2 : (100 : Int) < n := by omega
    go_wp2
    go_ret
    exact ⟨rfl, HB01.out⟩
  · have hb2 : ¬ (100 : Int) < n := by omega
    by_cases h0 : m0 < 0
    · go_wp2
      go_ret
      exact ⟨rfl, HB01.out⟩
    · by_cases h1 : m1 < 0
      · go_wp2
        go_ret
        exact ⟨rfl, HB01.out⟩
      · go_upto_region 5 with fail
        have q0 := fun dd os => cell_regrown c0 dd os
        have q1 := fun dd os => cell_regrown c1 dd os
        obtain ⟨lo, hlo⟩ : ∃ z, (if m1 < m0 then m1 else m0) = z := ⟨_, rfl⟩
        obtain ⟨hi, hhi⟩ : ∃ z, (if m0 < m1 then m1 else m0) = z := ⟨_, rfl⟩
        go_quiet (fail)
        have hlh : 0 ≤ lo ∧ lo ≤ hi := by rw [← hlo, ← hhi]; constructor <;> (split <;> first | omega | (split <;> omega))
        have hb2n : Below w0.heap.size w0 (w1.drewN nq) := below_drewN HB1.out _
        obtain ⟨W2, hW2⟩ : ∃ X, w1.drewN nq = X := ⟨_, rfl⟩
        rw [hW2] at hb2n ⊢
        have HB2 := Lib.hid (HB0.out.trans (hb2n.mono HB0.out.size))
        clear q0 q1 hlo hhi hb2n hW2 c0 c1 HB1 HB01 h0 h1
        have HS : Hid (∀ X (va : Value) (m : List Smp) (t : Int), Ss X va m → Calls Try.prog 16 #[va, .int .i64 t] X (SimPost m (sdrop (soS t) m) (decide (t < 0)) X)) := fun X va m t hm => simplify_any va m t X hm
        unfold SimPost at HS
        by_cases hme : smayE l = 0
        · have HE1 := Lib.hid (simE_ok hme hlh.1)
          have HE2 := Lib.hid (simE_ok hme (Int.le_trans hlh.1 hlh.2))
          have hT1 := HS.out W2 _ l lo (HV.out.below HB2.out)
          rw [HE1.out] at hT1
          have hT2 : ∀ X, Below w.heap.size w X → _ := fun X hX => HS.out X _ l hi (HV.out.below hX)
          rw [HE2.out] at hT2
          have HT1 := Lib.hid hT1
          have HT2 := Lib.hid hT2
          have hleft := sdrop_left (soS lo) l
          have hleft2 := sdrop_left (soS hi) l
          have hmore := sdrop_more hlh.2 l
          have hagain := sdrop_again (soS lo) l
          have harea := fun i h1 h2 => sdrop_area (low := lo) l i h1 h2
          have hl48 := smayE_len hme
          have hSA : simL l (sdrop (soS lo) l) (decide (lo < 0)) = sdrop (soS lo) l := by unfold simL; rw [HE1.out, if_pos rfl]
          have hSB : simL l (sdrop (soS hi) l) (decide (hi < 0)) = sdrop (soS hi) l := by unfold simL; rw [HE2.out, if_pos rfl]
          rw [hSA] at HT1
          rw [hSB] at HT2
          rw [show ((0 : Nat) : Int) = 0 from rfl] at HT1 HT2
          obtain ⟨A, hA⟩ : ∃ A, sdrop (soS lo) l = A := ⟨_, rfl⟩
          obtain ⟨Bq, hBq⟩ : ∃ A, sdrop (soS hi) l = A := ⟨_, rfl⟩
          have hlenBA : Bq.length ≤ A.length := by rw [← hBq, hmore, hA]; exact (sdrop_left _ _).len
          rw [hA] at HT1 hleft hagain harea
          rw [hBq] at HT2 hleft2
          have hmeA : smayE A = 0 := smayE_0 (Nat.le_trans hleft.len hl48) (hleft.right (smayE_right hme))
          obtain ⟨na, hna⟩ : ∃ m, A.length = m := ⟨_, rfl⟩
          obtain ⟨nb, hnb⟩ : ∃ m, Bq.length = m := ⟨_, rfl⟩
          have HT3 : Hid (∀ X (va : Value), Ss X va A → Calls Try.prog 16 #[va, .int .i64 lo] X fun e w' => ∃ v', e = .returned (.tuple #[v', .int .i64 0]) ∧ Ss w' v' A ∧ Below X.heap.size X w') := by
            intro X va hX
            have h := HS.out X va A lo hX
            have he := simE_ok hmeA hlh.1
            unfold simL at h
            rw [he, if_pos rfl, hagain] at h
            refine h.mono ?_
            rintro e w' ⟨v', rfl, hg, hb⟩
            exact ⟨v', rfl, hg.gs, hb⟩
          have HLEFT := Lib.hid hleft
          have HLEFT2 := Lib.hid hleft2
          have HAREA := Lib.hid harea
          have hnn : nb ≤ na ∧ na ≤ n := by have := hleft.len; have := HN.out; omega
          have hpos : 0 < n → 0 < na ∧ 0 < nb := fun h => by have h1 := hleft.pos; have h2 := hleft2.pos; have := HN.out; omega
          have HPOS := Lib.hid hpos
          have HNA := Lib.hid hna
          have HNB := Lib.hid hnb
          have HME := Lib.hid hme
          clear hT1 hT2 hleft hleft2 hmore hagain harea hSA hSB hA hBq hlenBA hmeA hpos HE1 HE2 hme HS
          go_upto_region 8 with (first
            | (go_at_call 16; (with_reducible refine (HT1.out).mono ?_); rintro e w4 ⟨v4, rfl, hg4, hb4⟩; obtain ⟨va, vc, hsh⟩ := hg4.gs.shape; rw [hna] at hsh; subst hsh; have HA4 : Hid (Ss w4 (.slice va na vc) A) := hg4.gs; have HB4 := Lib.hid (HB2.out.trans (hb4.mono HB2.out.size)); clear hg4 hb4)
            | (go_at_call 16; (with_reducible refine (HT2.out _ HB4.out).mono ?_); rintro e w5 ⟨v5, rfl, hg5, hb5⟩; obtain ⟨vb, vd, hsh⟩ := hg5.gs.shape; rw [hnb] at hsh; subst hsh; have HA5 := Lib.hid (HA4.out.below hb5); have HC5 : Hid (Ss w5 (.slice vb nb vd) Bq) := hg5.gs; have HB5 := Lib.hid (HB4.out.trans (hb5.mono HB4.out.size)); clear hg5 hb5))
          clear HT1 HT2 HA4
          go_upto_region 11 with (go_at_call 16; (with_reducible refine (HT3.out _ _ HA5.out).mono ?_); rintro e w6 ⟨v6, rfl, hs6, hb6⟩; have HS6 := Lib.hid hs6; have HA6 := Lib.hid (HA5.out.below hb6); have HC6 := Lib.hid (HC5.out.below hb6); have HB6 := Lib.hid (HB5.out.trans (hb6.mono HB5.out.size)); clear hs6 hb6)
          clear HT3 hna hnb
          have hsm := ssame_any _ _ A w6 HS6.out HA6.out
          have HSM := Lib.hid hsm
          clear hsm
          have hba : decide (na < nb) = false := by simp; omega
          have HNN := Lib.hid hnn
          clear hnn
          go_cut [104] (fun c wx => c = .bool false ∧ Hid (Below w6.heap.size w6 wx))
          case first =>
            by_cases hn0 : n = 0
            · have k1 : ((n : Int) == 0) = true := by simp; omega
              have k2 : ((na : Int) == 0) = true := by have := HNN.out; simp; omega
              clear hn0
              go_wp2_with (go_at_call 21; refine HSM.out.mono ?_; rintro e w7 ⟨rfl, hb7⟩; have HB7 := Lib.hid hb7; clear hb7)
              go_meet
              case rel => exact ⟨rfl, HB7⟩
            · have k1 : ((n : Int) == 0) = false := by simp; omega
              have k2 : ((na : Int) == 0) = false := by have := HPOS.out (by omega); simp; omega
              clear hn0
              go_wp2_with (go_at_call 21; refine HSM.out.mono ?_; rintro e w7 ⟨rfl, hb7⟩; have HB7 := Lib.hid hb7; clear hb7)
              go_meet
              case rel => exact ⟨rfl, HB7⟩
          case rest =>
            obtain ⟨rfl, HB67⟩ := hcut
            obtain ⟨W7, hW7⟩ : ∃ W, wc = W := ⟨_, rfl⟩
            rw [hW7] at HB67 ⊢
            clear hW7 HSM hba
            have HB7 := Lib.hid (HB6.out.trans (HB67.out.mono HB6.out.size))
            obtain ⟨lb, lof, OL⟩ := sopen HV.out
            obtain ⟨ab, aof, OA⟩ := sopen (HA6.out.below HB67.out)
            obtain ⟨bb, bof, OB⟩ := sopen (HC6.out.below HB67.out)
            have HOL := Lib.hid OL
            have HOA := Lib.hid OA
            have HOB := Lib.hid OB
            clear OL OA OB
            go_upto_region 13 with fail
            go_cut [145] (fun c wx => c = .bool false ∧ Hid (Below W7.heap.size W7 wx))
            case first =>
              by_cases hn0 : n = 0
              · have k0 : decide (0 < n) = false := by simp; omega
                clear hn0
                go_quiet (fail)
                go_wp2
                go_meet
                case rel => exact ⟨rfl, below_drewN (Below.refl _ _) _⟩
              · obtain ⟨hp1, hp2⟩ := HPOS.out (by omega)
                have k0 : decide (0 < n) = true := by simp; omega
                have k1 : ((nb : Int) == 0) = false := by simp; omega
                obtain ⟨s0, hs0⟩ : ∃ s, l[0]? = some s := ⟨_, List.getElem?_eq_getElem (by rw [HN.out]; omega)⟩
                obtain ⟨sl, hsl⟩ : ∃ s, l[n - 1]? = some s := ⟨_, List.getElem?_eq_getElem (by rw [HN.out]; omega)⟩
                have ha0 : A[0]? = some s0 := HLEFT.out.head.trans hs0
                have hb0 : Bq[0]? = some s0 := HLEFT2.out.head.trans hs0
                have hal : A[na - 1]? = some sl := by have := HLEFT.out.last; rw [HNA.out, HN.out] at this; exact this.trans hsl
                obtain ⟨p0, p1, p2⟩ := HOL.out.cell _ HB7.out _ _ hs0
                obtain ⟨p3, p4, p5⟩ := HOL.out.cell _ HB7.out _ _ hsl
                obtain ⟨p6, p7, p8⟩ := HOA.out.cell _ (Below.refl _ _) _ _ ha0
                obtain ⟨p9, p10, p11⟩ := HOA.out.cell _ (Below.refl _ _) _ _ hal
                obtain ⟨p12, p13, p14⟩ := HOB.out.cell _ (Below.refl _ _) _ _ hb0
                have x0 := fun W => HOL.out.idx W 0 (by omega)
                have x1 := fun W => HOL.out.idx W (n - 1) (by omega)
                have x2 := fun W => HOA.out.idx W 0 (by omega)
                have x3 := fun W => HOA.out.idx W (na - 1) (by omega)
                have x4 := fun W => HOB.out.idx W 0 (by omega)
                rw [Int.natCast_zero] at x0 x2 x4
                rw [show ((n - 1 : Nat) : Int) = (n : Int) - 1 by omega] at x1
                rw [show ((na - 1 : Nat) : Int) = (na : Int) - 1 by omega] at x3
                have HCAP := Lib.hid (And.intro HOL.out.cap HOA.out.cap)
                have hnb63 : (n : Int) ≤ 9223372036854775807 ∧ (na : Int) ≤ 9223372036854775807 ∧ (1 : Int) ≤ n ∧ (1 : Int) ≤ na := by have := HCAP.out; omega
                obtain ⟨t0, x0', y0⟩ := s0
                obtain ⟨t1, x1', y1⟩ := sl
                dsimp only at p0 p1 p2 p3 p4 p5 p6 p7 p8 p9 p10 p11 p12 p13 p14
                clear hn0 hp1 hp2 hs0 hsl ha0 hb0 hal
                go_quiet (fail)
                go_wp2
                go_meet
                case rel => exact ⟨rfl, below_drewN (Below.refl _ _) _⟩
            case rest =>
              obtain ⟨rfl, HB78⟩ := hcut
              obtain ⟨W8, hW8⟩ : ∃ W, wc = W := ⟨_, rfl⟩
              rw [hW8] at HB78 ⊢
              clear hW8
              have HB8 := Lib.hid (HB7.out.trans (HB78.out.mono HB7.out.size))
              go_wp2_with fail
              have hna63 : (na : Int) ≤ 9223372036854775807 := by have := HOA.out.cap; omega
              have hn63 : n ≤ 100 := by omega
              go_loopw [15] (fun v15 wr => ∃ k : Nat, (k = 0 ∨ k + 2 ≤ na) ∧ v15 = .int .i64 ((k : Int) + 1) ∧ Hid (Below W8.heap.size W8 wr)) (fun v15 _ => na + 1 - (intOf v15).toNat)
              case atStart => exact ⟨0, .inl rfl, rfl, Below.refl _ _⟩
              case round =>
                obtain ⟨k, hk, rfl, HB⟩ := hrel
                have HBW := Lib.hid (HB8.out.trans (HB.out.mono HB8.out.size))
                have HBA := Lib.hid (HB78.out.trans (HB.out.mono HB78.out.size))
                by_cases hlt : k + 2 < na
                · have e1 : (k : Int) + 1 + 1 < na := by omega
                  obtain ⟨s0, hs0⟩ : ∃ s, A[k]? = some s := ⟨_, List.getElem?_eq_getElem (by rw [HNA.out]; omega)⟩
                  obtain ⟨s1, hs1⟩ : ∃ s, A[k + 1]? = some s := ⟨_, List.getElem?_eq_getElem (by rw [HNA.out]; omega)⟩
                  obtain ⟨s2, hs2⟩ : ∃ s, A[k + 2]? = some s := ⟨_, List.getElem?_eq_getElem (by rw [HNA.out]; omega)⟩
                  obtain ⟨p0, p1, p2⟩ := HOA.out.cell _ HBA.out _ _ hs0
                  obtain ⟨p3, p4, p5⟩ := HOA.out.cell _ HBA.out _ _ hs1
                  obtain ⟨p6, p7, p8⟩ := HOA.out.cell _ HBA.out _ _ hs2
                  have x0 := fun W => HOA.out.idx W k (by omega)
                  have x1 := fun W => HOA.out.idx W (k + 1) (by omega)
                  have x2 := fun W => HOA.out.idx W (k + 2) (by omega)
                  rw [show ((k + 1 : Nat) : Int) = (k : Int) + 1 by omega] at x1
                  rw [show ((k + 2 : Nat) : Int) = (k : Int) + 1 + 1 by omega] at x2
                  have har0 := HAREA.out (k + 1) (by omega) (by rw [HNA.out]; omega)
                  rw [areaAt_is hs0 hs1 hs2] at har0
                  have r0 := fun d os => cell_regrown p0 d os
                  have r1 := fun d os => cell_regrown p1 d os
                  have r2 := fun d os => cell_regrown p2 d os
                  have r3 := fun d os => cell_regrown p3 d os
                  have r4 := fun d os => cell_regrown p4 d os
                  have r5 := fun d os => cell_regrown p5 d os
                  have r6 := fun d os => cell_regrown p6 d os
                  have r7 := fun d os => cell_regrown p7 d os
                  have r8 := fun d os => cell_regrown p8 d os
                  have AR := Lib.hid (area_any s0 s1 s2)
                  obtain ⟨t0, x0', y0⟩ := s0
                  obtain ⟨t1, x1', y1⟩ := s1
                  obtain ⟨t2, x2', y2⟩ := s2
                  dsimp only at r0 r1 r2 r3 r4 r5 r6 r7 r8 AR
                  obtain ⟨ar, har⟩ : ∃ z, sarea ⟨t0, x0', y0⟩ ⟨t1, x1', y1⟩ ⟨t2, x2', y2⟩ = z := ⟨_, rfl⟩
                  rw [har] at AR har0
                  clear p0 p1 p2 p3 p4 p5 p6 p7 p8 hs0 hs1 hs2 har
                  go_upto_region 18 with fail
                  refine wp_region_quiet_below (by kernel_rfl) (by kernel_rfl) ?_
                  repeat (go_big_quiet_step ((go_at_call 19; with_reducible exact Calls.regrown_of (AR.out _))))
                  refine wpQuiet_nil ?_
                  intro _ hw'
                  obtain ⟨⟨dq, osq⟩, hw''⟩ := hw'
                  subst hw''
                  have hb2' := below_regrown wr dq osq
                  obtain ⟨W2', hwq⟩ : ∃ x, x = grow (redrawn wr dq) osq := ⟨_, rfl⟩
                  rw [← hwq] at hb2' ⊢
                  clear hwq
                  have HB2' := Lib.hid (HB.out.trans (hb2'.mono HB.out.size))
                  clear r0 r1 r2 r3 r4 r5 r6 r7 r8 hb2' x0 x1 x2
                  go_wp2
                  go_roundw
                  case rel => exact ⟨k + 1, .inr (by omega), by go_num, HB2'⟩
                  case measure => simp [intOf]; omega
                · have e1 : ¬ (k : Int) + 1 + 1 < na := by omega
                  obtain ⟨V1, hV1⟩ : ∃ V, wr = V := ⟨_, rfl⟩
                  rw [hV1] at HB HBW HBA ⊢
                  clear hV1
                  go_wp2_with fail
                  go_loopw [16, 172] (fun v16 v172 QQ => ∃ q i : Nat, i ≤ n ∧ q ≤ na ∧ v16 = .int .i64 (q : Int) ∧ v172 = .int .i64 (i : Int) ∧ Hid ((A.drop q).Sublist (l.drop i)) ∧ Hid (Below V1.heap.size V1 QQ)) (fun _ v172 _ => n - (intOf v172).toNat)
                  case atStart => exact ⟨0, 0, by omega, by omega, rfl, rfl, HLEFT.out.sub, Below.refl _ _⟩
                  case round =>
                    obtain ⟨q, i, hin, hqn, rfl, rfl, HSUB, HBq⟩ := hrel
                    by_cases hlt2 : i < n
                    · have e2 : (i : Int) < n := by omega
                      obtain ⟨s, hs⟩ : ∃ s, l[i]? = some s := ⟨_, List.getElem?_eq_getElem (by rw [HN.out]; exact hlt2)⟩
                      have HGS := Lib.hid (greedy_step HSUB.out hs)
                      obtain ⟨p0, p1, p2⟩ := HOL.out.cell _ (HBW.out.trans (HBq.out.mono HBW.out.size)) _ _ hs
                      have x0 := fun W => HOL.out.idx W i hlt2
                      obtain ⟨t0, x0', y0⟩ := s
                      dsimp only at p0 p1 p2
                      clear hs
                      go_upto_region 24 with (with_reducible refine wpList_store_new rfl _ _ rfl rfl rfl (by kernel_rfl) (by simp) (by simp [Value.oneCell']) ?_)
                      clear p0 p1 p2 x0
                      have hrow : (wr.alloc (.cells #[.int .i64 t0, .int .i64 x0', .int .i64 y0] 30)).heap[wr.heap.size]? = some (.cells #[.int .i64 t0, .int .i64 x0', .int .i64 y0] 30 (0, 0)) := heap_alloc_new _ _
                      have hb9 : Below V1.heap.size V1 (wr.alloc (.cells #[.int .i64 t0, .int .i64 x0', .int .i64 y0] 30)) := HBq.out.alloc HBq.out.size _
                      obtain ⟨W9, hW9⟩ : ∃ W, wr.alloc (.cells #[.int .i64 t0, .int .i64 x0', .int .i64 y0] 30) = W := ⟨_, rfl⟩
                      obtain ⟨g9, hg9⟩ : ∃ g, wr.heap.size = g := ⟨_, rfl⟩
                      rw [hW9] at hb9
                      rw [hW9, hg9] at hrow
                      rw [hW9, hg9]
                      have HB9 := Lib.hid hb9
                      clear hb9 hW9 hg9
                      simp only [Act.put]
                      have c0 : W9.cell? ⟨g9, 0, none⟩ = some (.int .i64 t0) := cell_of_row W9 _ _ _ _ _ hrow
                      have c1 : W9.cell? ⟨g9, 1, none⟩ = some (.int .i64 x0') := cell_of_row W9 _ _ _ _ _ hrow
                      have c2 : W9.cell? ⟨g9, 2, none⟩ = some (.int .i64 y0) := cell_of_row W9 _ _ _ _ _ hrow
                      clear hrow
                      by_cases hq : q < na
                      · have k0 : decide (q < na) = true := by simp; omega
                        obtain ⟨xs, hxs⟩ : ∃ x, A[q]? = some x := ⟨_, List.getElem?_eq_getElem (by rw [HNA.out]; omega)⟩
                        obtain ⟨r0, r1, r2⟩ := HOA.out.cell _ (HBA.out.trans (HB9.out.mono HBA.out.size)) _ _ hxs
                        have x1 := fun W => HOA.out.idx W q hq
                        have HXS := Lib.hid hxs
                        obtain ⟨xt, xx, xy⟩ := xs
                        dsimp only at r0 r1 r2
                        obtain ⟨bb, hbb⟩ : ∃ nb : Bool, (nb = true ↔ (⟨xt, xx, xy⟩ : Smp) = ⟨t0, x0', y0⟩) := ⟨@decide _ (Classical.propDecidable _), by rw [@decide_eq_true_iff _ (Classical.propDecidable _)]⟩
                        have HBB := Lib.hid hbb
                        clear hbb hxs
                        go_cut [187] (fun c wx => c = .bool bb ∧ Hid (Below W9.heap.size W9 wx))
                        case first =>
                          by_cases e1 : xt = t0
                          · subst e1
                            by_cases e2 : xx = x0'
                            · subst e2
                              by_cases e3 : xy = y0
                              · subst e3
                                obtain rfl : bb = true := HBB.out.2 rfl
                                go_quiet (fail)
                                go_wp2
                                go_meet
                                case rel => exact ⟨rfl, below_drewN (Below.refl _ _) _⟩
                              · skip
                                obtain rfl : bb = false := by
                                  cases bb
                                  · rfl
                                  · exact absurd (congrArg Smp.y (HBB.out.1 rfl)) e3
                                go_quiet (fail)
                                go_wp2
                                go_meet
                                case rel => exact ⟨rfl, below_drewN (Below.refl _ _) _⟩
                            · skip
                              obtain rfl : bb = false := by
                                cases bb
                                · rfl
                                · exact absurd (congrArg Smp.x (HBB.out.1 rfl)) e2
                              go_quiet (fail)
                              go_wp2
                              go_meet
                              case rel => exact ⟨rfl, below_drewN (Below.refl _ _) _⟩
                          · skip
                            obtain rfl : bb = false := by
                              cases bb
                              · rfl
                              · exact absurd (congrArg Smp.t (HBB.out.1 rfl)) e1
                            go_quiet (fail)
                            go_wp2
                            go_meet
                            case rel => exact ⟨rfl, below_drewN (Below.refl _ _) _⟩
                        case rest =>
                          obtain ⟨rfl, HB10⟩ := hcut
                          have HB11 := Lib.hid (HB9.out.trans (HB10.out.mono HB9.out.size))
                          rcases bb with _ | _
                          · have hne : (⟨xt, xx, xy⟩ : Smp) ≠ ⟨t0, x0', y0⟩ := fun h => by have := HBB.out.2 h; cases this
                            have HSN : Hid ((A.drop q).Sublist (l.drop (i + 1))) := HGS.out.2 fun x hx => by rw [HXS.out] at hx; cases hx; exact hne
                            clear hne c0 c1 c2 r0 r1 r2 x1
                            go_wp2
                            go_roundw
                            case rel => exact ⟨q, i + 1, by omega, by omega, rfl, by go_num, HSN, HB11⟩
                            case measure => simp [intOf]; omega
                          · have HSN : Hid ((A.drop (q + 1)).Sublist (l.drop (i + 1))) := HGS.out.1 _ HXS.out (HBB.out.1 rfl)
                            clear c0 c1 c2 r0 r1 r2 x1
                            go_wp2
                            go_roundw
                            case rel => exact ⟨q + 1, i + 1, by omega, by omega, by go_num, by go_num, HSN, HB11⟩
                            case measure => simp [intOf]; omega
                      · have k0 : decide (q < na) = false := by simp; omega
                        have HSN : Hid ((A.drop q).Sublist (l.drop (i + 1))) := by
                          show (A.drop q).Sublist (l.drop (i + 1))
                          rw [List.drop_of_length_le (l := A) (by rw [HNA.out]; omega)]
                          exact List.nil_sublist _
                        clear hq
                        go_quiet (fail)
                        have HB10 : Hid (Below V1.heap.size V1 (W9.drewN nq)) := below_drewN HB9.out _
                        clear c0 c1 c2
                        go_wp2
                        go_roundw
                        case rel => exact ⟨q, i + 1, by omega, by omega, rfl, by go_num, HSN, HB10⟩
                        case measure => simp [intOf]; omega
                    · have e2 : ¬ (i : Int) < n := by omega
                      obtain rfl : i = n := by omega
                      have hsub := HSUB.out
                      rw [List.drop_of_length_le (l := l) (by rw [HN.out]; omega)] at hsub
                      have hq2 : q = na := by
                        have := hsub.length_le
                        rw [List.length_drop, HNA.out] at this
                        simp at this
                        omega
                      have HBF := Lib.hid (HBW.out.trans (HBq.out.mono HBW.out.size))
                      have hto := to_any (.slice a i ca) l ((mo : Int) + 2) wr (HV.out.below HBF.out)
                      have hE0 : simE l (decide ((mo : Int) + 2 < 2)) = 0 := by unfold simE; rw [HME.out]; simp; omega
                      have hsl := sdrop_most (m := mo + 2) (by omega) l
                      unfold SimPost simL at hto
                      rw [hE0, if_pos rfl] at hto
                      obtain ⟨Cq, hCq⟩ : ∃ c, sdrop (soT ((mo : Int) + 2)) l = c := ⟨_, rfl⟩
                      rw [hCq] at hto
                      rw [show (((mo + 2 : Nat)) : Int) = (mo : Int) + 2 by omega, hCq, HN.out] at hsl
                      obtain ⟨nc, hnc⟩ : ∃ m, Cq.length = m := ⟨_, rfl⟩
                      rw [hnc] at hsl
                      have HTO := Lib.hid hto
                      have HSL := Lib.hid hsl
                      clear hsl
                      have hmin : (if (mo : Int) + 2 < (i : Int) then (mo : Int) + 2 else (i : Int)) = (nc : Int) := by have := HSL.out; split <;> omega
                      clear hto hE0 hCq hsub
                      go_upto_region 28 with (go_at_call 17; (with_reducible refine HTO.out.mono ?_); rintro e w9 ⟨v9, rfl, hg9, hb9⟩; obtain ⟨cva, cvc, hsh⟩ := hg9.gs.shape; rw [hnc] at hsh; subst hsh; have HB9 := Lib.hid (HBF.out.trans (hb9.mono HBF.out.size)); clear hg9 hb9)
                      obtain rfl := hq2
                      go_wp2
                      go_ret
                      exact ⟨rfl, HB9.out⟩
        · have hE1 : ∀ b, simE l b = smayE l := fun b => simE_bad (limit := 0) hme b
          have hT1 := HS.out W2 _ l lo (HV.out.below HB2.out)
          have hT2 : ∀ X, Below w.heap.size w X → _ := fun X hX => HS.out X _ l hi (HV.out.below hX)
          unfold simL at hT1 hT2
          simp only [hE1, if_neg hme] at hT1 hT2
          obtain ⟨me, hme2⟩ : ∃ m, smayE l = m := ⟨_, rfl⟩
          rw [hme2] at hT1 hT2 hme
          have hne : ((me : Int) != 0) = true := by simp; omega
          have hee : ((me : Int) == me) = true := by simp
          have HT1 := Lib.hid hT1
          have HT2 := Lib.hid hT2
          clear hT1 hT2 hE1 hme2 hme HS
          go_wp2_with (first
            | (go_at_call 16; (with_reducible refine (HT1.out).mono ?_); rintro e w4 ⟨v4, rfl, hg4, hb4⟩; obtain ⟨va, vc, hsh⟩ := hg4.gs.shape; rw [List.length_nil] at hsh; subst hsh; have HB4 := Lib.hid (HB2.out.trans (hb4.mono HB2.out.size)); clear hg4 hb4)
            | (go_at_call 16; (with_reducible refine (HT2.out _ HB4.out).mono ?_); rintro e w5 ⟨v5, rfl, hg5, hb5⟩; obtain ⟨vb, vd, hsh⟩ := hg5.gs.shape; rw [List.length_nil] at hsh; subst hsh; have HB5 := Lib.hid (HB4.out.trans (hb5.mono HB4.out.size)); clear hg5 hb5))
          go_ret
          exact ⟨rfl, HB5.out⟩

end Go.Proofs.Ytbonapdainlpjaa
