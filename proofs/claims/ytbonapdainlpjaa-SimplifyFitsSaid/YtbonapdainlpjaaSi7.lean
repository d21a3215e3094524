/- Layer 53 (simplify): the example; the walk of the statement SimplifyDrops. -/
import Derived.Test.YtbonapdainlpjaaSi6
import Derived.Deep.RegionHeld3
import Derived.Deep.CutBlock
import Derived.Deep.DeepCutAuto
import Derived.Deep.RegionLaw
import Derived.Lib.QuietBelow
import Derived.Lib.SliceRun
set_option linter.unusedSimpArgs false
set_option linter.unusedVariables false
namespace Go.Proofs.Ytbonapdainlpjaa
open Go.RowKit Go.Sort

theorem siawake_any (w : World) : Calls Try.prog 15 #[] w fun e w' => e = .returned (.bool true) ∧ Below w.heap.size w w' := by
  have hss := ss_lit w 30 #[.int .i64 0, .int .i64 0, .int .i64 0, .int .i64 1, .int .i64 5, .int .i64 5, .int .i64 2, .int .i64 9, .int .i64 9] [⟨0, 0, 0⟩, ⟨1, 5, 5⟩, ⟨2, 9, 9⟩] 3 rfl (by decide) rfl
  have hb := (Below.refl w.heap.size w).alloc (Nat.le_refl _) (.cells #[.int .i64 0, .int .i64 0, .int .i64 0, .int .i64 1, .int .i64 5, .int .i64 5, .int .i64 2, .int .i64 9, .int .i64 9] 30)
  have hE : smayE [⟨0, 0, 0⟩, ⟨1, 5, 5⟩, ⟨2, 9, 9⟩] = 0 := smayE_0 (by decide) (by
    intro i s hs
    rcases i with _ | _ | _ | i
    · simp at hs; subst hs; exact ⟨by unfold SMay; decide, fun h => by omega⟩
    · simp at hs; subst hs; exact ⟨by unfold SMay; decide, fun _ p hp => by simp at hp; subst hp; decide⟩
    · simp at hs; subst hs; exact ⟨by unfold SMay; decide, fun _ p hp => by simp at hp; subst hp; decide⟩
    · simp at hs)
  have hD : sdrop (soS 1) [⟨0, 0, 0⟩, ⟨1, 5, 5⟩, ⟨2, 9, 9⟩] = [⟨0, 0, 0⟩, ⟨2, 9, 9⟩] := by
    have h1 : sleast [⟨0, 0, 0⟩, ⟨1, 5, 5⟩, ⟨2, 9, 9⟩] = some (1, 0) := by rfl
    rw [sdrop_go h1 (by decide)]
    exact sdrop_none rfl
  have HS := Lib.hid (simplify_any _ _ 1 _ hss)
  rw [hD] at HS
  have HF : Hid (simE [⟨0, 0, 0⟩, ⟨1, 5, 5⟩, ⟨2, 9, 9⟩] (decide ((1 : Int) < 0)) = 0) := by show simE _ _ = 0; unfold simE; rw [hE]; rfl
  have HB := Lib.hid hb
  unfold SimPost simL at HS
  rw [HF.out, if_pos rfl] at HS
  clear hss hb hE hD HF
  go_enter Try.func15, Try.ntmps15
  go_upto_region 2 with (go_at_call 16; refine HS.out.mono ?_; rintro e w2 ⟨v2, rfl, hg2, hb2⟩; have HG2 := Lib.hid hg2; have HB2 := Lib.hid (HB.out.trans (hb2.mono HB.out.size)); clear hg2 hb2)
  have hs2 : Ss w2 v2 [⟨0, 0, 0⟩, ⟨2, 9, 9⟩] := HG2.out.gs
  obtain ⟨a, c, b, o, rfl, _, _, hi, _, hc⟩ := Ss.open_n elS hs2 2 rfl
  have x1 := fun W => hi W 1 (by omega) (by omega)
  obtain ⟨c0, c1, c2⟩ := hc 1 _ rfl
  dsimp only at c0 c1 c2
  clear hi hc hs2 HG2
  go_wp2
  go_ret
  exact ⟨rfl, HB2.out⟩

theorem simL_len {l m : List Smp} {b : Bool} (h : simE l b ≠ 0) : (simL l m b).length = 0 := by unfold simL; rw [if_neg h]; rfl

set_option maxRecDepth 100000 in
set_option maxHeartbeats 6400000 in
theorem simplifydrops_walk (v : Value) (l : List Smp) (limit most : Int) (w : World) (h : Ss w v l) :
    Calls Try.prog 3 #[v, .int .i64 limit, .int .i64 most] w fun e w' => e = .returned (.bool true) ∧ Below w.heap.size w w' := by
  obtain ⟨n, hn⟩ : ∃ n, l.length = n := ⟨_, rfl⟩
  have HV := Lib.hid h
  obtain ⟨a, ca, b1, o1, rfl, ha1, ha2, ha3, ha4, ha5⟩ := Ss.open_n elS h n hn
  have HN := Lib.hid hn
  have X := Lib.hid ha3
  have C : Hid (∀ W, Below w.heap.size w W → ∀ i s, l[i]? = some s → W.cell? ⟨b1, o1 i, none⟩ = some (.int .i64 s.t) ∧ W.cell? ⟨b1, o1 i + 1, none⟩ = some (.int .i64 s.x) ∧ W.cell? ⟨b1, o1 i + 2, none⟩ = some (.int .i64 s.y)) := by
    intro W hW i s hs
    have hi : i < n := by rw [← hn]; exact (List.getElem?_eq_some_iff.1 hs).1
    obtain ⟨h1, h2, h3⟩ := ha5 i s hs
    exact ⟨(hW.cell (ha4 i hi)).trans h1, (hW.cell (by exact ha4 i hi)).trans h2, (hW.cell (by exact ha4 i hi)).trans h3⟩
  clear hn ha3 ha4 ha5 h
  go_enter Try.func3, Try.ntmps3
  by_cases hbig : 100 < n
  · have hb2 : (100 : Int) < n := by omega
    go_wp2_with (go_at_call 15; refine (siawake_any _).mono ?_; rintro e w1 ⟨rfl, hb1⟩; have HB1 := Lib.hid hb1; clear hb1)
    go_ret
    exact ⟨rfl, HB1.out⟩
  · have hb2 : ¬ (100 : Int) < n := by omega
    have HS1 : Hid (∀ X, Below w.heap.size w X → Calls Try.prog 16 #[.slice a n ca, .int .i64 limit] X (SimPost l (sdrop (soS limit) l) (decide (limit < 0)) X)) := fun X hX => simplify_any _ l limit X (HV.out.below hX)
    have HS2 : Hid (∀ X, Below w.heap.size w X → Calls Try.prog 17 #[.slice a n ca, .int .i64 most] X (SimPost l (sdrop (soT most) l) (decide (most < 2)) X)) := fun X hX => to_any _ l most X (HV.out.below hX)
    have HR : Hid (∀ X, Below w.heap.size w X → Calls Try.prog 18 #[.slice a n ca] X fun e w' => e = .returned (.int .i64 (smayE l : Nat)) ∧ Below X.heap.size X w') := fun X hX => wright_any _ l X (HV.out.below hX)
    unfold SimPost at HS1 HS2
    obtain ⟨me, hme⟩ : ∃ m, smayE l = m := ⟨_, rfl⟩
    obtain ⟨g1, hg1⟩ : ∃ m, simE l (decide (limit < 0)) = m := ⟨_, rfl⟩
    obtain ⟨g2, hg2⟩ : ∃ m, simE l (decide (most < 2)) = m := ⟨_, rfl⟩
    have HG1 : Hid (g1 = if me ≠ 0 then me else if limit < 0 then 2 else 0) := by show g1 = _; rw [← hg1, ← hme]; unfold simE; simp
    have HG2 : Hid (g2 = if me ≠ 0 then me else if most < 2 then 2 else 0) := by show g2 = _; rw [← hg2, ← hme]; unfold simE; simp
    rw [hg1] at HS1
    rw [hg2] at HS2
    rw [hme] at HR
    obtain ⟨L1, hL1⟩ : ∃ m, simL l (sdrop (soS limit) l) (decide (limit < 0)) = m := ⟨_, rfl⟩
    obtain ⟨L2, hL2⟩ : ∃ m, simL l (sdrop (soT most) l) (decide (most < 2)) = m := ⟨_, rfl⟩
    rw [hL1] at HS1
    rw [hL2] at HS2
    have HL1 : Hid ((g1 = 0 → L1 = sdrop (soS limit) l) ∧ (g1 ≠ 0 → L1.length = 0)) := ⟨fun h => by rw [← hL1]; unfold simL; rw [hg1, if_pos h], fun h => by rw [← hL1]; exact simL_len (by rw [hg1]; exact h)⟩
    have HL2 : Hid ((g2 = 0 → L2 = sdrop (soT most) l) ∧ (g2 ≠ 0 → L2.length = 0)) := ⟨fun h => by rw [← hL2]; unfold simL; rw [hg2, if_pos h], fun h => by rw [← hL2]; exact simL_len (by rw [hg2]; exact h)⟩
    clear hme hg1 hg2 hL1 hL2
    obtain ⟨n1, hn1⟩ : ∃ m, L1.length = m := ⟨_, rfl⟩
    obtain ⟨n2, hn2⟩ : ∃ m, L2.length = m := ⟨_, rfl⟩
    go_upto_region 6 with (first
      | (go_at_call 15; refine (siawake_any _).mono ?_; rintro e w1 ⟨rfl, hb1⟩; have HB1 := Lib.hid hb1; clear hb1)
      | (go_at_call 16; refine (HS1.out _ HB1.out).mono ?_; rintro e w2 ⟨v2, rfl, hgw, hb⟩; obtain ⟨va, vc, hsh⟩ := hgw.gs.shape; rw [hn1] at hsh; subst hsh; have HA2 := Lib.hid hgw.gs; have HB2 := Lib.hid (HB1.out.trans (hb.mono HB1.out.size)); clear hgw hb))
    go_upto_region 8 with (first
      | (go_at_call 17; refine (HS2.out _ HB2.out).mono ?_; rintro e w3 ⟨v3, rfl, hgw, hb⟩; obtain ⟨vb, vd, hsh⟩ := hgw.gs.shape; rw [hn2] at hsh; subst hsh; have HA3 := Lib.hid hgw.gs; have HA23 := Lib.hid (HA2.out.below hb); have HB3 := Lib.hid (HB2.out.trans (hb.mono HB2.out.size)); clear hgw hb)
      | (go_at_call 18; refine (HR.out _ HB3.out).mono ?_; rintro e w4 ⟨rfl, hb⟩; have HB34 := Lib.hid hb; have HB4 := Lib.hid (HB3.out.trans (hb.mono HB3.out.size)); clear hb)
      | (go_at_call 18; refine (HR.out _ HB4.out).mono ?_; rintro e w5 ⟨rfl, hb⟩; have h35 := HB34.out.trans (hb.mono HB34.out.size); have HA5 := Lib.hid (HA23.out.below h35); have HC5 := Lib.hid (HA3.out.below h35); have HB5 := Lib.hid (HB4.out.trans (hb.mono HB4.out.size)); clear hb h35))
    obtain ⟨nb1, hnb1⟩ : ∃ nb : Bool, (nb = true ↔ me = 0 ∧ limit < 0) := ⟨@decide _ (Classical.propDecidable _), by rw [@decide_eq_true_iff _ (Classical.propDecidable _)]⟩
    obtain ⟨nb2, hnb2⟩ : ∃ nb : Bool, (nb = true ↔ me = 0 ∧ most < 2) := ⟨@decide _ (Classical.propDecidable _), by rw [@decide_eq_true_iff _ (Classical.propDecidable _)]⟩
    have HNB1 := Lib.hid hnb1
    have HNB2 := Lib.hid hnb2
    clear hnb1 hnb2
    obtain ⟨M, hM⟩ : ∃ M : Int, ((me : Nat) : Int) = M := ⟨_, rfl⟩
    have HMM := Lib.hid hM
    rw [hM]
    clear hM
    go_cut [40] (fun c wx => c = .bool nb1 ∧ wx = w5)
    case first =>
      by_cases h0 : me = 0
      · have hM0 : (M == 0) = true := by have := HMM.out; simp; omega
        by_cases h1 : limit < 0
        · obtain rfl : nb1 = true := HNB1.out.2 ⟨h0, h1⟩
          go_wp2
          go_meet
          case rel => exact ⟨rfl, rfl⟩
        · obtain rfl : nb1 = false := by
            cases nb1
            · rfl
            · exact absurd (HNB1.out.1 rfl).2 h1
          go_wp2
          go_meet
          case rel => exact ⟨rfl, rfl⟩
      · have hM0 : (M == 0) = false := by have := HMM.out; simp; omega
        obtain rfl : nb1 = false := by
          cases nb1
          · rfl
          · exact absurd (HNB1.out.1 rfl).1 h0
        go_wp2
        go_meet
        case rel => exact ⟨rfl, rfl⟩
    case rest =>
      obtain ⟨rfl, hwc⟩ := hcut
      rw [hwc]
      clear hwc
      go_upto_if 40 with fail
      go_cut [11] (fun s11 wx => s11 = .int .i64 (g1 : Nat) ∧ wx = w5)
      case first =>
        rcases nb1 with _ | _
        · have hg : Hid ((g1 : Int) = M) := by
            have h1 := HG1.out
            have h2 := HMM.out
            show (g1 : Int) = M
            by_cases h0 : me = 0
            · rw [if_neg (by omega)] at h1
              rw [if_neg (fun h => by have := HNB1.out.2 ⟨h0, h⟩; cases this)] at h1
              omega
            · rw [if_pos h0] at h1; omega
          go_wp2
          go_meet
          case rel => exact ⟨by rw [hg.out], rfl⟩
        · have hg : Hid (g1 = 2) := by
            obtain ⟨h0, h1⟩ := HNB1.out.1 rfl
            show g1 = 2
            rw [HG1.out, if_neg (by omega), if_pos h1]
          go_wp2
          go_meet
          case rel => exact ⟨by rw [hg.out]; rfl, rfl⟩
      case rest =>
        obtain ⟨rfl, hwc⟩ := hcut
        rw [hwc]
        clear hwc
        go_upto_region 10 with fail
        go_cut [46] (fun c wx => c = .bool nb2 ∧ wx = w5)
        case first =>
          by_cases h0 : me = 0
          · have hM0 : (M == 0) = true := by have := HMM.out; simp; omega
            by_cases h1 : most < 2
            · obtain rfl : nb2 = true := HNB2.out.2 ⟨h0, h1⟩
              go_wp2
              go_meet
              case rel => exact ⟨rfl, rfl⟩
            · obtain rfl : nb2 = false := by
                cases nb2
                · rfl
                · exact absurd (HNB2.out.1 rfl).2 h1
              go_wp2
              go_meet
              case rel => exact ⟨rfl, rfl⟩
          · have hM0 : (M == 0) = false := by have := HMM.out; simp; omega
            obtain rfl : nb2 = false := by
              cases nb2
              · rfl
              · exact absurd (HNB2.out.1 rfl).1 h0
            go_wp2
            go_meet
            case rel => exact ⟨rfl, rfl⟩
        case rest =>
          obtain ⟨rfl, hwc⟩ := hcut
          rw [hwc]
          clear hwc
          go_upto_if 46 with fail
          go_cut [12] (fun s11 wx => s11 = .int .i64 (g2 : Nat) ∧ wx = w5)
          case first =>
            rcases nb2 with _ | _
            · have hg : Hid ((g2 : Int) = M) := by
                have h1 := HG2.out
                have h2 := HMM.out
                show (g2 : Int) = M
                by_cases h0 : me = 0
                · rw [if_neg (by omega)] at h1
                  rw [if_neg (fun h => by have := HNB2.out.2 ⟨h0, h⟩; cases this)] at h1
                  omega
                · rw [if_pos h0] at h1; omega
              go_wp2
              go_meet
              case rel => exact ⟨by rw [hg.out], rfl⟩
            · have hg : Hid (g2 = 2) := by
                obtain ⟨h0, h1⟩ := HNB2.out.1 rfl
                show g2 = 2
                rw [HG2.out, if_neg (by omega), if_pos h1]
              go_wp2
              go_meet
              case rel => exact ⟨by rw [hg.out]; rfl, rfl⟩
          case rest =>
            obtain ⟨rfl, hwc⟩ := hcut
            rw [hwc]
            clear hwc
            go_upto_region 12 with fail
            clear HNB1 HNB2 HMM
            go_cut [72] (fun c wx => c = .bool false ∧ wx = w5)
            case first =>
              have Z1 : ((g1 : Int) != 0) = false ∨ (((g1 : Int) != 0) = true ∧ decide (0 < n1) = false) := by
                by_cases z : g1 = 0
                · left; simp; omega
                · right
                  have := HL1.out.2 z
                  constructor
                  · simp; omega
                  · simp; omega
              have Z2 : ((g2 : Int) != 0) = false ∨ (((g2 : Int) != 0) = true ∧ decide (0 < n2) = false) := by
                by_cases z : g2 = 0
                · left; simp; omega
                · right
                  have := HL2.out.2 z
                  constructor
                  · simp; omega
                  · simp; omega
              rcases Z1 with z1 | ⟨z1, y1⟩
              all_goals
                rcases Z2 with z2 | ⟨z2, y2⟩
                all_goals
                  go_wp2
                  go_meet
                  case rel => exact ⟨rfl, rfl⟩
            case rest =>
              obtain ⟨rfl, hwc⟩ := hcut
              rw [hwc]
              clear hwc
              go_wp2_with fail
              go_loopw [13] (fun v13 wr => ∃ k : Nat, (k = 0 ∨ k + 2 ≤ n) ∧ v13 = .int .i64 ((k : Int) + 2) ∧ Hid (Below w5.heap.size w5 wr)) (fun v13 _ => n + 2 - (intOf v13).toNat)
              case atStart => exact ⟨0, .inl rfl, rfl, Below.refl _ _⟩
              case round =>
                obtain ⟨k, hk, rfl, HB⟩ := hrel
                have HBW := Lib.hid (HB5.out.trans (HB.out.mono HB5.out.size))
                by_cases hlt : k + 2 < n
                · have e1 : (k : Int) + 2 < n := by omega
                  obtain ⟨s0, hs0⟩ : ∃ s, l[k]? = some s := ⟨_, List.getElem?_eq_getElem (by rw [HN.out]; omega)⟩
                  obtain ⟨s1, hs1⟩ : ∃ s, l[k + 1]? = some s := ⟨_, List.getElem?_eq_getElem (by rw [HN.out]; omega)⟩
                  obtain ⟨s2, hs2⟩ : ∃ s, l[k + 2]? = some s := ⟨_, List.getElem?_eq_getElem (by rw [HN.out]; omega)⟩
                  obtain ⟨p0, p1, p2⟩ := C.out _ HBW.out _ _ hs0
                  obtain ⟨p3, p4, p5⟩ := C.out _ HBW.out _ _ hs1
                  obtain ⟨p6, p7, p8⟩ := C.out _ HBW.out _ _ hs2
                  have x0 := fun W => X.out W (k : Int) (by omega) (by omega)
                  have x1 := fun W => X.out W ((k : Int) + 1) (by omega) (by omega)
                  have x2 := fun W => X.out W ((k : Int) + 2) (by omega) (by omega)
                  rw [show ((k : Int)).toNat = k by omega] at x0
                  rw [show ((k : Int) + 1).toNat = k + 1 by omega] at x1
                  rw [show ((k : Int) + 2).toNat = k + 2 by omega] at x2
                  have x3 : ((k : Int) + 2 - 1) = (k : Int) + 1 := by omega
                  have x4 : ((k : Int) + 2 - 2) = (k : Int) := by omega
                  have r0 := fun d os => cell_regrown p0 d os
                  have r1 := fun d os => cell_regrown p1 d os
                  have r2 := fun d os => cell_regrown p2 d os
                  have r3 := fun d os => cell_regrown p3 d os
                  have r4 := fun d os => cell_regrown p4 d os
                  have r5 := fun d os => cell_regrown p5 d os
                  have r6 := fun d os => cell_regrown p6 d os
                  have r7 := fun d os => cell_regrown p7 d os
                  have r8 := fun d os => cell_regrown p8 d os
                  have AR := Lib.hid (area_any s0 s1 s2)
                  have AR2 := Lib.hid (warea_any s0 s1 s2)
                  obtain ⟨t0, x0', y0⟩ := s0
                  obtain ⟨t1, x1', y1⟩ := s1
                  obtain ⟨t2, x2', y2⟩ := s2
                  dsimp only at r0 r1 r2 r3 r4 r5 r6 r7 r8 AR AR2
                  obtain ⟨ar, har⟩ : ∃ z, sarea ⟨t0, x0', y0⟩ ⟨t1, x1', y1⟩ ⟨t2, x2', y2⟩ = z := ⟨_, rfl⟩
                  rw [har] at AR AR2
                  have haa : (ar != ar) = false := by simp
                  clear p0 p1 p2 p3 p4 p5 p6 p7 p8 hs0 hs1 hs2 har
                  go_upto_region 17 with fail
                  refine wp_region_quiet_below (by kernel_rfl) (by kernel_rfl) ?_
                  repeat (go_big_quiet_step (((first | (go_at_call 19; with_reducible exact Calls.regrown_of (AR.out _)) | (go_at_call 20; with_reducible exact Calls.regrown_of (AR2.out _))))))
                  refine wpQuiet_nil ?_
                  intro _ hw'
                  obtain ⟨⟨dq, osq⟩, hw''⟩ := hw'
                  subst hw''
                  have hb2 := below_regrown wr dq osq
                  obtain ⟨W2, hwq⟩ : ∃ x, x = grow (redrawn wr dq) osq := ⟨_, rfl⟩
                  rw [← hwq] at hb2 ⊢
                  clear hwq
                  have HB2 := Lib.hid (HB.out.trans (hb2.mono HB.out.size))
                  clear r0 r1 r2 r3 r4 r5 r6 r7 r8 hb2 x0 x1 x2 x3 x4
                  go_wp2
                  go_roundw
                  case rel => exact ⟨k + 1, .inr (by omega), by go_num, HB2⟩
                  case measure => simp [intOf]; omega
                · have e1 : ¬ (k : Int) + 2 < n := by omega
                  have HA6 : Hid (Ss wr (.slice va n1 vc) L1) := HA5.out.below HB.out
                  have HC6 : Hid (Ss wr (.slice vb n2 vd) L2) := HC5.out.below HB.out
                  have HW1 : Hid (∀ X, Below w.heap.size w X → Calls Try.prog 22 #[.slice a n ca, .int .i64 limit] X fun e w' => ∃ v', e = .returned v' ∧ Ss w' v' (sdrop (soS limit) l) ∧ Below X.heap.size X w') := fun X hX => wsimplify_any _ l limit X (HV.out.below hX) (by rw [HN.out]; omega)
                  have HW2 : Hid (∀ X, Below w.heap.size w X → Calls Try.prog 23 #[.slice a n ca, .int .i64 most] X fun e w' => ∃ v', e = .returned v' ∧ Ss w' v' (sdrop (soT most) l) ∧ Below X.heap.size X w') := fun X hX => wto_any _ l most X (HV.out.below hX) (by rw [HN.out]; omega)
                  have hn62 : n ≤ 100 := by omega
                  obtain ⟨G1, hG1⟩ : ∃ G : Int, (g1 : Int) = G := ⟨_, rfl⟩
                  obtain ⟨G2, hG2⟩ : ∃ G : Int, (g2 : Int) = G := ⟨_, rfl⟩
                  have HX1 := Lib.hid hG1
                  have HX2 := Lib.hid hG2
                  rw [hG1, hG2]
                  clear hG1 hG2
                  have HSM : Hid (∀ X va vb m, Ss X va m → Ss X vb m → Calls Try.prog 21 #[va, vb] X fun e w' => e = .returned (.bool true) ∧ Below X.heap.size X w') := fun X va vb m h1 h2 => ssame_any va vb m X h1 h2
                  by_cases z1 : g1 = 0
                  · have y1 : (G1 != 0) = false := by have := HX1.out; simp; omega
                    rw [HL1.out.1 z1] at HA6
                    clear z1
                    by_cases z2 : g2 = 0
                    · have y2 : (G2 != 0) = false := by have := HX2.out; simp; omega
                      rw [HL2.out.1 z2] at HC6
                      clear z2
                      go_wp2_with (first
                        | (go_at_call 22; refine (HW1.out _ HBW.out).mono ?_; rintro e w7 ⟨v7, rfl, hs7, hb7⟩; have HS7 := Lib.hid hs7; have HA7 := Lib.hid (HA6.out.below hb7); have HB67 := Lib.hid hb7; have HB7 := Lib.hid (HBW.out.trans (hb7.mono HBW.out.size)); clear hs7 hb7)
                        | (go_at_call 23; refine (HW2.out _ HB8.out).mono ?_; rintro e w9 ⟨v9, rfl, hs9, hb9⟩; have HS9 := Lib.hid hs9; have HA9 := Lib.hid (HC6.out.below (HB68.out.trans (hb9.mono HB68.out.size))); have HB9 := Lib.hid (HB8.out.trans (hb9.mono HB8.out.size)); clear hs9 hb9)
                        | (go_at_call 21; with_reducible refine (HSM.out _ _ _ _ HA7.out HS7.out).mono ?_; rintro e w8 ⟨rfl, hb8⟩; have HB68 := Lib.hid (HB67.out.trans (hb8.mono HB67.out.size)); have HB8 := Lib.hid (HB7.out.trans (hb8.mono HB7.out.size)); clear hb8)
                        | (go_at_call 21; with_reducible refine (HSM.out _ _ _ _ HA9.out HS9.out).mono ?_; rintro e w10 ⟨rfl, hb10⟩; have HB10 := Lib.hid (HB9.out.trans (hb10.mono HB9.out.size)); clear hb10))
                      go_ret
                      exact ⟨rfl, HB10.out⟩
                    · have y2 : (G2 != 0) = true := by have := HX2.out; simp; omega
                      clear z2
                      go_wp2_with (first
                        | (go_at_call 22; refine (HW1.out _ HBW.out).mono ?_; rintro e w7 ⟨v7, rfl, hs7, hb7⟩; have HS7 := Lib.hid hs7; have HA7 := Lib.hid (HA6.out.below hb7); have HB7 := Lib.hid (HBW.out.trans (hb7.mono HBW.out.size)); clear hs7 hb7)
                        | (go_at_call 21; with_reducible refine (HSM.out _ _ _ _ HA7.out HS7.out).mono ?_; rintro e w8 ⟨rfl, hb8⟩; have HB8 := Lib.hid (HB7.out.trans (hb8.mono HB7.out.size)); clear hb8))
                      go_ret
                      exact ⟨rfl, HB8.out⟩
                  · have y1 : (G1 != 0) = true := by have := HX1.out; simp; omega
                    clear z1
                    by_cases z2 : g2 = 0
                    · have y2 : (G2 != 0) = false := by have := HX2.out; simp; omega
                      rw [HL2.out.1 z2] at HC6
                      clear z2
                      go_wp2_with (first
                        | (go_at_call 23; refine (HW2.out _ HBW.out).mono ?_; rintro e w9 ⟨v9, rfl, hs9, hb9⟩; have HS9 := Lib.hid hs9; have HA9 := Lib.hid (HC6.out.below hb9); have HB9 := Lib.hid (HBW.out.trans (hb9.mono HBW.out.size)); clear hs9 hb9)
                        | (go_at_call 21; with_reducible refine (HSM.out _ _ _ _ HA9.out HS9.out).mono ?_; rintro e w10 ⟨rfl, hb10⟩; have HB10 := Lib.hid (HB9.out.trans (hb10.mono HB9.out.size)); clear hb10))
                      go_ret
                      exact ⟨rfl, HB10.out⟩
                    · have y2 : (G2 != 0) = true := by have := HX2.out; simp; omega
                      clear z2
                      go_wp2
                      go_ret
                      exact ⟨rfl, HBW.out⟩

end Go.Proofs.Ytbonapdainlpjaa
