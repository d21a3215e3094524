/- Layer 53 (simplify): the walks of may, Simplify, To on both sides. -/
import Derived.Test.YtbonapdainlpjaaSi4
import Derived.Test.YtbonapdainlpjaaTrace0
import Derived.Deep.RegionHeld3
import Derived.Deep.CutBlock
import Derived.Deep.RegionLaw
import Derived.Lib.QuietBelow
import Derived.Lib.SliceRun
set_option linter.unusedSimpArgs false
set_option linter.unusedVariables false
namespace Go.Proofs.Ytbonapdainlpjaa
open Go.RowKit Go.Sort

/-- the fault of samples -/
noncomputable def smayE (l : List Smp) : Nat := if 2048 < l.length then 3 else @ite _ (SRight l) (Classical.propDecidable _) 0 2
theorem smayE_3 {l : List Smp} (h : 2048 < l.length) : smayE l = 3 := by unfold smayE; rw [if_pos h]
theorem smayE_0 {l : List Smp} (h : l.length ≤ 2048) (hr : SRight l) : smayE l = 0 := by unfold smayE; rw [if_neg (by omega)]; exact @if_pos _ (Classical.propDecidable _) hr _ _ _
theorem smayE_2 {l : List Smp} (h : l.length ≤ 2048) (hr : ¬ SRight l) : smayE l = 2 := by unfold smayE; rw [if_neg (by omega)]; exact @if_neg _ (Classical.propDecidable _) hr _ _ _
set_option maxRecDepth 100000 in
set_option maxHeartbeats 3200000 in
theorem simay_any (va : Value) (l : List Smp) (w : World) (ha : Ss w va l) : Calls Try.prog 79 #[va] w fun e w' => e = .returned (.int .i64 (smayE l : Nat)) ∧ Below w.heap.size w w' := by
  obtain ⟨n, hn⟩ : ∃ n, l.length = n := ⟨_, rfl⟩
  obtain ⟨a, ca, b1, o1, rfl, ha1, ha2, ha3, ha4, ha5⟩ := Ss.open_n elS ha n hn
  clear ha
  have HN := Lib.hid hn
  have X := Lib.hid ha3
  have C : Hid (∀ W, Below w.heap.size w W → ∀ i s, l[i]? = some s → W.cell? ⟨b1, o1 i, none⟩ = some (.int .i64 s.t) ∧ W.cell? ⟨b1, o1 i + 1, none⟩ = some (.int .i64 s.x) ∧ W.cell? ⟨b1, o1 i + 2, none⟩ = some (.int .i64 s.y)) := by
    intro W hW i s hs
    have hi : i < n := by rw [← hn]; exact (List.getElem?_eq_some_iff.1 hs).1
    obtain ⟨h1, h2, h3⟩ := ha5 i s hs
    exact ⟨(hW.cell (ha4 i hi)).trans h1, (hW.cell (by exact ha4 i hi)).trans h2, (hW.cell (by exact ha4 i hi)).trans h3⟩
  clear hn ha3 ha4 ha5
  go_enter Try.func79, Try.ntmps79
  by_cases hbig : 2048 < n
  · have HE : Hid (smayE l = 3) := smayE_3 (by rw [HN.out]; exact hbig)
    have hb2 : (2048 : Int) < n := by omega
    go_wp2
    go_ret
    exact ⟨by rw [HE.out]; rfl, Below.refl _ _⟩
  · have hb2 : ¬ (2048 : Int) < n := by omega
    go_wp2_with fail
    go_loopw [10] (fun i wr => ∃ k : Nat, k ≤ n ∧ i = .int .i64 k ∧ Hid (Below w.heap.size w wr) ∧ Hid (∀ i s, i < k → l[i]? = some s → SMay s ∧ (0 < i → ∀ p, l[i - 1]? = some p → p.t < s.t))) (fun i _ => n - (intOf i).toNat)
    case atStart => exact ⟨0, by omega, rfl, Below.refl _ _, fun i s hi => by omega⟩
    case round =>
      obtain ⟨k, hk, rfl, HB, hR⟩ := hrel
      by_cases hlt : k < n
      · have e1 : (k : Int) < n := by omega
        obtain ⟨s, hs⟩ : ∃ s, l[k]? = some s := ⟨_, List.getElem?_eq_getElem (by have := HN.out; omega)⟩
        obtain ⟨p0, p1, p2⟩ := C.out _ HB.out _ _ hs
        have x0 := fun W => X.out W (k : Int) (by omega) (by omega)
        rw [show ((k : Int)).toNat = k by omega] at x0
        have HS := Lib.hid hs
        clear hs
        obtain ⟨st, sx, sy⟩ := s
        dsimp only at p0 p1 p2
        go_upto_region 6 with (with_reducible refine wpList_store_new rfl _ _ rfl rfl rfl (by kernel_rfl) (by simp) (by simp [Value.oneCell']) ?_)
        clear p0 p1 p2 x0
        have hrow : (wr.alloc (.cells #[.int .i64 st, .int .i64 sx, .int .i64 sy] 30)).heap[wr.heap.size]? = some (.cells #[.int .i64 st, .int .i64 sx, .int .i64 sy] 30 (0, 0)) := heap_alloc_new _ _
        have hb5 : Below w.heap.size w (wr.alloc (.cells #[.int .i64 st, .int .i64 sx, .int .i64 sy] 30)) := HB.out.alloc HB.out.size _
        obtain ⟨W5, hW5⟩ : ∃ W, wr.alloc (.cells #[.int .i64 st, .int .i64 sx, .int .i64 sy] 30) = W := ⟨_, rfl⟩
        obtain ⟨g5, hg5⟩ : ∃ g, wr.heap.size = g := ⟨_, rfl⟩
        rw [hW5] at hb5
        rw [hW5, hg5] at hrow
        rw [hW5, hg5]
        have HB5 := Lib.hid hb5
        clear hb5 hW5 hg5
        have q0 : W5.cell? ⟨g5, 0, none⟩ = some (.int .i64 st) := cell_of_row W5 _ _ _ _ _ hrow
        have r0 := fun d os => cell_regrown q0 d os
        have q1 : W5.cell? ⟨g5, 1, none⟩ = some (.int .i64 sx) := cell_of_row W5 _ _ _ _ _ hrow
        have r1 := fun d os => cell_regrown q1 d os
        have q2 : W5.cell? ⟨g5, 2, none⟩ = some (.int .i64 sy) := cell_of_row W5 _ _ _ _ _ hrow
        have r2 := fun d os => cell_regrown q2 d os
        clear hrow q0 q1 q2
        simp only [Act.put]
        by_cases hm : mayB ⟨st, sx, sy⟩ = true
        · have HSM : Hid (SMay ⟨st, sx, sy⟩) := (mayB_iff _).1 hm
          have hm9 := smay_is ⟨st, sx, sy⟩ true hm
          dsimp only at hm9
          have HM := Lib.hid hm9
          clear hm9
          clear hm
          by_cases hk0 : k = 0
          · have hd : decide (0 < k) = false := by simp; omega
            have HK := Lib.hid hk0
            clear hk0
            refine wp_region_quiet_below (by kernel_rfl) (by kernel_rfl) ?_
            repeat (go_big_quiet_step ((go_at_call 84; with_reducible exact Calls.regrown_of (HM.out _))))
            refine wpQuiet_nil ?_
            intro _ hw'
            obtain ⟨⟨dq, osq⟩, hw''⟩ := hw'
            subst hw''
            have hb2 := below_regrown W5 dq osq
            obtain ⟨w2, hwq⟩ : ∃ x, x = grow (redrawn W5 dq) osq := ⟨_, rfl⟩
            rw [← hwq] at hb2 ⊢
            clear hwq
            have HB2 := Lib.hid (HB5.out.trans (hb2.mono HB5.out.size))
            clear hb2 r0 r1 r2
            go_wp2
            go_roundw
            case rel =>
              refine ⟨k + 1, by omega, by go_num, HB2, fun i s' hi hs' => ?_⟩
              by_cases hik : i = k
              · subst hik
                rw [HS.out] at hs'
                cases hs'
                exact ⟨HSM.out, fun h0 => absurd HK.out (by omega)⟩
              · exact hR.out i s' (by omega) hs'
            case measure => simp [intOf]; omega
          · have hd : decide (0 < k) = true := by simp; omega
            obtain ⟨p, hp⟩ : ∃ p, l[k - 1]? = some p := ⟨_, List.getElem?_eq_getElem (by have := HN.out; omega)⟩
            have hprev := (C.out _ HB5.out _ _ hp).1
            have r3 := fun d os => cell_regrown hprev d os
            have e2 : ((k : Int) - 1).toNat = k - 1 := by omega
            have e3 : (0 : Int) ≤ (k : Int) - 1 := by omega
            have e4 : (k : Int) - 1 < n := by omega
            have HP := Lib.hid hp
            have hidx := fun W => X.out W ((k : Int) - 1) e3 e4
            rw [e2] at hidx
            obtain ⟨pt, px, py⟩ := p
            dsimp only at r3
            clear hp e2 hprev
            by_cases hle : st ≤ pt
            · have hd2 : decide (st ≤ pt) = true := by simpa using hle
              have HE : Hid (smayE l = 2) := smayE_2 (by rw [HN.out]; omega) fun h => by
                have := (h k _ HS.out).2 (by omega) _ HP.out
                dsimp only at this
                omega
              refine wp_region_quiet_below (by kernel_rfl) (by kernel_rfl) ?_
              repeat (go_big_quiet_step ((go_at_call 84; with_reducible exact Calls.regrown_of (HM.out _))))
              refine wpQuiet_nil ?_
              intro _ hw'
              obtain ⟨⟨dq, osq⟩, hw''⟩ := hw'
              subst hw''
              have hb2 := below_regrown W5 dq osq
              obtain ⟨w2, hwq⟩ : ∃ x, x = grow (redrawn W5 dq) osq := ⟨_, rfl⟩
              rw [← hwq] at hb2 ⊢
              clear hwq
              have HB2 := Lib.hid (HB5.out.trans (hb2.mono HB5.out.size))
              clear hb2 r0 r1 r2 r3
              go_wp2
              go_ret
              exact ⟨by rw [HE.out]; rfl, HB2.out⟩
            · have hd2 : decide (st ≤ pt) = false := by simpa using hle
              refine wp_region_quiet_below (by kernel_rfl) (by kernel_rfl) ?_
              repeat (go_big_quiet_step ((go_at_call 84; with_reducible exact Calls.regrown_of (HM.out _))))
              refine wpQuiet_nil ?_
              intro _ hw'
              obtain ⟨⟨dq, osq⟩, hw''⟩ := hw'
              subst hw''
              have hb2 := below_regrown W5 dq osq
              obtain ⟨w2, hwq⟩ : ∃ x, x = grow (redrawn W5 dq) osq := ⟨_, rfl⟩
              rw [← hwq] at hb2 ⊢
              clear hwq
              have HB2 := Lib.hid (HB5.out.trans (hb2.mono HB5.out.size))
              clear hb2 r0 r1 r2 r3
              go_wp2
              go_roundw
              case rel =>
                refine ⟨k + 1, by omega, by go_num, HB2, fun i s' hi hs' => ?_⟩
                by_cases hik : i = k
                · subst hik
                  rw [HS.out] at hs'
                  cases hs'
                  refine ⟨HSM.out, fun h0 p' hp' => ?_⟩
                  rw [HP.out] at hp'
                  cases hp'
                  dsimp only
                  omega
                · exact hR.out i s' (by omega) hs'
              case measure => simp [intOf]; omega
        · have hm' : mayB ⟨st, sx, sy⟩ = false := by simpa using hm
          have hm9 := smay_is ⟨st, sx, sy⟩ false hm'
          dsimp only at hm9
          have HM := Lib.hid hm9
          clear hm9
          have HE : Hid (smayE l = 2) := smayE_2 (by rw [HN.out]; omega) fun h => by
            have := (mayB_iff _).2 (h k _ HS.out).1
            rw [hm'] at this
            cases this
          clear hm hm'
          refine wp_region_quiet_below (by kernel_rfl) (by kernel_rfl) ?_
          repeat (go_big_quiet_step ((go_at_call 84; with_reducible exact Calls.regrown_of (HM.out _))))
          refine wpQuiet_nil ?_
          intro _ hw'
          obtain ⟨⟨dq, osq⟩, hw''⟩ := hw'
          subst hw''
          have hb2 := below_regrown W5 dq osq
          obtain ⟨w2, hwq⟩ : ∃ x, x = grow (redrawn W5 dq) osq := ⟨_, rfl⟩
          rw [← hwq] at hb2 ⊢
          clear hwq
          have HB2 := Lib.hid (HB5.out.trans (hb2.mono HB5.out.size))
          clear hb2 r0 r1 r2
          go_wp2
          go_ret
          exact ⟨by rw [HE.out]; rfl, HB2.out⟩
      · have HE : Hid (smayE l = 0) := smayE_0 (by rw [HN.out]; omega) fun i s hi => hR.out i s (by have := (List.getElem?_eq_some_iff.1 hi).1; have := HN.out; omega) hi
        have e1 : ¬ (k : Int) < n := by omega
        go_wp2
        go_ret
        exact ⟨by rw [HE.out]; rfl, HB.out⟩

theorem wright_any (va : Value) (l : List Smp) (w : World) (ha : Ss w va l) : Calls Try.prog 18 #[va] w fun e w' => e = .returned (.int .i64 (smayE l : Nat)) ∧ Below w.heap.size w w' := by
  obtain ⟨a, c, rfl⟩ := Ss.shape ha
  have hr := rright_any _ l w ha
  unfold RightPost at hr
  have HR := Lib.hid hr
  obtain ⟨n, hn⟩ : ∃ n, l.length = n := ⟨_, rfl⟩
  rw [hn] at HR ⊢
  have HN := Lib.hid hn
  clear hr hn ha
  go_enter Try.func18, Try.ntmps18
  by_cases hbig : 2048 < n
  · have HE : Hid (smayE l = 3) := smayE_3 (by rw [HN.out]; exact hbig)
    have hb2 : (2048 : Int) < n := by omega
    go_wp2
    go_ret
    exact ⟨by rw [HE.out]; rfl, Below.refl _ _⟩
  · have hb2 : ¬ (2048 : Int) < n := by omega
    have HBN := Lib.hid hbig
    go_wp2_with (go_at_call 83; refine HR.out.mono ?_; rintro e w2 ⟨b, rfl, hb, hbl⟩; have HBB := Lib.hid hb; have HB2 := Lib.hid hbl; clear hb hbl)
    · have HE : Hid (smayE l = 2) := smayE_2 (by rw [HN.out]; have := HBN.out; omega) fun h => by
        have := HBB.out.2 h
        simp_all
      go_ret
      exact ⟨by rw [HE.out]; rfl, HB2.out⟩
    · have HE : Hid (smayE l = 0) := smayE_0 (by rw [HN.out]; have := HBN.out; omega) (HBB.out.1 (by simp_all))
      go_ret
      exact ⟨by rw [HE.out]; rfl, HB2.out⟩

end Go.Proofs.Ytbonapdainlpjaa
