/- Layer 15 (graph), the document's side: Check. -/
import Derived.Test.YtbonapdainlpjaaVp1
import Derived.Deep.DeepCutAuto
import Derived.Deep.CutBlock
import Derived.Lib.QuietBelow
set_option linter.unusedSimpArgs false
namespace Go.Proofs.Ytbonapdainlpjaa
open Go.RowKit Go.Sort

theorem link_cells {w : World} {q : Nat} {x y z : Int} (h : w.heap[q]? = some (.cells #[.int .i64 x, .int .i64 y, .int .i64 z] 146 (0, 0))) :
    w.cell? ⟨q, 0, none⟩ = some (.int .i64 x) ∧ w.cell? ⟨q, 1, none⟩ = some (.int .i64 y) ∧ w.cell? ⟨q, 2, none⟩ = some (.int .i64 z) :=
  ⟨cell_of_row w _ _ _ _ _ h, cell_of_row w _ _ _ _ _ h, cell_of_row w _ _ _ _ _ h⟩

set_option maxRecDepth 100000 in
set_option maxHeartbeats 1600000 in
theorem rgCheck_any (n : Net) (vs vl : Value) (w : World) (h : NetV w n vs vl) : Calls Try.prog 74 #[n.agg vs vl] w fun e w' => e = .returned (.int .i64 (netE n)) ∧ Below w.heap.size w w' := by
  obtain ⟨ver, st, ln⟩ := n
  obtain ⟨ns, hns⟩ : ∃ x, st.length = x := ⟨_, rfl⟩
  obtain ⟨nl, hnl⟩ : ∃ x, ln.length = x := ⟨_, rfl⟩
  obtain ⟨a, c, sb, so, rfl, -, -, hix1, hlt1, hcell1, -⟩ := h.1.open_n layS elSt ns hns
  obtain ⟨b, d, lb, lo, rfl, -, -, hix, hlt', hcell, -⟩ := h.2.open_n layL elLn nl hnl
  obtain ⟨E, hE⟩ : ∃ E, netE ⟨ver, st, ln⟩ = E := ⟨_, rfl⟩
  have HE3 : Hid (4096 < ns ∨ 16384 < nl → E = 3) := fun hh => by rw [← hE]; unfold netE; rw [if_pos (by simpa [hns, hnl] using hh)]
  have HE0 : Hid (¬ (4096 < ns ∨ 16384 < nl) → gwi ver 1 1048576 = true → stBad st ns = false → lnOk ns ln nl = true → E = 0) := fun hh h1 h2 h3 => by
    rw [← hE]; unfold netE; rw [if_neg (by simpa [hns, hnl] using hh), if_pos ⟨h1, by rw [hns]; exact h2, by rw [hns, hnl]; exact h3⟩]
  have HE2 : Hid (¬ (4096 < ns ∨ 16384 < nl) → (gwi ver 1 1048576 = false ∨ stBad st st.length = true ∨ lnOk ns ln nl = false) → E = 2) := fun hh h1 => by
    rw [← hE]; unfold netE
    rw [if_neg (by simpa [hns, hnl] using hh), if_neg]
    rintro ⟨k1, k2, k3⟩
    simp only [hns, hnl] at k3
    rcases h1 with h1 | h1 | h1
    · rw [h1] at k1; exact absurd k1 (by decide)
    · simp only at k2
      rw [h1] at k2; exact absurd k2 (by decide)
    · rw [h1] at k3; exact absurd k3 (by decide)
  rw [hE]
  unfold Net.agg
  simp only
  have HC := Lib.hid hcell
  have HLT := Lib.hid hlt'
  have HC1 := Lib.hid hcell1
  have HLT1 := Lib.hid hlt1
  have HNL := Lib.hid hnl
  have HNS := Lib.hid hns
  obtain ⟨W, hW⟩ : ∃ W, w.alloc (.cells #[.int .i64 ver, .slice a ns c, .slice b nl d] 95) = W := ⟨_, rfl⟩
  obtain ⟨q, hq⟩ : ∃ q, w.heap.size = q := ⟨_, rfl⟩
  have hr : W.heap[q]? = some (.cells #[.int .i64 ver, .slice a ns c, .slice b nl d] 95 (0, 0)) := by rw [← hW, ← hq]; exact heap_alloc_new _ _
  have hB : Below w.heap.size w W := by rw [← hW]; exact (Below.refl _ _).alloc (Nat.le_refl _) _
  have HK := Lib.hid (fun (V : World) (hV : Below W.heap.size W V) => net_cells ((hV.block q (heap_lt hr)).trans hr))
  obtain ⟨s0, s1, s2⟩ := net_cells hr
  have HW := Lib.hid hW
  have HB := Lib.hid hB
  have HQ := Lib.hid hq
  clear h hE hns hnl hcell hlt' hcell1 hlt1 hW hq hr hB
  go_enter Try.func74, Try.ntmps74
  go_upto_region 1 with fail
  rw [HW.out, HQ.out]
  by_cases hbig : 4096 < ns ∨ 16384 < nl
  · have hf := HE3.out hbig
    have HF := Lib.hid hf
    clear hf
    rcases hbig with hb | hb
    · have e1 : (4096 : Int) < ns := by omega
      go_wp2
      go_ret
      exact ⟨by rw [HF.out]; rfl, HB.out⟩
    · by_cases hb2 : 4096 < ns
      · have e1 : (4096 : Int) < ns := by omega
        go_wp2
        go_ret
        exact ⟨by rw [HF.out]; rfl, HB.out⟩
      · have e1 : ¬ (4096 : Int) < ns := by omega
        have e2 : (16384 : Int) < nl := by omega
        go_wp2
        go_ret
        exact ⟨by rw [HF.out]; rfl, HB.out⟩
  · have e1 : ¬ (4096 : Int) < ns := by omega
    have e2 : ¬ (16384 : Int) < nl := by omega
    have HBIG := Lib.hid hbig
    have hns4 : Hid (ns ≤ 4096 ∧ nl ≤ 16384) := by constructor <;> omega
    clear hbig
    by_cases hv1 : ver < 1
    · have hf := HE2.out HBIG.out (.inl (by unfold gwi; simp; omega))
      have HEE := Lib.hid hf
      clear hf
      go_wp2
      go_ret
      exact ⟨by rw [HEE.out]; rfl, HB.out⟩
    · by_cases hv2 : 1048576 < ver
      · have hf := HE2.out HBIG.out (.inl (by unfold gwi; simp; omega))
        have HEE := Lib.hid hf
        clear hf
        go_wp2
        go_ret
        exact ⟨by rw [HEE.out]; rfl, HB.out⟩
      · have HGW : Hid (gwi ver 1 1048576 = true) := by show _ = _; unfold gwi; simp; omega
        clear e1 e2
        have e1 : ¬ (4096 : Int) < ns := by have := hns4.out; omega
        have e2 : ¬ (16384 : Int) < nl := by have := hns4.out; omega
        go_wp2_with fail
        go_loopw [3] (fun vi wr => ∃ k : Nat, k ≤ ns ∧ vi = .int .i64 k ∧ Hid (stBad st k = false) ∧ Hid (Below W.heap.size W wr)) (fun vi _ => ns - (intOf vi).toNat)
        case atStart => exact ⟨0, by omega, rfl, rfl, Below.refl _ _⟩
        case round =>
          clear s0 s1 s2
          obtain ⟨k, hk, rfl, HP, HBr⟩ := hrel
          obtain ⟨s0, s1, s2⟩ := HK.out wr HBr.out
          by_cases hlt : k < ns
          · have e3 : (k : Int) < ns := by omega
            obtain ⟨x, hs⟩ : ∃ l, st[k]? = some l := ⟨_, List.getElem?_eq_getElem (by have := HNS.out; omega)⟩
            obtain ⟨X, Y⟩ := x
            have hB3 := HB.out.trans (HBr.out.mono HB.out.size)
            have m0 := HC1.out k _ hs 0 _ rfl
            have m1 := HC1.out k _ hs 1 _ rfl
            rw [Nat.add_zero] at m0
            rw [← hB3.cell (by exact HLT1.out k hlt)] at m0 m1
            simp only at m0 m1
            have hixk := fun V => hix1 V k hlt
            have r1 := fun d os => cell_regrown s1 d os
            have u0 := fun d os => cell_regrown m0 d os
            have u1 := fun d os => cell_regrown m1 d os
            obtain ⟨g, hg⟩ : ∃ g, gmay X Y = g := ⟨_, rfl⟩
            have S1 : Hid (∀ d os, Calls Try.prog 107 #[.int .i64 X, .int .i64 Y] (grow (redrawn wr d) os) fun e w'' => e = .returned (.bool g) ∧ ∃ p : Regrown, w'' = grow (redrawn wr p.d) p.os) := fun d os => by
              refine Calls.regrown_of ((rgMay_any X Y _).mono ?_)
              rintro e w' ⟨rfl, rfl⟩
              exact ⟨by rw [hg], Below.refl _ _⟩
            have HG := Lib.hid hg
            have HS := Lib.hid hs
            have HLTK := Lib.hid hlt
            clear hB3 hs hg
            go_upto_region 8 with fail
            clear s0 s1 s2 m0 m1
            cases g with
            | false =>
              have hf := HE2.out HBIG.out (.inr (.inl (stBad_some HS.out HG.out)))
              have HEE := Lib.hid hf
              clear hf
              refine wp_region_quiet_below (by kernel_rfl) (by kernel_rfl) ?_
              repeat (go_big_quiet_step ((go_at_call 107; with_reducible exact S1.out _ _)))
              refine wpQuiet_nil ?_
              intro _ hw'
              obtain ⟨⟨dq, osq⟩, hw''⟩ := hw'
              subst hw''
              have HB3 := below_regrown wr dq osq
              obtain ⟨W3, hwq⟩ : ∃ x, x = grow (redrawn wr dq) osq := ⟨_, rfl⟩
              rw [← hwq] at HB3 ⊢
              clear hwq
              have hfin := HB.out.trans ((HBr.out.trans (HB3.mono HBr.out.size)).mono HB.out.size)
              have HF := Lib.hid hfin
              clear hfin HB3
              go_wp2
              go_ret
              exact ⟨by rw [HEE.out]; rfl, HF.out⟩
            | true =>
              have hf1 : Hid (stBad st (k + 1) = false) := by show _ = _; rw [stBad_next HS.out, HP.out]; simp [HG.out]
              refine wp_region_quiet_below (by kernel_rfl) (by kernel_rfl) ?_
              repeat (go_big_quiet_step ((go_at_call 107; with_reducible exact S1.out _ _)))
              refine wpQuiet_nil ?_
              intro _ hw'
              obtain ⟨⟨dq, osq⟩, hw''⟩ := hw'
              subst hw''
              have HB3 := below_regrown wr dq osq
              obtain ⟨W3, hwq⟩ : ∃ x, x = grow (redrawn wr dq) osq := ⟨_, rfl⟩
              rw [← hwq] at HB3 ⊢
              clear hwq
              have hf2 : Hid (Below W.heap.size W W3) := HBr.out.trans (HB3.mono HBr.out.size)
              clear HB3
              go_wp2
              go_roundw
              case rel => exact ⟨k + 1, by have := HLTK.out; omega, by go_num, hf1, hf2⟩
              case measure => simp [intOf]; have := HLTK.out; omega
          · obtain rfl : k = ns := by omega
            have e3 : ¬ (k : Int) < k := by omega
            have HST := HP
            clear HP
            go_wp2_with fail
            go_loopw [4] (fun vi wr => ∃ j : Nat, j ≤ nl ∧ vi = .int .i64 j ∧ Hid (lnOk k ln j = true) ∧ Hid (Below W.heap.size W wr)) (fun vi _ => nl - (intOf vi).toNat)
            case atStart => exact ⟨0, by omega, rfl, rfl, HBr⟩
            case round =>
              clear s0 s1 s2 HBr e3
              obtain ⟨j, hj, rfl, HP, HBr⟩ := hrel
              obtain ⟨s0, s1, s2⟩ := HK.out wr HBr.out
              by_cases hlt : j < nl
              · have e3 : (j : Int) < nl := by omega
                obtain ⟨x, hs⟩ : ∃ l, ln[j]? = some l := ⟨_, List.getElem?_eq_getElem (by have := HNL.out; omega)⟩
                obtain ⟨A, B, Wt⟩ := x
                have hB3 := HB.out.trans (HBr.out.mono HB.out.size)
                have m0 := HC.out j _ hs 0 _ rfl
                have m1 := HC.out j _ hs 1 _ rfl
                have m2 := HC.out j _ hs 2 _ rfl
                rw [Nat.add_zero] at m0
                rw [← hB3.cell (by exact HLT.out j hlt)] at m0 m1 m2
                simp only at m0 m1 m2
                have hixk := fun V => hix V j hlt
                obtain ⟨W2, hW2⟩ : ∃ V, wr.alloc (.cells #[.int .i64 A, .int .i64 B, .int .i64 Wt] 146) = V := ⟨_, rfl⟩
                obtain ⟨q2, hq2⟩ : ∃ x, wr.heap.size = x := ⟨_, rfl⟩
                have hr2 : W2.heap[q2]? = some (.cells #[.int .i64 A, .int .i64 B, .int .i64 Wt] 146 (0, 0)) := by rw [← hW2, ← hq2]; exact heap_alloc_new _ _
                have hb2 : Below wr.heap.size wr W2 := by rw [← hW2]; exact (Below.refl _ _).alloc (Nat.le_refl _) _
                have HB2 := Lib.hid (HBr.out.trans (hb2.mono HBr.out.size))
                obtain ⟨z0, z1, z2⟩ := HK.out W2 HB2.out
                obtain ⟨l0, l1, l2⟩ := link_cells hr2
                have hcas := lk_cases (ns := k) hs
                have HW2 := Lib.hid hW2
                have HQ2 := Lib.hid hq2
                have HHS := Lib.hid hs
                have HR2 := Lib.hid hr2
                have HFN : Hid (Below w.heap.size w W2) := HB.out.trans (HB2.out.mono HB.out.size)
                have HNO : Hid (lkOk k ln j = false → E = 2) := fun hh => HE2.out HBIG.out (.inr (.inr (lnOk_no (m := nl) hh hlt)))
                have HLTK := Lib.hid hlt
                clear hb2 hr2 hW2 hq2 hB3 hs
                go_upto_region 14 with fail
                rw [HW2.out, HQ2.out]
                clear m0 m1 m2 s0 s1 s2
                rcases hcas with ⟨hF, h1⟩ | ⟨hF, h1, h2⟩ | ⟨hF, h1, h2, h3⟩ | ⟨hF, h1, h2, h3, h4⟩ | ⟨hk0, hT, h1, h2, h3, h4⟩ | ⟨p, hk0, hp, hT, h1, h2, h3, h4⟩
                · have HEE := Lib.hid (HNO.out hF)
                  clear hF
                  go_wp2
                  go_ret
                  exact ⟨by rw [HEE.out]; rfl, HFN.out⟩
                · have HEE := Lib.hid (HNO.out hF)
                  have g1 : ¬ A < 0 := by omega
                  clear hF
                  go_wp2
                  go_ret
                  exact ⟨by rw [HEE.out]; rfl, HFN.out⟩
                · have HEE := Lib.hid (HNO.out hF)
                  have g1 : ¬ A < 0 := by omega
                  have g2 : ¬ B ≤ A := by omega
                  clear hF
                  go_wp2
                  go_ret
                  exact ⟨by rw [HEE.out]; rfl, HFN.out⟩
                · have HEE := Lib.hid (HNO.out hF)
                  have g1 : ¬ A < 0 := by omega
                  have g2 : ¬ B ≤ A := by omega
                  have g3 : ¬ (k : Int) ≤ B := by omega
                  have g4 : Wt < 1 ∨ 1048576 ≤ Wt := by unfold gwi at h4; simp at h4; omega
                  clear hF h4
                  by_cases g5 : Wt < 1
                  · clear g4
                    go_wp2
                    go_ret
                    exact ⟨by rw [HEE.out]; rfl, HFN.out⟩
                  · have g6 : 1048576 ≤ Wt := by omega
                    clear g4
                    go_wp2
                    go_ret
                    exact ⟨by rw [HEE.out]; rfl, HFN.out⟩
                · have g1 : ¬ A < 0 := by omega
                  have g2 : ¬ B ≤ A := by omega
                  have g3 : ¬ (k : Int) ≤ B := by omega
                  have g4 : ¬ Wt < 1 ∧ ¬ 1048576 ≤ Wt := by unfold gwi at h4; simp at h4; omega
                  obtain ⟨g4, g5⟩ := g4
                  have g6 : ¬ (0 : Int) < (j : Int) := by omega
                  have hf1 : Hid (lnOk k ln (j + 1) = true) := by show _ = _; rw [lnOk_succ, HP.out, hT]; rfl
                  clear hT h4 hk0
                  go_wp2
                  go_roundw
                  case rel => exact ⟨j + 1, by have := HLTK.out; omega, by go_num, hf1, HB2⟩
                  case measure => simp [intOf]; have := HLTK.out; omega
                · have g1 : ¬ A < 0 := by omega
                  have g2 : ¬ B ≤ A := by omega
                  have g3 : ¬ (k : Int) ≤ B := by omega
                  have g4 : ¬ Wt < 1 ∧ ¬ 1048576 ≤ Wt := by unfold gwi at h4; simp at h4; omega
                  obtain ⟨g4, g5⟩ := g4
                  have g6 : (0 : Int) < (j : Int) := by omega
                  have hiff := gaft_iff p (A, B, Wt)
                  rw [← hT] at hiff
                  obtain ⟨pA, pB, pW⟩ := p
                  simp only at hiff
                  have hb2w : Below w.heap.size w W2 := HFN.out
                  have hbk := HLT.out (j - 1) (by omega)
                  have m0 := HC.out (j - 1) _ hp 0 _ rfl
                  have m1 := HC.out (j - 1) _ hp 1 _ rfl
                  have m2 := HC.out (j - 1) _ hp 2 _ rfl
                  rw [Nat.add_zero] at m0
                  rw [← hb2w.cell (by exact hbk)] at m0 m1 m2
                  simp only at m0 m1 m2
                  have hixp : ∀ V : World, (Instr.indexAt 93 (.slice b nl d) (.int .i64 ((j : Int) - 1))).run Try.prog V = .ok (.pointer (some ⟨lb, lo (j - 1), none⟩)) V := fun V => by
                    have := hix V (j - 1) (by omega)
                    rwa [show (((j - 1 : Nat)) : Int) = (j : Int) - 1 by omega] at this
                  have hj16 : (j : Int) ≤ 16384 := by have := hns4.out; omega
                  obtain ⟨W4, hW4⟩ : ∃ V, W2.alloc (.cells #[.int .i64 pA, .int .i64 pB, .int .i64 pW] 146) = V := ⟨_, rfl⟩
                  obtain ⟨q4, hq4⟩ : ∃ x, W2.heap.size = x := ⟨_, rfl⟩
                  have hr4 : W4.heap[q4]? = some (.cells #[.int .i64 pA, .int .i64 pB, .int .i64 pW] 146 (0, 0)) := by rw [← hW4, ← hq4]; exact heap_alloc_new _ _
                  have hb4 : Below W2.heap.size W2 W4 := by rw [← hW4]; exact (Below.refl _ _).alloc (Nat.le_refl _) _
                  have HB4 := Lib.hid (HB2.out.trans (hb4.mono HB2.out.size))
                  have HFN4 : Hid (Below w.heap.size w W4) := HB.out.trans (HB4.out.mono HB.out.size)
                  obtain ⟨n0, n1, n2⟩ := link_cells ((hb4.block q2 (heap_lt HR2.out)).trans HR2.out)
                  obtain ⟨o0, o1, o2⟩ := link_cells hr4
                  have HIFF := Lib.hid hiff
                  have HW4 := Lib.hid hW4
                  have HQ4 := Lib.hid hq4
                  clear hiff hT h4 hk0 hp hb2w hbk hb4 hr4 hW4 hq4
                  go_upto_region 18 with fail
                  rw [HW4.out, HQ4.out]
                  clear m0 m1 m2 l0 l1 l2
                  by_cases k1 : A < pA
                  · have HEE := Lib.hid (HNO.out (by cases hh : lkOk k ln j with | false => rfl | true => have := HIFF.out.1 hh; omega))
                    go_wp2
                    go_ret
                    exact ⟨by rw [HEE.out]; rfl, HFN4.out⟩
                  · by_cases k2 : A = pA
                    · have e5 : (A == pA) = true := by simpa using k2
                      by_cases k3 : B ≤ pB
                      · have HEE := Lib.hid (HNO.out (by cases hh : lkOk k ln j with | false => rfl | true => have := HIFF.out.1 hh; omega))
                        clear k2
                        go_wp2
                        go_ret
                        exact ⟨by rw [HEE.out]; rfl, HFN4.out⟩
                      · have hf1 : Hid (lnOk k ln (j + 1) = true) := by show _ = _; rw [lnOk_succ, HP.out, HIFF.out.2 (by omega)]; rfl
                        clear k2
                        go_wp2
                        go_roundw
                        case rel => exact ⟨j + 1, by have := HLTK.out; omega, by go_num, hf1, HB4⟩
                        case measure => simp [intOf]; have := HLTK.out; omega
                    · have e5 : (A == pA) = false := by simpa using k2
                      have hf1 : Hid (lnOk k ln (j + 1) = true) := by show _ = _; rw [lnOk_succ, HP.out, HIFF.out.2 (by omega)]; rfl
                      clear k2
                      go_wp2
                      go_roundw
                      case rel => exact ⟨j + 1, by have := HLTK.out; omega, by go_num, hf1, HB4⟩
                      case measure => simp [intOf]; have := HLTK.out; omega
              · obtain rfl : j = nl := by omega
                have e3 : ¬ (j : Int) < j := by omega
                have HFN : Hid (Below w.heap.size w wr) := HB.out.trans (HBr.out.mono HB.out.size)
                have HEE := Lib.hid (HE0.out HBIG.out HGW.out HST.out HP.out)
                go_wp2
                go_ret
                exact ⟨by rw [HEE.out]; rfl, HFN.out⟩

end Go.Proofs.Ytbonapdainlpjaa
