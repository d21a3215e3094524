/- Layer 15 (graph): Check. -/
import Derived.Test.YtbonapdainlpjaaVe3
import Derived.Deep.DeepCutAuto
import Derived.Deep.CutBlock
import Derived.Deep.RegionHeld3
import Derived.Lib.QuietBelow
set_option linter.unusedSimpArgs false
namespace Go.Proofs.Ytbonapdainlpjaa
open Go.RowKit Go.Sort

/-- a link is right, with the one ahead of it -/
def lkOk (ns : Nat) (ln : List (Int × Int × Int)) (i : Nat) : Bool :=
  match ln[i]? with
  | none => true
  | some l => decide (0 ≤ l.1) && (decide (l.1 < l.2.1) && (decide (l.2.1 < (ns : Int)) && (gwi l.2.2 1 1048575 && (decide (i = 0) || (match ln[i - 1]? with | none => true | some p => gaft p l)))))
def lnOk (ns : Nat) (ln : List (Int × Int × Int)) (k : Nat) : Bool := (List.range k).all fun i => lkOk ns ln i
theorem lnOk_succ (ns : Nat) (ln : List (Int × Int × Int)) (k : Nat) : lnOk ns ln (k + 1) = (lnOk ns ln k && lkOk ns ln k) := by simp [lnOk, List.range_succ, List.all_append]
theorem lnOk_no {ns : Nat} {ln : List (Int × Int × Int)} {k m : Nat} (h : lkOk ns ln k = false) (hk : k < m) : lnOk ns ln m = false := by
  unfold lnOk
  rw [List.all_eq_false]
  exact ⟨k, by simpa using hk, by simp [h]⟩
def netE (n : Net) : Int :=
  if 4096 < n.st.length ∨ 16384 < n.ln.length then 3 else if gwi n.ver 1 1048576 = true ∧ stBad n.st n.st.length = false ∧ lnOk n.st.length n.ln n.ln.length = true then 0 else 2

/-- which part of a link is wrong first -/
theorem lk_cases {ns : Nat} {ln : List (Int × Int × Int)} {k : Nat} {A B W : Int} (h : ln[k]? = some (A, B, W)) :
    (lkOk ns ln k = false ∧ A < 0) ∨ (lkOk ns ln k = false ∧ 0 ≤ A ∧ B ≤ A) ∨ (lkOk ns ln k = false ∧ 0 ≤ A ∧ A < B ∧ (ns : Int) ≤ B) ∨ (lkOk ns ln k = false ∧ 0 ≤ A ∧ A < B ∧ B < (ns : Int) ∧ gwi W 1 1048575 = false) ∨
    (k = 0 ∧ lkOk ns ln k = true ∧ 0 ≤ A ∧ A < B ∧ B < (ns : Int) ∧ gwi W 1 1048575 = true) ∨
    (∃ p, 0 < k ∧ ln[k - 1]? = some p ∧ lkOk ns ln k = gaft p (A, B, W) ∧ 0 ≤ A ∧ A < B ∧ B < (ns : Int) ∧ gwi W 1 1048575 = true) := by
  unfold lkOk
  rw [h]
  simp only
  by_cases h1 : 0 ≤ A
  · by_cases h2 : A < B
    · by_cases h3 : B < (ns : Int)
      · cases hw : gwi W 1 1048575 with
        | false => right; right; right; left; simp [h1, h2, h3]
        | true =>
          by_cases hk : k = 0
          · right; right; right; right; left; simp [h1, h2, h3, hk]
          · right; right; right; right; right
            have hl : k < ln.length := (List.getElem?_eq_some_iff.1 h).1
            obtain ⟨p, hp⟩ : ∃ p, ln[k - 1]? = some p := ⟨_, List.getElem?_eq_getElem (by omega)⟩
            refine ⟨p, by omega, hp, ?_, h1, h2, h3, rfl⟩
            rw [hp]
            simp [h1, h2, h3, hk]
      · right; right; left; simp [h1, h2, h3]; omega
    · right; left; simp [h1, h2]; omega
  · left; simp [h1]; omega

set_option maxRecDepth 100000 in
set_option maxHeartbeats 1600000 in
theorem gCheck_any (n : Net) (vs vl : Value) (w : World) (h : NetV w n vs vl) : Calls Try.prog 103 #[n.agg vs vl] w fun e w' => e = .returned (.int .i64 (netE n)) ∧ Below w.heap.size w w' := by
  obtain ⟨ver, st, ln⟩ := n
  obtain ⟨ns, hns⟩ : ∃ x, st.length = x := ⟨_, rfl⟩
  obtain ⟨nl, hnl⟩ : ∃ x, ln.length = x := ⟨_, rfl⟩
  obtain ⟨a, c, rfl⟩ := h.1.shape
  have HVS := Lib.hid h.1
  obtain ⟨b, d, lb, lo, rfl, -, -, hix, hlt', hcell, -⟩ := h.2.open_n layL elLn nl hnl
  simp only at hns hnl HVS ⊢
  obtain ⟨E, hE⟩ : ∃ E, netE ⟨ver, st, ln⟩ = E := ⟨_, rfl⟩
  have HE3 : Hid (4096 < ns ∨ 16384 < nl → E = 3) := fun hh => by rw [← hE]; unfold netE; rw [if_pos (by simpa [hns, hnl] using hh)]
  have HE0 : Hid (¬ (4096 < ns ∨ 16384 < nl) → gwi ver 1 1048576 = true → stBad st st.length = false → lnOk ns ln nl = true → E = 0) := fun hh h1 h2 h3 => by
    rw [← hE]; unfold netE; rw [if_neg (by simpa [hns, hnl] using hh), if_pos ⟨h1, h2, by rw [hns, hnl]; exact h3⟩]
  have HE2 : Hid (¬ (4096 < ns ∨ 16384 < nl) → (gwi ver 1 1048576 = false ∨ stBad st st.length = true ∨ lnOk ns ln nl = false) → E = 2) := fun hh h1 => by
    rw [← hE]; unfold netE
    rw [if_neg (by simpa [hns, hnl] using hh), if_neg]
    rintro ⟨k1, k2, k3⟩
    simp only [hns, hnl] at k3
    rcases h1 with h1 | h1 | h1
    · rw [h1] at k1; exact absurd k1 (by decide)
    · simp only at k2
      rw [h1] at k2; exact absurd k2 (by decide)
    · rw [h1] at k3; exact absurd k3 (by decide)
  rw [hE, hns]
  unfold Net.agg
  simp only
  have HC := Lib.hid hcell
  have HLT := Lib.hid hlt'
  have HNL := Lib.hid hnl
  obtain ⟨W, hW⟩ : ∃ W, w.alloc (.cells #[.int .i64 ver, .slice a ns c, .slice b nl d] 95) = W := ⟨_, rfl⟩
  obtain ⟨q, hq⟩ : ∃ q, w.heap.size = q := ⟨_, rfl⟩
  have hr : W.heap[q]? = some (.cells #[.int .i64 ver, .slice a ns c, .slice b nl d] 95 (0, 0)) := by rw [← hW, ← hq]; exact heap_alloc_new _ _
  have hB : Below w.heap.size w W := by rw [← hW]; exact (Below.refl _ _).alloc (Nat.le_refl _) _
  have s0 : W.cell? ⟨q, 0, none⟩ = some (.int .i64 ver) := cell_of_row W _ _ _ _ _ hr
  have s1 : W.cell? ⟨q, 1, none⟩ = some (.slice a ns c) := cell_of_row W _ _ _ _ _ hr
  have s2 : W.cell? ⟨q, 2, none⟩ = some (.slice b nl d) := cell_of_row W _ _ _ _ _ hr
  rw [hns] at HVS
  have CW := Lib.hid (fun V => gWithin_any ver 1 1048576 V)
  have CC := Lib.hid (sContains_any _ st W (HVS.out.below hB))
  have HW := Lib.hid hW
  have HB := Lib.hid hB
  have HQ := Lib.hid hq
  have HR := Lib.hid hr
  obtain ⟨gw, hgw⟩ : ∃ g, gwi ver 1 1048576 = g := ⟨_, rfl⟩
  obtain ⟨sb, hsb⟩ : ∃ g, stBad st st.length = g := ⟨_, rfl⟩
  rw [hgw] at CW HE0 HE2
  rw [hsb] at CC HE0 HE2
  clear h hE hns hnl hcell hlt' hW hq hr hB hgw hsb
  go_enter Try.func103, Try.ntmps103
  by_cases hbig : 4096 < ns ∨ 16384 < nl
  · have hf := HE3.out hbig
    have HF := Lib.hid hf
    clear hf
    rcases hbig with hb | hb
    · have e1 : (4096 : Int) < ns := by omega
      go_wp2
      go_ret
      exact ⟨by rw [HF.out]; rfl, by have := HB.out; rwa [← HW.out] at this⟩
    · by_cases hb2 : 4096 < ns
      · have e1 : (4096 : Int) < ns := by omega
        go_wp2
        go_ret
        exact ⟨by rw [HF.out]; rfl, by have := HB.out; rwa [← HW.out] at this⟩
      · have e1 : ¬ (4096 : Int) < ns := by omega
        have e2 : (16384 : Int) < nl := by omega
        go_wp2
        go_ret
        exact ⟨by rw [HF.out]; rfl, by have := HB.out; rwa [← HW.out] at this⟩
  · have e1 : ¬ (4096 : Int) < ns := by omega
    have e2 : ¬ (16384 : Int) < nl := by omega
    have HBIG := Lib.hid hbig
    clear hbig
    go_upto_region 1 with fail
    rw [HW.out, HQ.out]
    go_upto_region 3 with fail
    obtain ⟨bad, hbad⟩ : ∃ b, (!gw || sb) = b := ⟨_, rfl⟩
    have HBAD := Lib.hid hbad
    go_cut [3] (fun v wx => v = .bool bad ∧ Hid (Below W.heap.size W wx))
    case first =>
      go_wp2_with fail
      refine (CW.out W).mono ?_
      rintro e w2 ⟨rfl, rfl⟩
      cases gw with
      | false =>
        have hmv : Hid (Value.bool true = .bool bad) := by show _ = _; rw [← HBAD.out]; rfl
        clear hbad
        go_wp2
        go_meet
        case rel => exact ⟨hmv.out, Below.refl _ _⟩
      | true =>
        have hmv : Hid (Value.bool sb = .bool bad) := by show _ = _; rw [← HBAD.out]; simp
        clear hbad
        go_wp2_with fail
        refine CC.out.mono ?_
        rintro e w3 ⟨rfl, hb3⟩
        have HB3 := Lib.hid hb3
        clear hb3
        go_wp2
        go_meet
        case rel => exact ⟨hmv.out, HB3⟩
    case rest =>
      obtain ⟨rfl, HBc⟩ := hcut
      clear hbad s0 s1 s2
      have HKEEP := Lib.hid (fun (V : World) (hV : Below W.heap.size W V) => show V.cell? ⟨q, 1, none⟩ = some (.slice a ns c) ∧ V.cell? ⟨q, 2, none⟩ = some (.slice b nl d) from
        ⟨cell_of_row V _ _ _ _ _ ((hV.block q (heap_lt HR.out)).trans HR.out), cell_of_row V _ _ _ _ _ ((hV.block q (heap_lt HR.out)).trans HR.out)⟩)
      obtain ⟨s1, s2⟩ := HKEEP.out wc HBc.out
      go_wp2_with fail
      go_loopw [28, 3, 4, 5] (fun vi v3 v4 v5 wr => ∃ k : Nat, k ≤ nl ∧ vi = .int .i64 k ∧ v3 = .bool bad ∧ Hid (lnOk ns ln k = true) ∧ Hid (Below W.heap.size W wr)) (fun vi _ _ _ _ => nl - (intOf vi).toNat)
      case atStart => exact ⟨0, by omega, rfl, rfl, rfl, HBc⟩
      case round =>
        clear s1 s2
        obtain ⟨k, hk, rfl, rfl, HP, HBr⟩ := hrel
        by_cases hlt : k < nl
        · have e3 : (k : Int) < nl := by omega
          obtain ⟨l, hs⟩ : ∃ l, ln[k]? = some l := ⟨_, List.getElem?_eq_getElem (by have := HNL.out; omega)⟩
          obtain ⟨A, B, Wt⟩ := l
          have hbl := HLT.out k hlt
          have hB3 := HB.out.trans (HBr.out.mono HB.out.size)
          have m0 := HC.out k _ hs 0 _ rfl
          have m1 := HC.out k _ hs 1 _ rfl
          have m2 := HC.out k _ hs 2 _ rfl
          rw [Nat.add_zero] at m0
          rw [← hB3.cell (by exact hbl)] at m0 m1 m2
          simp only at m0 m1 m2
          have hixk := fun V => hix V k hlt
          obtain ⟨W2, hW2⟩ : ∃ V, wr.alloc (.cells #[.int .i64 A, .int .i64 B, .int .i64 Wt] 146) = V := ⟨_, rfl⟩
          obtain ⟨q2, hq2⟩ : ∃ x, wr.heap.size = x := ⟨_, rfl⟩
          have hr2 : W2.heap[q2]? = some (.cells #[.int .i64 A, .int .i64 B, .int .i64 Wt] 146 (0, 0)) := by rw [← hW2, ← hq2]; exact heap_alloc_new _ _
          have hb2 : Below wr.heap.size wr W2 := by rw [← hW2]; exact (Below.refl _ _).alloc (Nat.le_refl _) _
          have HB2 := Lib.hid (HBr.out.trans (hb2.mono HBr.out.size))
          obtain ⟨s1, s2⟩ := HKEEP.out W2 HB2.out
          have l0 : W2.cell? ⟨q2, 0, none⟩ = some (.int .i64 A) := cell_of_row W2 _ _ _ _ _ hr2
          have l1 : W2.cell? ⟨q2, 1, none⟩ = some (.int .i64 B) := cell_of_row W2 _ _ _ _ _ hr2
          have l2 : W2.cell? ⟨q2, 2, none⟩ = some (.int .i64 Wt) := cell_of_row W2 _ _ _ _ _ hr2
          have r1 := fun d os => cell_regrown s1 d os
          have r2 := fun d os => cell_regrown s2 d os
          have t0 := fun d os => cell_regrown l0 d os
          have t1 := fun d os => cell_regrown l1 d os
          have t2 := fun d os => cell_regrown l2 d os
          have hcas := lk_cases (ns := ns) hs
          have HW2 := Lib.hid hW2
          have HQ2 := Lib.hid hq2
          obtain ⟨g, hg⟩ : ∃ g, gwi Wt 1 1048575 = g := ⟨_, rfl⟩
          have S1 : Hid (∀ d os, Calls Try.prog 118 #[.int .i64 Wt, .int .i64 1, .int .i64 1048575] (grow (redrawn W2 d) os) fun e w'' => e = .returned (.bool g) ∧ ∃ p : Regrown, w'' = grow (redrawn W2 p.d) p.os) := fun d os => by
            refine Calls.regrown_of ((gWithin_any Wt 1 1048575 _).mono ?_)
            rintro e w' ⟨rfl, rfl⟩
            exact ⟨by rw [hg], Below.refl _ _⟩
          obtain ⟨pv, hpv⟩ : ∃ p : Int × Int × Int, 0 < k → ln[k - 1]? = some p := by
            by_cases hk0 : 0 < k
            · exact ⟨_, fun _ => List.getElem?_eq_getElem (l := ln) (i := k - 1) (by have := HNL.out; omega)⟩
            · exact ⟨(0, 0, 0), fun h => absurd h hk0⟩
          obtain ⟨tf, htf⟩ : ∃ t, gaft pv (A, B, Wt) = t := ⟨_, rfl⟩
          have S2 : Hid (∀ d os, Calls Try.prog 122 #[.agg #[.int .i64 pv.1, .int .i64 pv.2.1, .int .i64 pv.2.2], .agg #[.int .i64 A, .int .i64 B, .int .i64 Wt]] (grow (redrawn W2 d) os) fun e w'' => e = .returned (.bool tf) ∧ ∃ p : Regrown, w'' = grow (redrawn W2 p.d) p.os) := fun d os => by
            refine Calls.regrown_of ?_
            have := gAfter_any pv (A, B, Wt) (grow (redrawn W2 d) os)
            rw [htf] at this
            exact this
          rw [hg] at hcas
          have HPV := Lib.hid hpv
          have HTF := Lib.hid htf
          have HHS := Lib.hid hs
          have HHB := Lib.hid hbl
          have HB3 := Lib.hid hB3
          have HB22 := Lib.hid hb2
          have hmv : Hid (∀ V, Below W.heap.size W V → True) := fun _ _ => trivial
          go_upto_region 7 with fail
          try rw [HW2.out]
          try rw [HQ2.out]
          clear m0 m1 m2 hb2 hr2 hW2 hq2 hg hbl hB3 hs hpv htf hmv s1 s2 l0 l1 l2
          rcases hcas with ⟨hF, h1⟩ | ⟨hF, h1, h2⟩ | ⟨hF, h1, h2, h3⟩ | ⟨hF, h1, h2, h3, h4⟩ | ⟨hk0, hT, h1, h2, h3, h4⟩ | ⟨p, hk0, hp, hT, h1, h2, h3, h4⟩
          · have HFX := Lib.hid hF
            have hne := lnOk_no (m := nl) HFX.out hlt
            have hf := HE2.out HBIG.out (.inr (.inr hne))
            have HEE := Lib.hid hf
            clear hf hne hF
            refine wp_region_quiet_below (by kernel_rfl) (by kernel_rfl) ?_
            repeat (go_big_quiet_step ((first | (go_at_call 118; with_reducible exact S1.out _ _) | (go_at_call 122; with_reducible exact S2.out _ _))))
            refine wpQuiet_nil ?_
            intro _ hw'
            obtain ⟨⟨dq, osq⟩, hw''⟩ := hw'
            subst hw''
            have HB3 := below_regrown W2 dq osq
            obtain ⟨W3, hwq⟩ : ∃ x, x = grow (redrawn W2 dq) osq := ⟨_, rfl⟩
            rw [← hwq] at HB3 ⊢
            clear hwq
            have hfin := HB.out.trans ((HB2.out.trans (HB3.mono HB2.out.size)).mono HB.out.size)
            have HF := Lib.hid hfin
            clear hfin HB3
            go_wp2
            go_ret
            exact ⟨by rw [HEE.out]; rfl, HF.out⟩
          · have HFX := Lib.hid hF
            have g1 : ¬ A < 0 := by omega
            have hne := lnOk_no (m := nl) HFX.out hlt
            have hf := HE2.out HBIG.out (.inr (.inr hne))
            have HEE := Lib.hid hf
            clear hf hne hF
            refine wp_region_quiet_below (by kernel_rfl) (by kernel_rfl) ?_
            repeat (go_big_quiet_step ((first | (go_at_call 118; with_reducible exact S1.out _ _) | (go_at_call 122; with_reducible exact S2.out _ _))))
            refine wpQuiet_nil ?_
            intro _ hw'
            obtain ⟨⟨dq, osq⟩, hw''⟩ := hw'
            subst hw''
            have HB3 := below_regrown W2 dq osq
            obtain ⟨W3, hwq⟩ : ∃ x, x = grow (redrawn W2 dq) osq := ⟨_, rfl⟩
            rw [← hwq] at HB3 ⊢
            clear hwq
            have hfin := HB.out.trans ((HB2.out.trans (HB3.mono HB2.out.size)).mono HB.out.size)
            have HF := Lib.hid hfin
            clear hfin HB3
            go_wp2
            go_ret
            exact ⟨by rw [HEE.out]; rfl, HF.out⟩
          · have HFX := Lib.hid hF
            have g1 : ¬ A < 0 := by omega
            have g2 : ¬ B ≤ A := by omega
            have hne := lnOk_no (m := nl) HFX.out hlt
            have hf := HE2.out HBIG.out (.inr (.inr hne))
            have HEE := Lib.hid hf
            clear hf hne hF
            refine wp_region_quiet_below (by kernel_rfl) (by kernel_rfl) ?_
            repeat (go_big_quiet_step ((first | (go_at_call 118; with_reducible exact S1.out _ _) | (go_at_call 122; with_reducible exact S2.out _ _))))
            refine wpQuiet_nil ?_
            intro _ hw'
            obtain ⟨⟨dq, osq⟩, hw''⟩ := hw'
            subst hw''
            have HB3 := below_regrown W2 dq osq
            obtain ⟨W3, hwq⟩ : ∃ x, x = grow (redrawn W2 dq) osq := ⟨_, rfl⟩
            rw [← hwq] at HB3 ⊢
            clear hwq
            have hfin := HB.out.trans ((HB2.out.trans (HB3.mono HB2.out.size)).mono HB.out.size)
            have HF := Lib.hid hfin
            clear hfin HB3
            go_wp2
            go_ret
            exact ⟨by rw [HEE.out]; rfl, HF.out⟩
          · have HFX := Lib.hid hF
            have g1 : ¬ A < 0 := by omega
            have g2 : ¬ B ≤ A := by omega
            have g3 : ¬ (ns : Int) ≤ B := by omega
            subst h4
            have hne := lnOk_no (m := nl) HFX.out hlt
            have hf := HE2.out HBIG.out (.inr (.inr hne))
            have HEE := Lib.hid hf
            clear hf hne hF
            refine wp_region_quiet_below (by kernel_rfl) (by kernel_rfl) ?_
            repeat (go_big_quiet_step ((first | (go_at_call 118; with_reducible exact S1.out _ _) | (go_at_call 122; with_reducible exact S2.out _ _))))
            refine wpQuiet_nil ?_
            intro _ hw'
            obtain ⟨⟨dq, osq⟩, hw''⟩ := hw'
            subst hw''
            have HB3 := below_regrown W2 dq osq
            obtain ⟨W3, hwq⟩ : ∃ x, x = grow (redrawn W2 dq) osq := ⟨_, rfl⟩
            rw [← hwq] at HB3 ⊢
            clear hwq
            have hfin := HB.out.trans ((HB2.out.trans (HB3.mono HB2.out.size)).mono HB.out.size)
            have HF := Lib.hid hfin
            clear hfin HB3
            go_wp2
            go_ret
            exact ⟨by rw [HEE.out]; rfl, HF.out⟩
          · have g1 : ¬ A < 0 := by omega
            have g2 : ¬ B ≤ A := by omega
            have g3 : ¬ (ns : Int) ≤ B := by omega
            have g5 : decide (0 < k) = false := by simp; omega
            have HTT := Lib.hid hT
            subst h4
            clear hT hk0
            have hf1 : Hid (lnOk ns ln (k + 1) = true) := by show _ = _; rw [lnOk_succ, HP.out, HTT.out]; rfl
            refine wp_region_quiet_below (by kernel_rfl) (by kernel_rfl) ?_
            repeat (go_big_quiet_step ((first | (go_at_call 118; with_reducible exact S1.out _ _) | (go_at_call 122; with_reducible exact S2.out _ _))))
            refine wpQuiet_nil ?_
            intro _ hw'
            obtain ⟨⟨dq, osq⟩, hw''⟩ := hw'
            subst hw''
            have HB3 := below_regrown W2 dq osq
            obtain ⟨W3, hwq⟩ : ∃ x, x = grow (redrawn W2 dq) osq := ⟨_, rfl⟩
            rw [← hwq] at HB3 ⊢
            clear hwq
            have hf2 : Hid (Below W.heap.size W W3) := HB2.out.trans (HB3.mono HB2.out.size)
            clear HB3
            go_wp2
            go_roundw
            case rel => exact ⟨k + 1, by omega, by go_num, rfl, hf1, hf2⟩
            case measure => simp [intOf]; omega
          · have g1 : ¬ A < 0 := by omega
            have g2 : ¬ B ≤ A := by omega
            have g3 : ¬ (ns : Int) ≤ B := by omega
            have g5 : (0 : Int) < (k : Int) := by omega
            subst h4
            have hpp : pv = p := by
              have := HPV.out hk0
              rw [hp] at this
              exact (Option.some.inj this).symm
            subst hpp
            rw [HTF.out] at hT
            have HTT := Lib.hid hT
            have hb2w : Below w.heap.size w W2 := HB3.out.trans (HB22.out.mono HB3.out.size)
            have hbk := HLT.out (k - 1) (by omega)
            have m0 := HC.out (k - 1) _ hp 0 _ rfl
            have m1 := HC.out (k - 1) _ hp 1 _ rfl
            have m2 := HC.out (k - 1) _ hp 2 _ rfl
            rw [Nat.add_zero] at m0
            rw [← hb2w.cell (by exact hbk)] at m0 m1 m2
            obtain ⟨p0, p1, p2⟩ := pv
            simp only at m0 m1 m2 S2
            have u0 := fun d os => cell_regrown m0 d os
            have u1 := fun d os => cell_regrown m1 d os
            have u2 := fun d os => cell_regrown m2 d os
            have hixp : ∀ V : World, (Instr.indexAt 93 (.slice b nl d) (.int .i64 ((k : Int) - 1))).run Try.prog V = .ok (.pointer (some ⟨lb, lo (k - 1), none⟩)) V := fun V => by
              have := hix V (k - 1) (by omega)
              rwa [show (((k - 1 : Nat)) : Int) = (k : Int) - 1 by omega] at this
            have hwk : IntKind.i64.wrap ((k : Int) - 1) = (k : Int) - 1 := IntWalk.i64_in _ (by omega)
            clear m0 m1 m2 hb2w hbk hp hT g5
            cases tf with
            | true =>
              have hf1 : Hid (lnOk ns ln (k + 1) = true) := by show _ = _; rw [lnOk_succ, HP.out, HTT.out]; rfl
              refine wp_region_quiet_below (by kernel_rfl) (by kernel_rfl) ?_
              repeat (go_big_quiet_step ((first | (go_at_call 118; with_reducible exact S1.out _ _) | (go_at_call 122; with_reducible exact S2.out _ _))))
              refine wpQuiet_nil ?_
              intro _ hw'
              obtain ⟨⟨dq, osq⟩, hw''⟩ := hw'
              subst hw''
              have HB3 := below_regrown W2 dq osq
              obtain ⟨W3, hwq⟩ : ∃ x, x = grow (redrawn W2 dq) osq := ⟨_, rfl⟩
              rw [← hwq] at HB3 ⊢
              clear hwq
              have hf2 : Hid (Below W.heap.size W W3) := HB2.out.trans (HB3.mono HB2.out.size)
              clear HB3
              go_wp2
              go_roundw
              case rel => exact ⟨k + 1, by omega, by go_num, rfl, hf1, hf2⟩
              case measure => simp [intOf]; omega
            | false =>
              have HFX := HTT
              have hF : True := trivial
              have hne := lnOk_no (m := nl) HFX.out hlt
              have hf := HE2.out HBIG.out (.inr (.inr hne))
              have HEE := Lib.hid hf
              clear hf hne hF
              refine wp_region_quiet_below (by kernel_rfl) (by kernel_rfl) ?_
              repeat (go_big_quiet_step ((first | (go_at_call 118; with_reducible exact S1.out _ _) | (go_at_call 122; with_reducible exact S2.out _ _))))
              refine wpQuiet_nil ?_
              intro _ hw'
              obtain ⟨⟨dq, osq⟩, hw''⟩ := hw'
              subst hw''
              have HB3 := below_regrown W2 dq osq
              obtain ⟨W3, hwq⟩ : ∃ x, x = grow (redrawn W2 dq) osq := ⟨_, rfl⟩
              rw [← hwq] at HB3 ⊢
              clear hwq
              have hfin := HB.out.trans ((HB2.out.trans (HB3.mono HB2.out.size)).mono HB.out.size)
              have HF := Lib.hid hfin
              clear hfin HB3
              go_wp2
              go_ret
              exact ⟨by rw [HEE.out]; rfl, HF.out⟩
        · obtain rfl : k = nl := by omega
          have e3 : ¬ (k : Int) < k := by omega
          have hfin := HB.out.trans (HBr.out.mono HB.out.size)
          have HF := Lib.hid hfin
          clear hfin
          cases bad with
          | true =>
            have hf := HE2.out HBIG.out (by have := HBAD.out; cases gw <;> simp_all)
            have HEE := Lib.hid hf
            clear hf
            go_wp2
            go_ret
            exact ⟨by rw [HEE.out]; rfl, HF.out⟩
          | false =>
            have hgs : gw = true ∧ sb = false := by have := HBAD.out; cases gw <;> simp_all
            have hf := HE0.out HBIG.out hgs.1 hgs.2 HP.out
            have HEE := Lib.hid hf
            clear hf hgs
            go_wp2
            go_ret
            exact ⟨by rw [HEE.out]; rfl, HF.out⟩

end Go.Proofs.Ytbonapdainlpjaa
