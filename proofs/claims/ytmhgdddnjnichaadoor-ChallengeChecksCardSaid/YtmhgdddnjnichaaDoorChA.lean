/- Layer 11 (challenge): the walks of the statements ChallengeAnswers and ChallengeChecks. -/
import Derived.Test.YtmhgdddnjnichaaDoorCh5
import Derived.Deep.RegionHeld3
import Derived.Deep.CutBlock
set_option linter.unusedSimpArgs false
namespace Go.Proofs.YtmhgdddnjnichaaDoor
open Go.RowKit Go.Sort

theorem few3_any (keep : Int) (v : Value) (l : List RK) (v0 v1 v2 : Value) (b0 b1 b2 : List UInt8) (g : Nat) (w : World) (h : Ks w v l) (hc0 : w.cell? ⟨g, 0, none⟩ = some v0) (hc1 : w.cell? ⟨g, 1, none⟩ = some v1) (hc2 : w.cell? ⟨g, 2, none⟩ = some v2)
    (h0 : Bs w v0 b0) (h1 : Bs w v1 b1) (h2 : Bs w v2 b2) :
    Calls Tryd.prog 52 #[.agg #[.int .i64 keep, v], .slice (some ⟨g, 0, none⟩) 3 3] w fun e w' => e = .returned (.bool (lfew l [b0, b1, b2])) ∧ Below w.heap.size w w' := by
  have hrd : Rd w 1 (.slice (some ⟨g, 0, none⟩) 3 3) [v0, v1, v2].length [v0, v1, v2] :=
    ⟨rfl, _, 3, rfl, Nat.le_refl _, by decide, by simp, .inr ⟨g, 0, rfl, by have := World.block_lt_of_cell? w _ hc0; simpa using this, fun j u hu => by
      match j with
      | 0 => simpa using hc0.trans (by simpa using hu)
      | 1 => simpa using hc1.trans (by simpa using hu)
      | 2 => simpa using hc2.trans (by simpa using hu)
      | j + 3 => simp at hu⟩⟩
  exact few11_any keep v l (.slice (some ⟨g, 0, none⟩) 3 3) [v0, v1, v2] [b0, b1, b2] rfl w h hrd fun i v l hv hl => by
    match i with
    | 0 => obtain rfl : v0 = v := by simpa using hv
           obtain rfl : b0 = l := by simpa using hl
           exact h0
    | 1 => obtain rfl : v1 = v := by simpa using hv
           obtain rfl : b1 = l := by simpa using hl
           exact h1
    | 2 => obtain rfl : v2 = v := by simpa using hv
           obtain rfl : b2 = l := by simpa using hl
           exact h2
    | i + 3 => simp at hv

set_option maxRecDepth 100000 in
set_option maxHeartbeats 6400000 in
theorem challengeanswers_walk (keep : Int) (v : Value) (l : List RK) (v0 v1 v2 : Value) (b0 b1 b2 : List UInt8) (now : Int) (w : World) (h : Ks w v l) (h0 : Bs w v0 b0) (h1 : Bs w v1 b1) (h2 : Bs w v2 b2) (hT : Tabbed w) :
    Calls Tryd.prog 13 #[.agg #[.int .i64 keep, v], .agg #[v0, v1, v2], .int .i64 now] w fun e w' => e = .returned (.bool true) ∧ Below w.heap.size w w' := by
  obtain ⟨va, vc, hvs⟩ := h.g.shape
  subst hvs
  obtain ⟨n, hn⟩ : ∃ n, l.length = n := ⟨_, rfl⟩
  rw [hn] at h ⊢
  obtain ⟨a0, c0, rfl⟩ := h0.shape
  obtain ⟨a1, c1, rfl⟩ := h1.shape
  obtain ⟨a2, c2, rfl⟩ := h2.shape
  obtain ⟨n0, hn0⟩ : ∃ n, b0.length = n := ⟨_, rfl⟩
  obtain ⟨n1, hn1⟩ : ∃ n, b1.length = n := ⟨_, rfl⟩
  obtain ⟨n2, hn2⟩ : ∃ n, b2.length = n := ⟨_, rfl⟩
  rw [hn0] at h0 ⊢
  rw [hn1] at h1 ⊢
  rw [hn2] at h2 ⊢
  have HN := Lib.hid (And.intro hn0 (And.intro hn1 hn2))
  have H := Lib.hid h
  have H0 := Lib.hid h0
  have H1 := Lib.hid h1
  have H2 := Lib.hid h2
  have HT := Lib.hid hT
  obtain ⟨w1, hw1⟩ : ∃ W, (w.alloc (.cells #[.int .i64 keep, .slice va n vc] 39)).alloc (.cells #[.slice a0 n0 c0, .slice a1 n1 c1, .slice a2 n2 c2] 75) = W := ⟨_, rfl⟩
  have hb1 : Below w.heap.size w w1 := by rw [← hw1]; exact bel_al (bel_al (Below.refl _ _) _) _
  have hr1 : w1.heap[w.heap.size]? = some (.cells #[.int .i64 keep, .slice va n vc] 39 (0, 0)) := by rw [← hw1, alloc_get, if_neg (by simp), alloc_get, if_pos rfl]
  have hl1 : w1.heap[w.heap.size + 1]? = some (.cells #[.slice a0 n0 c0, .slice a1 n1 c1, .slice a2 n2 c2] 75 (0, 0)) := by rw [← hw1, alloc_get, if_pos (by simp)]
  obtain ⟨q, hq⟩ : ∃ q, w.heap.size + 1 = q := ⟨_, rfl⟩
  obtain ⟨g, hg⟩ : ∃ g, w.heap.size = g := ⟨_, rfl⟩
  rw [hq] at hl1
  rw [hg] at hr1
  have HQ2 : Hid (w.heap.size = g) := hg
  have HQ3 := Lib.hid hq
  have HWW := Lib.hid hw1
  have HB1 := Lib.hid hb1
  have HC : Hid (∀ X, Below w1.heap.size w1 X → X.cell? ⟨g, 0, none⟩ = some (.int .i64 keep) ∧ X.cell? ⟨g, 1, none⟩ = some (.slice va n vc) ∧ X.cell? ⟨q, 0, none⟩ = some (.slice a0 n0 c0) ∧ X.cell? ⟨q, 1, none⟩ = some (.slice a1 n1 c1) ∧ X.cell? ⟨q, 2, none⟩ = some (.slice a2 n2 c2)) := fun X hX =>
    have k1 := (hX.block g (heap_lt hr1)).trans hr1
    have k2 := (hX.block q (heap_lt hl1)).trans hl1
    ⟨cell_of_row X _ _ _ _ _ k1, cell_of_row X _ _ _ _ _ k1, cell_of_row X _ _ _ _ _ k2, cell_of_row X _ _ _ _ _ k2, cell_of_row X _ _ _ _ _ k2⟩
  clear h h0 h1 h2 hT hn hn0 hn1 hn2 hb1 hr1 hl1 hq hg hw1
  go_enter Tryd.func13, Tryd.ntmps13
  go_upto_region 1 with fail
  rw [HWW.out, HQ3.out, HQ2.out]
  go_upto_region 3 with (go_at_call 51; refine (awake11_any _ (HT.out.below HB1.out)).mono ?_; rintro e w2 ⟨rfl, hb2⟩; have HB2 := Lib.hid hb2; clear hb2)
  obtain ⟨d0, d1, d2, d3, d4⟩ := HC.out _ HB2.out
  have TFW : Hid (∀ (X : World) (ob : Obj), Below w1.heap.size w1 X → ob = .cells #[.slice a0 n0 c0, .slice a1 n1 c1, .slice a2 n2 c2] 22 → Calls Tryd.prog 52 #[.agg #[.int .i64 keep, .slice va n vc], .slice (some ⟨X.heap.size, 0, none⟩) 3 3] (X.alloc ob) fun e w' => e = .returned (.bool (lfew l [b0, b1, b2])) ∧ Below w1.heap.size w1 w') := by
    rintro X ob hX rfl
    have hb := bel_tr HB1.out hX
    have hnew := heap_alloc_new X (.cells #[.slice a0 n0 c0, .slice a1 n1 c1, .slice a2 n2 c2] 22)
    refine (few3_any keep _ l _ _ _ b0 b1 b2 X.heap.size _ ((H.out.below hb).below (bel_al (Below.refl _ _) _)) (cell_of_row _ _ 0 _ _ _ hnew) (cell_of_row _ _ 1 _ _ _ hnew) (cell_of_row _ _ 2 _ _ _ hnew) ((H0.out.below hb).alloc _) ((H1.out.below hb).alloc _) ((H2.out.below hb).alloc _)).mono ?_
    rintro e w' ⟨he, hb'⟩
    exact ⟨he, bel_tr (bel_al hX _) hb'⟩
  by_cases hf : LFew l [b0, b1, b2]
  · rw [lfew_yes hf] at TFW
    have HS := Lib.hid (few_small hf.1)
    have HN5 : Hid (b0.length ≤ 500 ∧ b1.length ≤ 500 ∧ b2.length ≤ 500) := ⟨hf.2 b0 (by simp), hf.2 b1 (by simp), hf.2 b2 (by simp)⟩
    clear hf
    go_upto_region 5 with (go_at_call 52; refine (TFW.out _ _ HB2.out rfl).mono ?_; rintro e w3 ⟨rfl, hb3⟩; have HB3 := Lib.hid hb3; clear hb3)
    clear d0 d1 d2 d3 d4 TFW
    obtain ⟨d0, d1, d2, d3, d4⟩ := HC.out _ HB3.out
    have TD : Hid (∀ X, Below w1.heap.size w1 X → Calls Tryd.prog 53 #[.agg #[.int .i64 keep, .slice va n vc], .slice a0 n0 c0] X (DevPost l b0 X)) := fun X hX => chdevice_any keep _ l _ b0 X (H.out.below (bel_tr HB1.out hX)) (H0.out.below (bel_tr HB1.out hX)) (by have := HN5.out; omega) HS.out (HT.out.below (bel_tr HB1.out hX))
    have TV : Hid (∀ X, Below w1.heap.size w1 X → Calls Tryd.prog 54 #[.agg #[.int .i64 keep, .slice va n vc], .slice a0 n0 c0] X (DevPost l b0 X)) := fun X hX => vdevice_any keep _ l _ b0 X (H.out.below (bel_tr HB1.out hX)) (H0.out.below (bel_tr HB1.out hX)) (by have := HN5.out; omega) HS.out
    unfold DevPost at TD TV
    obtain ⟨dk, de, hdk⟩ : ∃ k e, cdev l b0 = (k, e) := ⟨_, _, rfl⟩
    rw [hdk] at TD TV
    simp only at TD TV
    clear hdk
    go_upto_region 6 with (go_at_call 53; refine (TD.out _ HB3.out).mono ?_; rintro e w4 ⟨kv, rfl, hkv, hb4⟩; have HK4 := Lib.hid hkv; have HB4 := Lib.hid (bel_tr HB3.out hb4); clear hkv hb4)
    clear d0 d1 d2 d3 d4 TD
    obtain ⟨d0, d1, d2, d3, d4⟩ := HC.out _ HB4.out
    go_upto_region 7 with (go_at_call 54; refine (TV.out _ HB4.out).mono ?_; rintro e w5 ⟨kw, rfl, hkw, hb5⟩; have HK5 := Lib.hid hkw; have HK45 := Lib.hid (HK4.out.below hb5); have HB5 := Lib.hid (bel_tr HB4.out hb5); clear hkw hb5)
    clear d0 d1 d2 d3 d4 TV HK4
    have hsm := same_any _ _ dk dk w5 HK45.out HK5.out
    rw [beq_self_eq_true] at hsm
    have HSM := Lib.hid hsm
    have hee : ((de : Int) != de) = false := by simp
    clear hsm
    go_upto_region 9 with (go_at_call 17; refine HSM.out.mono ?_; rintro e w6 ⟨rfl, hb6⟩; have HB6 := Lib.hid (bel_tr HB5.out hb6); clear hb6)
    clear hee HSM
    obtain ⟨d0, d1, d2, d3, d4⟩ := HC.out _ HB6.out
    have HMY : Hid (∀ X, Below w1.heap.size w1 X → Calls Tryd.prog 56 #[.slice a2 n2 c2, .int .i64 now] X fun e w' => e = .returned (.bool (cmay b2 now)) ∧ X = w') := fun X hX => vmay_any _ b2 now X (H2.out.below (bel_tr HB1.out hX))
    by_cases hm : cmay b2 now = true
    · rw [hm] at HMY
      have HA : Hid (∀ X, Below w1.heap.size w1 X → Calls Tryd.prog 55 #[.slice a1 n1 c1, .slice a2 n2 c2, .int .i64 now] X fun e w' => ∃ v, e = .returned (.tuple #[v, .int .i64 0]) ∧ Ob w' X.heap.size 5 v (cans b1 b2 now) ∧ Below X.heap.size X w') := fun X hX => chanswer_ok _ _ b1 b2 now X hm (H1.out.below (bel_tr HB1.out hX)) (H2.out.below (bel_tr HB1.out hX)) (by have := HN5.out; omega) (HT.out.below (bel_tr HB1.out hX))
      have HV : Hid (∀ X, Below w1.heap.size w1 X → Calls Tryd.prog 57 #[.slice a1 n1 c1, .slice a2 n2 c2, .int .i64 now] X fun e w' => ∃ v, e = .returned v ∧ Ob w' X.heap.size 5 v (cans b1 b2 now) ∧ Below X.heap.size X w') := fun X hX => vanswer_any _ _ b1 b2 now X hm (H1.out.below (bel_tr HB1.out hX)) (H2.out.below (bel_tr HB1.out hX)) (by have := HN5.out; omega)
      clear hm
      go_upto_region 10 with (go_at_call 55; refine (HA.out _ HB6.out).mono ?_; rintro e w7 ⟨v7, rfl, ho7, hb7⟩; have HO7 := Lib.hid ho7; have HB7 := Lib.hid (bel_tr HB6.out hb7); clear ho7 hb7)
      clear d0 d1 d2 d3 d4 HA
      obtain ⟨d0, d1, d2, d3, d4⟩ := HC.out _ HB7.out
      go_upto_region 12 with (go_at_call 56; refine (HMY.out _ HB7.out).mono ?_; rintro e w8 ⟨rfl, rfl⟩)
      go_wp2_with (first
        | (go_at_call 57; refine (HV.out _ HB7.out).mono ?_; rintro e w9 ⟨v9, rfl, ho9, hb9⟩; have HO79 := Lib.hid (HO7.out.below hb9); have HO9 := Lib.hid ho9; have HB9 := Lib.hid (bel_tr HB7.out hb9); clear ho9 hb9)
        | (go_at_call 17; refine (same_any _ _ (cans b1 b2 now) (cans b1 b2 now) _ HO79.out.bs HO9.out.bs).mono ?_; rw [beq_self_eq_true]; rintro e w10 ⟨rfl, hb10⟩; have HB10 := Lib.hid (bel_tr HB9.out hb10); clear hb10))
      go_ret
      exact ⟨rfl, bel_tr HB1.out HB10.out⟩
    · have hm : cmay b2 now = false := by simpa using hm
      rw [hm] at HMY
      have HA : Hid (∀ X, Below w1.heap.size w1 X → Calls Tryd.prog 55 #[.slice a1 n1 c1, .slice a2 n2 c2, .int .i64 now] X fun e w' => e = .returned (.tuple #[.slice none 0 0, .int .i64 2]) ∧ Below X.heap.size X w') := fun X hX => chanswer_bad _ _ b2 now X hm (H2.out.below (bel_tr HB1.out hX))
      clear hm
      go_upto_region 10 with (go_at_call 55; refine (HA.out _ HB6.out).mono ?_; rintro e w7 ⟨rfl, hb7⟩; have HB7 := Lib.hid (bel_tr HB6.out hb7); clear hb7)
      clear d0 d1 d2 d3 d4 HA
      obtain ⟨d0, d1, d2, d3, d4⟩ := HC.out _ HB7.out
      go_wp2_with (go_at_call 56; refine (HMY.out _ HB7.out).mono ?_; rintro e w8 ⟨rfl, rfl⟩)
      go_ret
      exact ⟨rfl, bel_tr HB1.out HB7.out⟩
  · rw [lfew_no hf] at TFW
    clear hf
    go_wp2_with (go_at_call 52; refine (TFW.out _ _ HB2.out rfl).mono ?_; rintro e w3 ⟨rfl, hb3⟩; have HB3 := Lib.hid hb3; clear hb3)
    go_ret
    exact ⟨rfl, bel_tr HB1.out HB3.out⟩

set_option maxRecDepth 100000 in
set_option maxHeartbeats 6400000 in
theorem challengechecks_walk (keep : Int) (v : Value) (l : List RK) (v0 v1 v2 : Value) (b0 b1 b2 : List UInt8) (now slack : Int) (w : World) (h : Ks w v l) (h0 : Bs w v0 b0) (h1 : Bs w v1 b1) (h2 : Bs w v2 b2) (hsl : W64 slack) (hT : Tabbed w) :
    Calls Tryd.prog 14 #[.agg #[.int .i64 keep, v], .agg #[v0, v1, v2], .agg #[.int .i64 now, .int .i64 slack]] w fun e w' => e = .returned (.bool true) ∧ Below w.heap.size w w' := by
  obtain ⟨va, vc, hvs⟩ := h.g.shape
  subst hvs
  obtain ⟨n, hn⟩ : ∃ n, l.length = n := ⟨_, rfl⟩
  rw [hn] at h ⊢
  obtain ⟨a0, c0, rfl⟩ := h0.shape
  obtain ⟨a1, c1, rfl⟩ := h1.shape
  obtain ⟨a2, c2, rfl⟩ := h2.shape
  obtain ⟨n0, hn0⟩ : ∃ n, b0.length = n := ⟨_, rfl⟩
  obtain ⟨n1, hn1⟩ : ∃ n, b1.length = n := ⟨_, rfl⟩
  obtain ⟨n2, hn2⟩ : ∃ n, b2.length = n := ⟨_, rfl⟩
  rw [hn0] at h0 ⊢
  rw [hn1] at h1 ⊢
  rw [hn2] at h2 ⊢
  have HN := Lib.hid (And.intro hn0 (And.intro hn1 hn2))
  have H := Lib.hid h
  have H0 := Lib.hid h0
  have H1 := Lib.hid h1
  have H2 := Lib.hid h2
  have HT := Lib.hid hT
  obtain ⟨w1, hw1⟩ : ∃ W, ((w.alloc (.cells #[.int .i64 keep, .slice va n vc] 39)).alloc (.cells #[.slice a0 n0 c0, .slice a1 n1 c1, .slice a2 n2 c2] 75)).alloc (.cells #[.int .i64 now, .int .i64 slack] 40) = W := ⟨_, rfl⟩
  have hb1 : Below w.heap.size w w1 := by rw [← hw1]; exact bel_al (bel_al (bel_al (Below.refl _ _) _) _) _
  have hr1 : w1.heap[w.heap.size]? = some (.cells #[.int .i64 keep, .slice va n vc] 39 (0, 0)) := by rw [← hw1, alloc_get, if_neg (by simp; omega), alloc_get, if_neg (by simp), alloc_get, if_pos rfl]
  have hl1 : w1.heap[w.heap.size + 1]? = some (.cells #[.slice a0 n0 c0, .slice a1 n1 c1, .slice a2 n2 c2] 75 (0, 0)) := by rw [← hw1, alloc_get, if_neg (by simp), alloc_get, if_pos (by simp)]
  have hm1 : w1.heap[w.heap.size + 1 + 1]? = some (.cells #[.int .i64 now, .int .i64 slack] 40 (0, 0)) := by rw [← hw1, alloc_get, if_pos (by simp)]
  obtain ⟨r, hr⟩ : ∃ q, w.heap.size + 1 + 1 = q := ⟨_, rfl⟩
  rw [hr] at hm1
  have HQ4 := Lib.hid hr
  obtain ⟨q, hq⟩ : ∃ q, w.heap.size + 1 = q := ⟨_, rfl⟩
  obtain ⟨g, hg⟩ : ∃ g, w.heap.size = g := ⟨_, rfl⟩
  rw [hq] at hl1
  rw [hg] at hr1
  have HQ2 : Hid (w.heap.size = g) := hg
  have HQ3 := Lib.hid hq
  have HWW := Lib.hid hw1
  have HB1 := Lib.hid hb1
  have HC : Hid (∀ X, Below w1.heap.size w1 X → X.cell? ⟨g, 0, none⟩ = some (.int .i64 keep) ∧ X.cell? ⟨g, 1, none⟩ = some (.slice va n vc) ∧ X.cell? ⟨q, 0, none⟩ = some (.slice a0 n0 c0) ∧ X.cell? ⟨q, 1, none⟩ = some (.slice a1 n1 c1) ∧ X.cell? ⟨q, 2, none⟩ = some (.slice a2 n2 c2) ∧ X.cell? ⟨r, 0, none⟩ = some (.int .i64 now) ∧ X.cell? ⟨r, 1, none⟩ = some (.int .i64 slack)) := fun X hX =>
    have k3 := (hX.block r (heap_lt hm1)).trans hm1
    have k1 := (hX.block g (heap_lt hr1)).trans hr1
    have k2 := (hX.block q (heap_lt hl1)).trans hl1
    ⟨cell_of_row X _ _ _ _ _ k1, cell_of_row X _ _ _ _ _ k1, cell_of_row X _ _ _ _ _ k2, cell_of_row X _ _ _ _ _ k2, cell_of_row X _ _ _ _ _ k2, cell_of_row X _ _ _ _ _ k3, cell_of_row X _ _ _ _ _ k3⟩
  clear h h0 h1 h2 hT hn hn0 hn1 hn2 hb1 hr1 hl1 hq hg hw1 hm1 hr
  go_enter Tryd.func14, Tryd.ntmps14
  go_upto_region 1 with fail
  rw [HWW.out, HQ4.out, HQ3.out, HQ2.out]
  go_upto_region 3 with (go_at_call 51; refine (awake11_any _ (HT.out.below HB1.out)).mono ?_; rintro e w2 ⟨rfl, hb2⟩; have HB2 := Lib.hid hb2; clear hb2)
  obtain ⟨d0, d1, d2, d3, d4, d5, d6⟩ := HC.out _ HB2.out
  have TFW : Hid (∀ (X : World) (ob : Obj), Below w1.heap.size w1 X → ob = .cells #[.slice a0 n0 c0, .slice a1 n1 c1, .slice a2 n2 c2] 22 → Calls Tryd.prog 52 #[.agg #[.int .i64 keep, .slice va n vc], .slice (some ⟨X.heap.size, 0, none⟩) 3 3] (X.alloc ob) fun e w' => e = .returned (.bool (lfew l [b0, b1, b2])) ∧ Below w1.heap.size w1 w') := by
    rintro X ob hX rfl
    have hb := bel_tr HB1.out hX
    have hnew := heap_alloc_new X (.cells #[.slice a0 n0 c0, .slice a1 n1 c1, .slice a2 n2 c2] 22)
    refine (few3_any keep _ l _ _ _ b0 b1 b2 X.heap.size _ ((H.out.below hb).below (bel_al (Below.refl _ _) _)) (cell_of_row _ _ 0 _ _ _ hnew) (cell_of_row _ _ 1 _ _ _ hnew) (cell_of_row _ _ 2 _ _ _ hnew) ((H0.out.below hb).alloc _) ((H1.out.below hb).alloc _) ((H2.out.below hb).alloc _)).mono ?_
    rintro e w' ⟨he, hb'⟩
    exact ⟨he, bel_tr (bel_al hX _) hb'⟩
  by_cases hf : LFew l [b0, b1, b2]
  · rw [lfew_yes hf] at TFW
    have HS := Lib.hid (few_small hf.1)
    have HN5 : Hid (b0.length ≤ 500 ∧ b1.length ≤ 500 ∧ b2.length ≤ 500) := ⟨hf.2 b0 (by simp), hf.2 b1 (by simp), hf.2 b2 (by simp)⟩
    clear hf
    go_upto_region 5 with (go_at_call 52; refine (TFW.out _ _ HB2.out rfl).mono ?_; rintro e w3 ⟨rfl, hb3⟩; have HB3 := Lib.hid hb3; clear hb3)
    clear d0 d1 d2 d3 d4 d5 d6 TFW
    obtain ⟨d0, d1, d2, d3, d4, d5, d6⟩ := HC.out _ HB3.out
    have TC : Hid (∀ X, Below w1.heap.size w1 X → Calls Tryd.prog 58 #[.agg #[.int .i64 keep, .slice va n vc], .slice a0 n0 c0, .slice a1 n1 c1, .slice a2 n2 c2, .int .i64 now, .int .i64 slack] X (CheckPost l b0 b1 b2 now slack X)) := fun X hX =>
      have hb := bel_tr HB1.out hX
      chcheck_any keep _ l _ _ _ b0 b1 b2 now slack X (H.out.below hb) (H0.out.below hb) (H1.out.below hb) (H2.out.below hb) (by have := HN5.out; omega) (by have := HN5.out; omega) HS.out hsl (HT.out.below hb)
    have TV : Hid (∀ X, Below w1.heap.size w1 X → Calls Tryd.prog 59 #[.agg #[.int .i64 keep, .slice va n vc], .slice a0 n0 c0, .slice a1 n1 c1, .slice a2 n2 c2, .int .i64 now, .int .i64 slack] X (CheckPost l b0 b1 b2 now slack X)) := fun X hX =>
      have hb := bel_tr HB1.out hX
      vcheck_any keep _ l _ _ _ b0 b1 b2 now slack X (H.out.below hb) (H0.out.below hb) (H1.out.below hb) (H2.out.below hb) (by have := HN5.out; omega) (by have := HN5.out; omega) HS.out
    unfold CheckPost at TC TV
    obtain ⟨x, fr, hcc⟩ : ∃ x fr, ccheck l b0 b1 b2 now slack = (x, fr) := ⟨_, _, rfl⟩
    rw [hcc] at TC TV
    unfold Tok.row at TC TV
    dsimp only at TC TV
    obtain ⟨x0, x1, x2, x3, x4, x5⟩ := x
    dsimp only at TC TV
    clear hcc
    go_upto_region 6 with (first
      | (go_at_call 58; refine (TC.out _ HB3.out).mono ?_; rintro e w4 ⟨rfl, hb4⟩; have HB4 := Lib.hid (bel_tr HB3.out hb4); clear hb4)
      | (with_reducible refine wpList_store_new rfl _ _ rfl rfl rfl (by kernel_rfl) (by simp) (by simp [Value.oneCell']) ?_))
    clear d0 d1 d2 d3 d4 d5 d6 TC
    obtain ⟨W5, p5, HB5, HT5, HE⟩ : ∃ W p, Hid (Below w1.heap.size w1 W) ∧ Hid (TAt W p ⟨x0, x1, x2, x3, x4, x5⟩) ∧ Hid (w4.alloc (.cells #[.int .i64 x0, .int .i64 x1, .int .i64 x2, .int .i64 x3, .int .i64 x4, .int .i64 x5] 57) = W ∧ w4.heap.size = p) := ⟨_, _, bel_al HB4.out _, tat_new w4 ⟨x0, x1, x2, x3, x4, x5⟩, rfl, rfl⟩
    rw [HE.out.1, HE.out.2]
    clear HE HB4
    obtain ⟨d0, d1, d2, d3, d4, d5, d6⟩ := HC.out _ HB5.out
    go_upto_region 7 with (first
      | (go_at_call 59; refine (TV.out _ HB5.out).mono ?_; rintro e w6 ⟨rfl, hb6⟩; have HB56 := Lib.hid hb6; clear hb6)
      | (with_reducible refine wpList_store_new rfl _ _ rfl rfl rfl (by kernel_rfl) (by simp) (by simp [Value.oneCell']) ?_))
    clear d0 d1 d2 d3 d4 d5 d6 TV
    obtain ⟨W7, p7, HB7, HT7, HT57, HE⟩ : ∃ W p, Hid (Below w1.heap.size w1 W) ∧ Hid (TAt W p ⟨x0, x1, x2, x3, x4, x5⟩) ∧ Hid (TAt W p5 ⟨x0, x1, x2, x3, x4, x5⟩) ∧ Hid (w6.alloc (.cells #[.int .i64 x0, .int .i64 x1, .int .i64 x2, .int .i64 x3, .int .i64 x4, .int .i64 x5] 57) = W ∧ w6.heap.size = p) := ⟨_, _, bel_al (bel_tr HB5.out HB56.out) _, tat_new w6 ⟨x0, x1, x2, x3, x4, x5⟩, HT5.out.below (bel_al HB56.out _), rfl, rfl⟩
    rw [HE.out.1, HE.out.2]
    clear HE HB56 HT5 HB5
    obtain ⟨f0, f1, f2, f3, f4, f5⟩ := HT57.out.cells
    obtain ⟨k0, k1, k2, k3, k4, k5⟩ := HT7.out.cells
    dsimp only at f0 f1 f2 f3 f4 f5 k0 k1 k2 k3 k4 k5
    go_wp2
    go_ret
    exact ⟨rfl, bel_tr HB1.out HB7.out⟩
  · rw [lfew_no hf] at TFW
    clear hf
    go_wp2_with (go_at_call 52; refine (TFW.out _ _ HB2.out rfl).mono ?_; rintro e w3 ⟨rfl, hb3⟩; have HB3 := Lib.hid hb3; clear hb3)
    go_ret
    exact ⟨rfl, bel_tr HB1.out HB3.out⟩

end Go.Proofs.YtmhgdddnjnichaaDoor
