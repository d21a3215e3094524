/- Layer 10 (token): the walk of the statement TokenVerifies. -/
import Derived.Test.YtmhgdddnjnichaaDoorTok6
import Derived.Deep.RegionHeld3
import Derived.Deep.CutBlock
set_option linter.unusedSimpArgs false
namespace Go.Proofs.YtmhgdddnjnichaaDoor
open Go.RowKit Go.Sort

/-- few, and no more than 500 bytes -/
theorem few_small {l : List RK} (h : RFew l) : ∀ k ∈ l, k.b.length ≤ 1000000 := fun k hk => by
  obtain ⟨i, hi⟩ := List.mem_iff_getElem?.1 hk
  have := h.2 i k hi
  omega

set_option maxRecDepth 100000 in
set_option maxHeartbeats 6400000 in
theorem tokenverifies_walk (keep : Int) (v : Value) (l : List RK) (y : Value) (b : List UInt8) (now : Int) (w : World) (h : Ks w v l) (hy : Bs w y b) (hT : Tabbed w) :
    Calls Tryd.prog 10 #[.agg #[.int .i64 keep, v], y, .int .i64 now] w fun e w' => e = .returned (.bool true) ∧ Below w.heap.size w w' := by
  obtain ⟨va, vc, hvs⟩ := h.g.shape
  subst hvs
  obtain ⟨n, hn⟩ : ∃ n, l.length = n := ⟨_, rfl⟩
  rw [hn] at h ⊢
  obtain ⟨ya, yc, hs⟩ := hy.shape
  subst hs
  have H := Lib.hid h
  have HT := Lib.hid hT
  have HY := Lib.hid hy
  obtain ⟨m, hm⟩ : ∃ m, b.length = m := ⟨_, rfl⟩
  rw [hm] at HY ⊢
  have HM := Lib.hid hm
  have hb1 := bel_al (Below.refl w.heap.size w) (.cells #[.int .i64 keep, .slice va n vc] 39)
  have hr1 : (w.alloc (.cells #[.int .i64 keep, .slice va n vc] 39)).heap[w.heap.size]? = some (.cells #[.int .i64 keep, .slice va n vc] 39 (0, 0)) := heap_alloc_new _ _
  obtain ⟨w1, hw1⟩ : ∃ W, w.alloc (.cells #[.int .i64 keep, .slice va n vc] 39) = W := ⟨_, rfl⟩
  obtain ⟨g, hg⟩ : ∃ g, w.heap.size = g := ⟨_, rfl⟩
  have HQ2 : Hid (w.heap.size = g) := hg
  rw [hw1] at hb1
  rw [hw1, hg] at hr1
  have HB1 := Lib.hid hb1
  have HR1 := Lib.hid hr1
  have HWW := Lib.hid hw1
  have HC : Hid (∀ X, Below w1.heap.size w1 X → X.cell? ⟨g, 0, none⟩ = some (.int .i64 keep) ∧ X.cell? ⟨g, 1, none⟩ = some (.slice va n vc)) := fun X hX =>
    have h1 := (hX.block g (heap_lt HR1.out)).trans HR1.out
    ⟨cell_of_row X _ _ _ _ _ h1, cell_of_row X _ _ _ _ _ h1⟩
  clear h hT hb1 hr1 hw1 hg hy hm hn
  go_enter Tryd.func10, Tryd.ntmps10
  go_upto_region 1 with fail
  rw [HWW.out, HQ2.out]
  go_upto_region 3 with (go_at_call 39; refine (awake10_any _ (HT.out.below HB1.out)).mono ?_; rintro e w2 ⟨rfl, hb2⟩; have HB2 := Lib.hid hb2; clear hb2)
  obtain ⟨c0, c1⟩ := HC.out _ HB2.out
  have hfew := few10_any keep (.slice va n vc) l w2 (H.out.below (bel_tr HB1.out HB2.out))
  by_cases hf : RFew l
  · rw [rfew_yes hf] at hfew
    have HFEW := Lib.hid hfew
    have HS := Lib.hid (few_small hf)
    clear hfew hf
    by_cases h5 : m ≤ 500
    · have e5 : ¬ (500 : Int) < m := by omega
      go_upto_region 5 with (go_at_call 40; refine HFEW.out.mono ?_; rintro e w3 ⟨rfl, hb3⟩; have HB3 := Lib.hid (bel_tr HB2.out hb3); clear hb3)
      clear c0 c1 HFEW
      obtain ⟨t, tag, er, hto⟩ : ∃ t tag er, topen b = (t, tag, er) := ⟨_, _, _, rfl⟩
      obtain ⟨x, fr, htv⟩ : ∃ x fr, tverify l b now = (x, fr) := ⟨_, _, rfl⟩
      have HY2 : Hid (∀ X, Below w1.heap.size w1 X → Bs X (.slice ya m yc) b) := fun X hX => HY.out.below (bel_tr HB1.out hX)
      have hbl : b.length ≤ 1048576 := by have := HM.out; omega
      have TO : Hid (∀ X, Below w1.heap.size w1 X → Calls Tryd.prog 47 #[.slice ya m yc] X fun e w' => ∃ v, e = .returned (.tuple #[.agg #[.int .i64 t.trip, .int .i64 t.acct, .int .i64 t.stop, .int .i64 t.iss, .int .i64 t.til, .int .i64 t.ep], v, .int .i64 (er : Nat)]) ∧ Bs w' v tag ∧ Below X.heap.size X w') := by
        intro X hX
        have := open_any _ b X (HY2.out X hX) hbl
        unfold OpenPost at this
        rw [hto] at this
        exact this
      have UO : Hid (∀ X, Below w1.heap.size w1 X → Calls Tryd.prog 48 #[.slice ya m yc] X fun e w' => ∃ v, e = .returned (.tuple #[.agg #[.int .i64 t.trip, .int .i64 t.acct, .int .i64 t.stop, .int .i64 t.iss, .int .i64 t.til, .int .i64 t.ep], v, .int .i64 (er : Nat)]) ∧ Bs w' v tag ∧ Below X.heap.size X w') := by
        intro X hX
        have := uopen_any _ b X (HY2.out X hX) hbl
        unfold OpenPost at this
        rw [hto] at this
        exact this
      have TV : Hid (∀ X, Below w1.heap.size w1 X → Calls Tryd.prog 49 #[.agg #[.int .i64 keep, .slice va n vc], .slice ya m yc, .int .i64 now] X fun e w' => e = .returned (.tuple #[.agg #[.int .i64 x.trip, .int .i64 x.acct, .int .i64 x.stop, .int .i64 x.iss, .int .i64 x.til, .int .i64 x.ep], .int .i64 (fr : Nat)]) ∧ Below X.heap.size X w') := by
        intro X hX
        have := verify_any keep _ l _ b now X (H.out.below (bel_tr HB1.out hX)) (HY2.out X hX) hbl HS.out (HT.out.below (bel_tr HB1.out hX))
        unfold VerPost at this
        rw [htv] at this
        exact this
      have UV : Hid (∀ X, Below w1.heap.size w1 X → Calls Tryd.prog 50 #[.agg #[.int .i64 keep, .slice va n vc], .slice ya m yc, .int .i64 now] X fun e w' => e = .returned (.tuple #[.agg #[.int .i64 x.trip, .int .i64 x.acct, .int .i64 x.stop, .int .i64 x.iss, .int .i64 x.til, .int .i64 x.ep], .int .i64 (fr : Nat)]) ∧ Below X.heap.size X w') := by
        intro X hX
        have := uverify_any keep _ l _ b now X (H.out.below (bel_tr HB1.out hX)) (HY2.out X hX) hbl HS.out
        unfold VerPost at this
        rw [htv] at this
        exact this
      clear hto htv hbl
      obtain ⟨x0, x1, x2, x3, x4, x5⟩ := x
      obtain ⟨t0, t1, t2, t3, t4, t5⟩ := t
      dsimp only at TO UO TV UV
      go_upto_region 6 with (first
        | (go_at_call 47; refine (TO.out _ HB3.out).mono ?_; rintro e w4 ⟨b1, rfl, hbs1, hb4⟩; have HBS4 := Lib.hid hbs1; have HB4 := Lib.hid hb4; clear hbs1 hb4)
        | (with_reducible refine wpList_store_new rfl _ _ rfl rfl rfl (by kernel_rfl) (by simp) (by simp [Value.oneCell']) ?_))
      have hnb := (Below.refl w4.heap.size w4).alloc (Nat.le_refl _) (.cells #[.int .i64 t0, .int .i64 t1, .int .i64 t2, .int .i64 t3, .int .i64 t4, .int .i64 t5] 57)
      have htk : TAt (w4.alloc (.cells #[.int .i64 t0, .int .i64 t1, .int .i64 t2, .int .i64 t3, .int .i64 t4, .int .i64 t5] 57)) w4.heap.size ⟨t0, t1, t2, t3, t4, t5⟩ := ⟨heap_alloc_new _ _⟩
      obtain ⟨W5, hW⟩ : ∃ X, w4.alloc (.cells #[.int .i64 t0, .int .i64 t1, .int .i64 t2, .int .i64 t3, .int .i64 t4, .int .i64 t5] 57) = X := ⟨_, rfl⟩
      obtain ⟨p5, hp⟩ : ∃ p, w4.heap.size = p := ⟨_, rfl⟩
      rw [hW] at hnb
      rw [hW, hp] at htk ⊢
      have HB5 := Lib.hid (bel_tr HB3.out (bel_tr HB4.out hnb))
      have HT5 := Lib.hid htk
      have HBS5 := Lib.hid (HBS4.out.below hnb)
      clear hnb htk hW hp HBS4 HB4
      go_upto_region 7 with (first
        | (go_at_call 48; refine (UO.out _ HB5.out).mono ?_; rintro e w6 ⟨b2, rfl, hbs1, hb4⟩; have HBS6 := Lib.hid hbs1; have HB6 := Lib.hid hb4; clear hbs1 hb4)
        | (with_reducible refine wpList_store_new rfl _ _ rfl rfl rfl (by kernel_rfl) (by simp) (by simp [Value.oneCell']) ?_))
      have hnb := (Below.refl w6.heap.size w6).alloc (Nat.le_refl _) (.cells #[.int .i64 t0, .int .i64 t1, .int .i64 t2, .int .i64 t3, .int .i64 t4, .int .i64 t5] 57)
      have htk : TAt (w6.alloc (.cells #[.int .i64 t0, .int .i64 t1, .int .i64 t2, .int .i64 t3, .int .i64 t4, .int .i64 t5] 57)) w6.heap.size ⟨t0, t1, t2, t3, t4, t5⟩ := ⟨heap_alloc_new _ _⟩
      obtain ⟨W7, hW⟩ : ∃ X, w6.alloc (.cells #[.int .i64 t0, .int .i64 t1, .int .i64 t2, .int .i64 t3, .int .i64 t4, .int .i64 t5] 57) = X := ⟨_, rfl⟩
      obtain ⟨p7, hp⟩ : ∃ p, w6.heap.size = p := ⟨_, rfl⟩
      rw [hW] at hnb
      rw [hW, hp] at htk ⊢
      have h57 := bel_tr HB6.out hnb
      have HB7 := Lib.hid (bel_tr HB5.out h57)
      have HT7 := Lib.hid htk
      have HT57 := Lib.hid (HT5.out.below h57)
      have HBS7 := Lib.hid (HBS6.out.below hnb)
      have HBS57 := Lib.hid (HBS5.out.below h57)
      clear hnb htk hW hp HBS6 HB6 HT5 HBS5 h57
      obtain ⟨c0, c1⟩ := HC.out _ HB7.out
      go_upto_region 8 with (first
        | (go_at_call 49; refine (TV.out _ HB7.out).mono ?_; rintro e w8 ⟨rfl, hb4⟩; have HB8 := Lib.hid hb4; clear hb4)
        | (with_reducible refine wpList_store_new rfl _ _ rfl rfl rfl (by kernel_rfl) (by simp) (by simp [Value.oneCell']) ?_))
      clear c0 c1
      have hnb := (Below.refl w8.heap.size w8).alloc (Nat.le_refl _) (.cells #[.int .i64 x0, .int .i64 x1, .int .i64 x2, .int .i64 x3, .int .i64 x4, .int .i64 x5] 57)
      have htk : TAt (w8.alloc (.cells #[.int .i64 x0, .int .i64 x1, .int .i64 x2, .int .i64 x3, .int .i64 x4, .int .i64 x5] 57)) w8.heap.size ⟨x0, x1, x2, x3, x4, x5⟩ := ⟨heap_alloc_new _ _⟩
      obtain ⟨W9, hW⟩ : ∃ X, w8.alloc (.cells #[.int .i64 x0, .int .i64 x1, .int .i64 x2, .int .i64 x3, .int .i64 x4, .int .i64 x5] 57) = X := ⟨_, rfl⟩
      obtain ⟨p9, hp⟩ : ∃ p, w8.heap.size = p := ⟨_, rfl⟩
      rw [hW] at hnb
      rw [hW, hp] at htk ⊢
      have h79 := bel_tr HB8.out hnb
      have HB9 := Lib.hid (bel_tr HB7.out h79)
      have HT9 := Lib.hid htk
      have HB79 := Lib.hid h79
      clear hnb htk hW hp HB8 h79
      obtain ⟨c0, c1⟩ := HC.out _ HB9.out
      go_upto_region 9 with (first
        | (go_at_call 50; refine (UV.out _ HB9.out).mono ?_; rintro e w10 ⟨rfl, hb4⟩; have HB10 := Lib.hid hb4; clear hb4)
        | (with_reducible refine wpList_store_new rfl _ _ rfl rfl rfl (by kernel_rfl) (by simp) (by simp [Value.oneCell']) ?_))
      clear c0 c1
      have hnb := (Below.refl w10.heap.size w10).alloc (Nat.le_refl _) (.cells #[.int .i64 x0, .int .i64 x1, .int .i64 x2, .int .i64 x3, .int .i64 x4, .int .i64 x5] 57)
      have htk : TAt (w10.alloc (.cells #[.int .i64 x0, .int .i64 x1, .int .i64 x2, .int .i64 x3, .int .i64 x4, .int .i64 x5] 57)) w10.heap.size ⟨x0, x1, x2, x3, x4, x5⟩ := ⟨heap_alloc_new _ _⟩
      obtain ⟨W11, hW⟩ : ∃ X, w10.alloc (.cells #[.int .i64 x0, .int .i64 x1, .int .i64 x2, .int .i64 x3, .int .i64 x4, .int .i64 x5] 57) = X := ⟨_, rfl⟩
      obtain ⟨p11, hp⟩ : ∃ p, w10.heap.size = p := ⟨_, rfl⟩
      rw [hW] at hnb
      rw [hW, hp] at htk ⊢
      have h911 := bel_tr HB10.out hnb
      have h711 := bel_tr HB79.out h911
      have HB11 := Lib.hid (bel_tr HB9.out h911)
      have HX9 := Lib.hid (HT9.out.below h911)
      have HX11 := Lib.hid htk
      have HX7 := Lib.hid (HT7.out.below h711)
      have HX5 := Lib.hid (HT57.out.below h711)
      have HY7 := Lib.hid (HBS7.out.below h711)
      have HY5 := Lib.hid (HBS57.out.below h711)
      clear hnb htk hW hp h911 h711 HB10 HT9 HT7 HT57 HBS7 HBS57 HB79
      obtain ⟨a0, a1, a2, a3, a4, a5⟩ := HX5.out.cells
      obtain ⟨d0, d1, d2, d3, d4, d5⟩ := HX7.out.cells
      dsimp only at a0 a1 a2 a3 a4 a5 d0 d1 d2 d3 d4 d5
      have hsame := same_any b1 b2 tag tag _ HY5.out HY7.out
      rw [beq_self_eq_true] at hsame
      have HSAME := Lib.hid hsame
      have hq1 : ((er : Int) == er) = true := by simp
      have hq2 : ((fr : Int) == fr) = true := by simp
      clear hsame
      have HCX : Hid (∀ X, Below W11.heap.size W11 X → (X.cell? ⟨p9, 0, none⟩ = some (.int .i64 x0) ∧ X.cell? ⟨p9, 1, none⟩ = some (.int .i64 x1) ∧ X.cell? ⟨p9, 2, none⟩ = some (.int .i64 x2) ∧ X.cell? ⟨p9, 3, none⟩ = some (.int .i64 x3) ∧ X.cell? ⟨p9, 4, none⟩ = some (.int .i64 x4) ∧ X.cell? ⟨p9, 5, none⟩ = some (.int .i64 x5)) ∧ X.cell? ⟨p11, 0, none⟩ = some (.int .i64 x0) ∧ X.cell? ⟨p11, 1, none⟩ = some (.int .i64 x1) ∧ X.cell? ⟨p11, 2, none⟩ = some (.int .i64 x2) ∧ X.cell? ⟨p11, 3, none⟩ = some (.int .i64 x3) ∧ X.cell? ⟨p11, 4, none⟩ = some (.int .i64 x4) ∧ X.cell? ⟨p11, 5, none⟩ = some (.int .i64 x5)) := fun X hX => ⟨(HX9.out.below hX).cells, (HX11.out.below hX).cells⟩
      go_wp2_with (go_at_call 17; refine HSAME.out.mono ?_; rintro e w12 ⟨rfl, hb12⟩; have HB12 := Lib.hid (bel_tr HB1.out (bel_tr HB11.out hb12)); obtain ⟨⟨f0, f1, f2, f3, f4, f5⟩, k0, k1, k2, k3, k4, k5⟩ := HCX.out _ hb12; clear hb12)
      go_ret
      exact ⟨rfl, HB12.out⟩
    · have e5 : (500 : Int) < m := by omega
      go_wp2_with (go_at_call 40; refine HFEW.out.mono ?_; rintro e w3 ⟨rfl, hb3⟩; have HB3 := Lib.hid (bel_tr HB1.out (bel_tr HB2.out hb3)); clear hb3)
      go_ret
      exact ⟨rfl, HB3.out⟩
  · rw [rfew_no hf] at hfew
    have HFEW := Lib.hid hfew
    clear hfew hf
    go_wp2_with (go_at_call 40; refine HFEW.out.mono ?_; rintro e w3 ⟨rfl, hb3⟩; have HB3 := Lib.hid (bel_tr HB1.out (bel_tr HB2.out hb3)); clear hb3)
    go_ret
    exact ⟨rfl, HB3.out⟩

end Go.Proofs.YtmhgdddnjnichaaDoor
