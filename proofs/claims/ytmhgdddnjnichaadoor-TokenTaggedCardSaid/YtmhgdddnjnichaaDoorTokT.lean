/- Layer 10 (token): the walk of the statement TokenTagged. -/
import Derived.Test.YtmhgdddnjnichaaDoorTok6
import Derived.Test.YtmhgdddnjnichaaDoorTokV
import Derived.Deep.RegionHeld3
import Derived.Deep.CutBlock
set_option linter.unusedSimpArgs false
namespace Go.Proofs.YtmhgdddnjnichaaDoor
open Go.RowKit Go.Sort

theorem tver_bad {l : List RK} {b : List UInt8} {now : Int} {x : Tok} {fr : Nat} (h : tverify l b now = (x, fr)) (hf : fr ≠ 0) : x = tz := by
  obtain ⟨t, tag, er, hto⟩ : ∃ t tag er, topen b = (t, tag, er) := ⟨_, _, _, rfl⟩
  by_cases he : er = 0
  · subst he
    rcases hk : kf t.ep l with _ | k
    · rw [tver_key hto hk] at h
      exact (congrArg Prod.fst h).symm
    · rw [tver_some hto hk] at h
      split at h
      · exact (congrArg Prod.fst h).symm
      · split at h
        · exact (congrArg Prod.fst h).symm
        · exact absurd (congrArg Prod.snd h).symm hf
  · rw [tver_e hto he] at h
    exact (congrArg Prod.fst h).symm
theorem tver_good {l : List RK} {b : List UInt8} {now : Int} {x : Tok} (h : tverify l b now = (x, 0)) : ∃ k, topen b = (x, ttag k x, 0) ∧ kf x.ep l = some k ∧ x.iss ≤ now ∧ now ≤ x.til ∧ tmay x = true := by
  obtain ⟨t, tag, er, hto⟩ : ∃ t tag er, topen b = (t, tag, er) := ⟨_, _, _, rfl⟩
  by_cases he : er = 0
  · subst he
    rcases hk : kf t.ep l with _ | k
    · rw [tver_key hto hk] at h
      exact absurd (congrArg Prod.snd h) (by simp)
    · rw [tver_some hto hk] at h
      split at h
      · exact absurd (congrArg Prod.snd h) (by simp)
      · rename_i h1
        split at h
        · exact absurd (congrArg Prod.snd h) (by simp)
        · rename_i h2
          obtain rfl : t = x := congrArg Prod.fst h
          have h3 : tag = ttag k t := by simpa using h1
          exact ⟨k, by rw [hto, h3], hk, by omega, by omega, (topen_ok hto).1⟩
  · rw [tver_e hto he] at h
    exact absurd (congrArg Prod.snd h) he

set_option maxRecDepth 100000 in
set_option maxHeartbeats 6400000 in
theorem tokentagged_walk (keep : Int) (v : Value) (l : List RK) (y : Value) (b : List UInt8) (now : Int) (w : World) (h : Ks w v l) (hy : Bs w y b) (hT : Tabbed w) :
    Calls Tryd.prog 11 #[.agg #[.int .i64 keep, v], y, .int .i64 now] w fun e w' => e = .returned (.bool true) ∧ Below w.heap.size w w' := by
  obtain ⟨va, vc, hvs⟩ := h.g.shape
  subst hvs
  obtain ⟨n, hn⟩ : ∃ n, l.length = n := ⟨_, rfl⟩
  rw [hn] at h ⊢
  obtain ⟨ya, yc, hs⟩ := hy.shape
  subst hs
  have H := Lib.hid h
  have HT := Lib.hid hT
  have HY := Lib.hid hy
  obtain ⟨m, hm⟩ : ∃ m, b.length = m := ⟨_, rfl⟩
  rw [hm] at HY ⊢
  have HM := Lib.hid hm
  have hb1 := bel_al (Below.refl w.heap.size w) (.cells #[.int .i64 keep, .slice va n vc] 39)
  have hr1 : (w.alloc (.cells #[.int .i64 keep, .slice va n vc] 39)).heap[w.heap.size]? = some (.cells #[.int .i64 keep, .slice va n vc] 39 (0, 0)) := heap_alloc_new _ _
  obtain ⟨w1, hw1⟩ : ∃ W, w.alloc (.cells #[.int .i64 keep, .slice va n vc] 39) = W := ⟨_, rfl⟩
  obtain ⟨g, hg⟩ : ∃ g, w.heap.size = g := ⟨_, rfl⟩
  have HQ2 : Hid (w.heap.size = g) := hg
  rw [hw1] at hb1
  rw [hw1, hg] at hr1
  have HB1 := Lib.hid hb1
  have HR1 := Lib.hid hr1
  have HWW := Lib.hid hw1
  have HC : Hid (∀ X, Below w1.heap.size w1 X → X.cell? ⟨g, 0, none⟩ = some (.int .i64 keep) ∧ X.cell? ⟨g, 1, none⟩ = some (.slice va n vc)) := fun X hX =>
    have h1 := (hX.block g (heap_lt HR1.out)).trans HR1.out
    ⟨cell_of_row X _ _ _ _ _ h1, cell_of_row X _ _ _ _ _ h1⟩
  clear h hT hb1 hr1 hw1 hg hy hm hn
  go_enter Tryd.func11, Tryd.ntmps11
  go_upto_region 1 with fail
  rw [HWW.out, HQ2.out]
  go_upto_region 3 with (go_at_call 39; refine (awake10_any _ (HT.out.below HB1.out)).mono ?_; rintro e w2 ⟨rfl, hb2⟩; have HB2 := Lib.hid hb2; clear hb2)
  obtain ⟨c0, c1⟩ := HC.out _ HB2.out
  have hfew := few10_any keep (.slice va n vc) l w2 (H.out.below (bel_tr HB1.out HB2.out))
  by_cases hf : RFew l
  · rw [rfew_yes hf] at hfew
    have HFEW := Lib.hid hfew
    have HS := Lib.hid (few_small hf)
    clear hfew hf
    by_cases h5 : m ≤ 500
    · have e5 : ¬ (500 : Int) < m := by omega
      go_upto_region 5 with (go_at_call 40; refine HFEW.out.mono ?_; rintro e w3 ⟨rfl, hb3⟩; have HB3 := Lib.hid (bel_tr HB2.out hb3); clear hb3)
      clear c0 c1 HFEW
      obtain ⟨x, fr, htv⟩ : ∃ x fr, tverify l b now = (x, fr) := ⟨_, _, rfl⟩
      have HY2 : Hid (∀ X, Below w1.heap.size w1 X → Bs X (.slice ya m yc) b) := fun X hX => HY.out.below (bel_tr HB1.out hX)
      have hbl : b.length ≤ 1048576 := by have := HM.out; omega
      have TV : Hid (∀ X, Below w1.heap.size w1 X → Calls Tryd.prog 49 #[.agg #[.int .i64 keep, .slice va n vc], .slice ya m yc, .int .i64 now] X fun e w' => e = .returned (.tuple #[.agg #[.int .i64 x.trip, .int .i64 x.acct, .int .i64 x.stop, .int .i64 x.iss, .int .i64 x.til, .int .i64 x.ep], .int .i64 (fr : Nat)]) ∧ Below X.heap.size X w') := by
        intro X hX
        have := verify_any keep _ l _ b now X (H.out.below (bel_tr HB1.out hX)) (HY2.out X hX) hbl HS.out (HT.out.below (bel_tr HB1.out hX))
        unfold VerPost at this
        rw [htv] at this
        exact this
      have HTV := Lib.hid htv
      clear htv
      obtain ⟨c0, c1⟩ := HC.out _ HB3.out
      by_cases hfr : fr = 0
      · subst hfr
        obtain ⟨k, hto, hkf, hi1, hi2, hmay⟩ := tver_good HTV.out
        have TO : Hid (∀ X, Below w1.heap.size w1 X → Calls Tryd.prog 47 #[.slice ya m yc] X fun e w' => ∃ v, e = .returned (.tuple #[.agg #[.int .i64 x.trip, .int .i64 x.acct, .int .i64 x.stop, .int .i64 x.iss, .int .i64 x.til, .int .i64 x.ep], v, .int .i64 0]) ∧ Bs w' v (ttag k x) ∧ Below X.heap.size X w') := by
          intro X hX
          have := open_any _ b X (HY2.out X hX) hbl
          unfold OpenPost at this
          rw [hto] at this
          exact this
        have TM : Hid (∀ X, Calls Tryd.prog 43 #[.agg #[.int .i64 x.trip, .int .i64 x.acct, .int .i64 x.stop, .int .i64 x.iss, .int .i64 x.til, .int .i64 x.ep]] X fun e w' => e = .returned (.bool true) ∧ Below X.heap.size X w') := fun X => by rw [← hmay]; exact tmay_any x X
        have HWF := Lib.hid (tmay_wf hmay)
        have TFd : Hid (∀ X, Below w1.heap.size w1 X → Calls Tryd.prog 34 #[.agg #[.int .i64 keep, .slice va n vc], .int .i64 x.ep] X fun e w' => ∃ v, e = .returned (.tuple #[v, .bool true]) ∧ Bs w' v k ∧ Below X.heap.size X w') := by
          intro X hX
          have := find_any keep _ l x.ep X (H.out.below (bel_tr HB1.out hX)) HS.out
          unfold FindPost at this
          rw [hkf] at this
          exact this
        have hkl : Hid (k.length < 4294967296) := by
          obtain ⟨kk, hk, hkb⟩ := kf_mem hkf
          have := HS.out kk hk
          show _ < _
          rw [← hkb]; omega
        have TF : Hid (∀ X, Calls Tryd.prog 45 #[.agg #[.int .i64 x.trip, .int .i64 x.acct, .int .i64 x.stop, .int .i64 x.iss, .int .i64 x.til, .int .i64 x.ep]] X fun e w' => ∃ v, e = .returned v ∧ Ob w' X.heap.size 5 v (tfields x) ∧ Below X.heap.size X w') := fun X => tfields_any x HWF.out X
        obtain ⟨x0, x1, x2, x3, x4, x5⟩ := x
        dsimp only at TV TO TM TF TFd hi1 hi2
        have HHT : Hid (ttag k ⟨x0, x1, x2, x3, x4, x5⟩ = hderive k tokS.data.toList (tfields ⟨x0, x1, x2, x3, x4, x5⟩)) := rfl
        have HFL := Lib.hid (tfields_len HWF.out)
        obtain ⟨tg, htg⟩ : ∃ z, ttag k ⟨x0, x1, x2, x3, x4, x5⟩ = z := ⟨_, rfl⟩
        rw [htg] at TO HHT
        obtain ⟨fl, hfl⟩ : ∃ z, tfields ⟨x0, x1, x2, x3, x4, x5⟩ = z := ⟨_, rfl⟩
        rw [hfl] at TF HHT HFL
        clear hto hkf hmay HTV hbl htg hfl
        go_upto_region 6 with (first
          | (go_at_call 49; refine (TV.out _ HB3.out).mono ?_; rintro e w4 ⟨rfl, hb4⟩; have HB4 := Lib.hid hb4; clear hb4)
          | (with_reducible refine wpList_store_new rfl _ _ rfl rfl rfl (by kernel_rfl) (by simp) (by simp [Value.oneCell']) ?_))
        clear c0 c1
        have hnb := (Below.refl w4.heap.size w4).alloc (Nat.le_refl _) (.cells #[.int .i64 x0, .int .i64 x1, .int .i64 x2, .int .i64 x3, .int .i64 x4, .int .i64 x5] 57)
        have htk : TAt (w4.alloc (.cells #[.int .i64 x0, .int .i64 x1, .int .i64 x2, .int .i64 x3, .int .i64 x4, .int .i64 x5] 57)) w4.heap.size ⟨x0, x1, x2, x3, x4, x5⟩ := ⟨heap_alloc_new _ _⟩
        obtain ⟨W5, hW⟩ : ∃ X, w4.alloc (.cells #[.int .i64 x0, .int .i64 x1, .int .i64 x2, .int .i64 x3, .int .i64 x4, .int .i64 x5] 57) = X := ⟨_, rfl⟩
        obtain ⟨p5, hp⟩ : ∃ p, w4.heap.size = p := ⟨_, rfl⟩
        rw [hW] at hnb
        rw [hW, hp] at htk ⊢
        have HB5 := Lib.hid (bel_tr HB3.out (bel_tr HB4.out hnb))
        have HT5 := Lib.hid htk
        clear hnb htk hW hp HB4
        go_upto_region 9 with (first
          | (go_at_call 47; refine (TO.out _ HB5.out).mono ?_; rintro e w6 ⟨b1, rfl, hbs1, hb4⟩; have HBS6 := Lib.hid hbs1; have HB6 := Lib.hid hb4; clear hbs1 hb4)
          | (with_reducible refine wpList_store_new rfl _ _ rfl rfl rfl (by kernel_rfl) (by simp) (by simp [Value.oneCell']) ?_))
        have hnb := (Below.refl w6.heap.size w6).alloc (Nat.le_refl _) (.cells #[.int .i64 x0, .int .i64 x1, .int .i64 x2, .int .i64 x3, .int .i64 x4, .int .i64 x5] 57)
        have htk : TAt (w6.alloc (.cells #[.int .i64 x0, .int .i64 x1, .int .i64 x2, .int .i64 x3, .int .i64 x4, .int .i64 x5] 57)) w6.heap.size ⟨x0, x1, x2, x3, x4, x5⟩ := ⟨heap_alloc_new _ _⟩
        obtain ⟨W7, hW⟩ : ∃ X, w6.alloc (.cells #[.int .i64 x0, .int .i64 x1, .int .i64 x2, .int .i64 x3, .int .i64 x4, .int .i64 x5] 57) = X := ⟨_, rfl⟩
        obtain ⟨p7, hp⟩ : ∃ p, w6.heap.size = p := ⟨_, rfl⟩
        rw [hW] at hnb
        rw [hW, hp] at htk ⊢
        have h57 := bel_tr HB6.out hnb
        have HB7 := Lib.hid (bel_tr HB5.out h57)
        have HT7 := Lib.hid htk
        have HT57 := Lib.hid (HT5.out.below h57)
        have HBS7 := Lib.hid (HBS6.out.below hnb)
        clear hnb htk hW hp HBS6 HB6 HT5 h57
        obtain ⟨c0, c1⟩ := HC.out _ HB7.out
        obtain ⟨a0, a1, a2, a3, a4, a5⟩ := HT57.out.cells
        dsimp only at a0 a1 a2 a3 a4 a5
        go_upto_region 10 with (go_at_call 34; refine (TFd.out _ HB7.out).mono ?_; rintro e w8 ⟨kv, rfl, hkv, hb4⟩; have HKV := Lib.hid hkv; have HB8 := Lib.hid hb4; clear hb4 hkv)
        clear c0 c1 a0 a1 a2 a3 a4 a5
        have HCX : Hid (∀ X, Below w8.heap.size w8 X → (X.cell? ⟨p5, 0, none⟩ = some (.int .i64 x0) ∧ X.cell? ⟨p5, 1, none⟩ = some (.int .i64 x1) ∧ X.cell? ⟨p5, 2, none⟩ = some (.int .i64 x2) ∧ X.cell? ⟨p5, 3, none⟩ = some (.int .i64 x3) ∧ X.cell? ⟨p5, 4, none⟩ = some (.int .i64 x4) ∧ X.cell? ⟨p5, 5, none⟩ = some (.int .i64 x5)) ∧ X.cell? ⟨p7, 0, none⟩ = some (.int .i64 x0) ∧ X.cell? ⟨p7, 1, none⟩ = some (.int .i64 x1) ∧ X.cell? ⟨p7, 2, none⟩ = some (.int .i64 x2) ∧ X.cell? ⟨p7, 3, none⟩ = some (.int .i64 x3) ∧ X.cell? ⟨p7, 4, none⟩ = some (.int .i64 x4) ∧ X.cell? ⟨p7, 5, none⟩ = some (.int .i64 x5)) := fun X hX => ⟨((HT57.out.below HB8.out).below hX).cells, ((HT7.out.below HB8.out).below hX).cells⟩
        have HBS8 := Lib.hid (HBS7.out.below HB8.out)
        have HB18 := Lib.hid (bel_tr HB7.out HB8.out)
        clear HT57 HT7 HBS7 HB8
        obtain ⟨⟨f0, f1, f2, f3, f4, f5⟩, k0, k1, k2, k3, k4, k5⟩ := HCX.out _ (Below.refl _ _)
        go_wp2_with (first
          | (go_at_call 45; refine (TF.out _).mono ?_; rintro e w9 ⟨v9, rfl, ho9, hb9⟩; obtain ⟨b9, d9, rfl⟩ := ho9.shape; have HO9 := Lib.hid ho9; have HB9 := Lib.hid hb9; clear ho9 hb9)
          | (go_at_call 25; refine (derive1_any _ (.slice b9 fl.length d9) k fl tokS w9.heap.size _ ((HKV.out.below HB9.out).alloc _) (cell_of_one (heap_alloc_new w9 _)) (HO9.out.bs.alloc _) hkl.out (by have : tokS.size = 5 := rfl; have := HFL.out; omega) (HT.out.below (bel_tr HB1.out (bel_al (bel_tr HB18.out HB9.out) _)))).mono ?_; rintro e w11 ⟨v11, rfl, ho11, hb11⟩; rw [← HHT.out] at ho11; have HO11 := Lib.hid ho11; have h911 := bel_tr (w := w8) (bel_al HB9.out _) hb11; have HB11 := Lib.hid h911; clear ho11 hb11 h911)
          | (go_at_call 21; refine (shasame_any _ _ tg tg _ (HBS8.out.below HB11.out) HO11.out.bs).mono ?_; rw [beq_self_eq_true]; rintro e w12 ⟨rfl, hb12⟩; have h812 := bel_tr (w := w8) HB11.out hb12; obtain ⟨⟨g0, g1, g2, g3, g4, g5⟩, _⟩ := HCX.out _ h812; have HB12 := Lib.hid (bel_tr HB18.out h812); clear hb12 h812)
          | (go_at_call 43; refine (TM.out _).mono ?_; rintro e w13 ⟨rfl, hb13⟩; have HB13 := Lib.hid (bel_tr HB1.out (bel_tr HB12.out hb13)); clear hb13))
        go_ret
        exact ⟨rfl, HB13.out⟩
      · obtain rfl := tver_bad HTV.out hfr
        have hfi : ((fr : Int) != 0) = true := by simp; omega
        unfold tz at TV
        dsimp only at TV
        clear hfr HTV
        go_upto_region 7 with (first
          | (go_at_call 49; refine (TV.out _ HB3.out).mono ?_; rintro e w4 ⟨rfl, hb4⟩; have HB4 := Lib.hid hb4; clear hb4)
          | (with_reducible refine wpList_store_new rfl _ _ rfl rfl rfl (by kernel_rfl) (by simp) (by simp [Value.oneCell']) ?_))
        clear c0 c1
        have hnb := (Below.refl w4.heap.size w4).alloc (Nat.le_refl _) (.cells #[.int .i64 0, .int .i64 0, .int .i64 0, .int .i64 0, .int .i64 0, .int .i64 0] 57)
        have htk : TAt (w4.alloc (.cells #[.int .i64 0, .int .i64 0, .int .i64 0, .int .i64 0, .int .i64 0, .int .i64 0] 57)) w4.heap.size tz := ⟨heap_alloc_new _ _⟩
        obtain ⟨W5, hW⟩ : ∃ X, w4.alloc (.cells #[.int .i64 0, .int .i64 0, .int .i64 0, .int .i64 0, .int .i64 0, .int .i64 0] 57) = X := ⟨_, rfl⟩
        obtain ⟨p5, hp⟩ : ∃ p, w4.heap.size = p := ⟨_, rfl⟩
        rw [hW] at hnb
        rw [hW, hp] at htk ⊢
        have HB5 := Lib.hid (bel_tr HB1.out (bel_tr HB3.out (bel_tr HB4.out hnb)))
        obtain ⟨a0, a1, a2, a3, a4, a5⟩ := htk.cells
        unfold tz at a0 a1 a2 a3 a4 a5
        dsimp only at a0 a1 a2 a3 a4 a5
        clear hnb htk hW hp HB4
        go_wp2
        go_ret
        exact ⟨rfl, HB5.out⟩
    · have e5 : (500 : Int) < m := by omega
      go_wp2_with (go_at_call 40; refine HFEW.out.mono ?_; rintro e w3 ⟨rfl, hb3⟩; have HB3 := Lib.hid (bel_tr HB1.out (bel_tr HB2.out hb3)); clear hb3)
      go_ret
      exact ⟨rfl, HB3.out⟩
  · rw [rfew_no hf] at hfew
    have HFEW := Lib.hid hfew
    clear hfew hf
    go_wp2_with (go_at_call 40; refine HFEW.out.mono ?_; rintro e w3 ⟨rfl, hb3⟩; have HB3 := Lib.hid (bel_tr HB1.out (bel_tr HB2.out hb3)); clear hb3)
    go_ret
    exact ⟨rfl, HB3.out⟩

end Go.Proofs.YtmhgdddnjnichaaDoor
