/- Layer 11 (challenge): ChallengeBack: what is answered is taken; clash. -/
import Derived.Test.YtmhgdddnjnichaaDoorCh5
import Derived.Deep.RegionHeld3
import Derived.Deep.RegionLaw
import Derived.Deep.CutBlock
set_option linter.unusedSimpArgs false
namespace Go.Proofs.YtmhgdddnjnichaaDoor
open Go.RowKit Go.Sort

theorem ccheck_cans {l : List RK} {b q q0 : List UInt8} {now slack at' : Int} {t : Tok} (hm : cmay q now = true) (hs : 0 ≤ slack) (hv : tverify l b now = (t, 0)) (h0 : cmay q0 at' = true) :
    ccheck l b q (cans (cdev l b).1 q0 at') now slack = if slack < at' - now ∨ slack < now - at' then (tz, 22) else
            if (ctag (cdev l b).1 q0 at' == ctag (cdev l b).1 q at') = false then (tz, 21) else (t, 0) := by
  have hat := ((cmay_iff q0 at').1 h0).2
  have hw := cmay_wf h0
  obtain ⟨key, hkey⟩ : ∃ k, (cdev l b).1 = k := ⟨_, rfl⟩
  have hbl := cbody_len key q0 hw
  have htl := ctag_len key q0 at'
  have hf := fwhole_frame 6 (cbody key q0 at') (by omega)
  obtain ⟨tg, htg⟩ : ∃ x, ctag key q0 at' = x := ⟨_, rfl⟩
  have hc : (cbody key q0 at').drop 0 = vput at'.toNat ++ (vput 32 ++ (tg ++ [])) := by
    unfold cbody fnum
    rw [htg]
    simp
  obtain ⟨L, hL⟩ : ∃ L, cbody key q0 at' = L := ⟨_, rfl⟩
  have hlen : L.length = (vput at'.toNat).length + (vput 32).length + tg.length := by
    rw [← hL]
    unfold cbody fnum
    rw [htg]
    simp only [List.length_append]
    omega
  rw [htg] at htl
  rw [hL] at hc hbl hf
  have e1 := rnum_vput (most := 1099511627776) hc (by omega) (by omega)
  have d1 := drop_more hc
  have e7 := rnum_vput (most := 32) d1 (by omega) (by omega)
  have d7 := drop_more d1
  have hb : rbytes 32 L (0 + (vput at'.toNat).length) 0 = (tg, L.length, 0) := by
    unfold rbytes
    rw [e7]
    simp only [ne_eq, not_true_eq_false, if_false]
    rw [if_neg (by omega), d7]
    rw [List.take_append_of_le_length (by omega), List.take_of_length_le (by omega)]
    simp only [Prod.mk.injEq, true_and, and_true]
    omega
  have hcans : cans key q0 at' = fframe 6 L := by unfold cans; rw [hL]
  rw [hkey, hcans, htg, cck_r ⟨hm, hs⟩ hv hf e1 hb, if_neg (by unfold rdone; simp), hkey]
  rw [show ((at'.toNat : Nat) : Int) = at' by omega]

set_option maxRecDepth 100000 in
set_option maxHeartbeats 3200000 in
theorem clash_yes (vk v0 v1 : Value) (key q0 q1 : List UInt8) (at' : Int) (w : World) (hk : Bs w vk key) (h0 : Bs w v0 q0) (h1 : Bs w v1 q1) (hlk : key.length < 4294967296) (hl0 : q0.length ≤ 1000) (hl1 : q1.length ≤ 1000) (hn : W64 at') (heq : ctag key q0 at' = ctag key q1 at') :
    Calls Tryd.prog 60 #[vk, .agg #[v0, v1], .int .i64 at'] w fun e w' => e = .returned (.bool true) ∧ Below w.heap.size w w' := by
  obtain ⟨w1, hw1⟩ : ∃ W, w.alloc (.cells #[v0, v1] 86) = W := ⟨_, rfl⟩
  have hb1 : Below w.heap.size w w1 := by rw [← hw1]; exact bel_al (Below.refl _ _) _
  have hr1 : w1.heap[w.heap.size]? = some (.cells #[v0, v1] 86 (0, 0)) := by rw [← hw1]; exact heap_alloc_new _ _
  obtain ⟨g, hg⟩ : ∃ g, w.heap.size = g := ⟨_, rfl⟩
  rw [hg] at hr1
  have HG := Lib.hid hg
  have HWW := Lib.hid hw1
  have HB1 := Lib.hid hb1
  have HC : Hid (∀ X, Below w1.heap.size w1 X → X.cell? ⟨g, 0, none⟩ = some v0 ∧ X.cell? ⟨g, 1, none⟩ = some v1) := fun X hX =>
    have k1 := (hX.block g (heap_lt hr1)).trans hr1
    ⟨cell_of_row X _ _ _ _ _ k1, cell_of_row X _ _ _ _ _ k1⟩
  have T0 : Hid (∀ X, Below w1.heap.size w1 X → Calls Tryd.prog 97 #[vk, v0, .int .i64 at'] X fun e w' => ∃ v, e = .returned v ∧ Ob w' X.heap.size 5 v (ctag key q0 at') ∧ Below X.heap.size X w') := fun X hX => vtag_any _ _ key q0 at' hn X (hk.below (bel_tr hb1 hX)) (h0.below (bel_tr hb1 hX)) hlk hl0
  have T1 : Hid (∀ X, Below w1.heap.size w1 X → Calls Tryd.prog 97 #[vk, v1, .int .i64 at'] X fun e w' => ∃ v, e = .returned v ∧ Ob w' X.heap.size 5 v (ctag key q1 at') ∧ Below X.heap.size X w') := fun X hX => vtag_any _ _ key q1 at' hn X (hk.below (bel_tr hb1 hX)) (h1.below (bel_tr hb1 hX)) hlk hl1
  have TB : Hid (∀ X, Below w1.heap.size w1 X → Calls Tryd.prog 68 #[vk, .int .u8 0] X fun e w' => ∃ a c, e = .returned (.slice a 64 c) ∧ Below X.heap.size X w') := fun X hX => by
    refine (rblock_any vk key 0 hlk X (hk.below (bel_tr hb1 hX))).mono ?_
    rintro e w' ⟨r, rfl, ho, hb⟩
    obtain ⟨a, c, rfl⟩ := ho.shape
    rw [hpad_len]
    exact ⟨a, c, rfl, hb⟩
  rw [← heq] at T1
  obtain ⟨tg, htg⟩ : ∃ x, ctag key q0 at' = x := ⟨_, rfl⟩
  rw [htg] at T0 T1
  clear hk h0 h1 heq htg hb1 hr1 hg hw1
  go_enter Tryd.func60, Tryd.ntmps60
  go_upto_region 1 with fail
  rw [HWW.out, HG.out]
  have HB0 : Hid (Below w1.heap.size w1 w1.drew) := bel_dr (Below.refl _ _)
  have K0 := HC.out _ HB0.out
  go_region_held3 (fun X => X.cell? ⟨g, 0, none⟩ = some v0 ∧ X.cell? ⟨g, 1, none⟩ = some v1)
    (first | with_reducible exact K0 | with_reducible exact HC.out _ HB2.out | with_reducible exact HC.out _ HB3.out | with_reducible exact HC.out _ HB4.out | with_reducible exact HC.out _ HB5.out)
    (first
      | (go_at_call 97; with_reducible refine (T0.out _ HB0.out).mono ?_; rintro e w2 ⟨x2, rfl, ho2, hb2⟩; have HO2 := Lib.hid ho2; have HB2 := Lib.hid (bel_tr HB0.out hb2))
      | (go_at_call 97; with_reducible refine (T1.out _ HB2.out).mono ?_; rintro e w3 ⟨x3, rfl, ho3, hb3⟩; have HO3 := Lib.hid ho3; have HO23 := Lib.hid (HO2.out.below hb3); have HB3 := Lib.hid (bel_tr HB2.out hb3))
      | (go_at_call 17; refine (same_any _ _ tg tg _ HO23.out.bs HO3.out.bs).mono ?_; rw [beq_self_eq_true]; rintro e w4 ⟨rfl, hb4⟩; have HB4 := Lib.hid (bel_tr HB3.out hb4))
      | (go_at_call 68; with_reducible refine (TB.out _ HB4.out).mono ?_; rintro e w5 ⟨a5, c5, rfl, hb5⟩; have HB5 := Lib.hid (bel_tr HB4.out hb5)))
  all_goals
    have HB6 := Lib.hid (bel_tr HB1.out HB5.out)
    clear ho2 ho3 hb2 hb3 hb4 hb5 K0
    go_wp2
    go_ret
    exact ⟨rfl, HB6.out⟩

theorem grown_below {w1 X w' : World} {v : Value} {l : List UInt8} {e : Nat} (hX : Below w1.heap.size w1 X) (ho : Ob X w1.heap.size e v l) (hg : X.grownBy w' v.ownBlock) : Below w1.heap.size w1 w' := hX.grown hg hX.size (fun k hk => (ho.lt k hk).1)
theorem two_new (w : World) (o1 o2 : Obj) : ((w.alloc o1).alloc o2).heap[w.heap.size + 1]? = some o2 := by rw [alloc_get, if_pos (by simp)]
theorem two_old (w : World) (o1 o2 : Obj) : ((w.alloc o1).alloc o2).heap[w.heap.size]? = some o1 := by rw [alloc_get, if_neg (by simp), alloc_get, if_pos rfl]
theorem own_ne {X : World} {v : Value} {l : List UInt8} {e B : Nat} (ho : Ob X B e v l) : some X.heap.size ≠ v.ownBlock := fun h => by have := (ho.lt _ h.symm).2; omega

set_option maxRecDepth 100000 in
set_option maxHeartbeats 6400000 in
theorem challengeback_walk (x : Tok) (v0 v1 : Value) (q0 q1 : List UInt8) (m0 m1 m2 : Nat) (w : World) (hx : x.Wf) (h0 : Bs w v0 q0) (h1 : Bs w v1 q1) (hm0 : m0 < 65536) (hm1 : m1 < 65536) (hm2 : m2 < 65536) (hT : Tabbed w) :
    Calls Tryd.prog 15 #[.agg x.row, .agg #[v0, v1], .agg #[.int .u16 m0, .int .u16 m1, .int .u16 m2]] w fun e w' => e = .returned (.bool true) ∧ Below w.heap.size w w' := by
  obtain ⟨a0, c0, rfl⟩ := h0.shape
  obtain ⟨a1, c1, rfl⟩ := h1.shape
  obtain ⟨n0, hn0⟩ : ∃ n, q0.length = n := ⟨_, rfl⟩
  obtain ⟨n1, hn1⟩ : ∃ n, q1.length = n := ⟨_, rfl⟩
  rw [hn0] at h0 ⊢
  rw [hn1] at h1 ⊢
  have HN := Lib.hid (And.intro hn0 hn1)
  have HWF := Lib.hid hx
  have H0 := Lib.hid h0
  have H1 := Lib.hid h1
  have HT := Lib.hid hT
  unfold Tok.row
  obtain ⟨w1, hw1⟩ : ∃ W, ((w.alloc (.cells #[.int .i64 x.trip, .int .i64 x.acct, .int .i64 x.stop, .int .i64 x.iss, .int .i64 x.til, .int .i64 x.ep] 57)).alloc (.cells #[.slice a0 n0 c0, .slice a1 n1 c1] 86)).alloc (.cells #[.int .u16 m0, .int .u16 m1, .int .u16 m2] 87) = W := ⟨_, rfl⟩
  have hb1 : Below w.heap.size w w1 := by rw [← hw1]; exact bel_al (bel_al (bel_al (Below.refl _ _) _) _) _
  have hx1 : TAt w1 w.heap.size x := ⟨by rw [← hw1, alloc_get, if_neg (by simp; omega), alloc_get, if_neg (by simp), alloc_get, if_pos rfl]; rfl⟩
  have hq1 : w1.heap[w.heap.size + 1]? = some (.cells #[.slice a0 n0 c0, .slice a1 n1 c1] 86 (0, 0)) := by rw [← hw1, alloc_get, if_neg (by simp), alloc_get, if_pos (by simp)]
  have hm1 : w1.heap[w.heap.size + 1 + 1]? = some (.cells #[.int .u16 m0, .int .u16 m1, .int .u16 m2] 87 (0, 0)) := by rw [← hw1, alloc_get, if_pos (by simp)]
  obtain ⟨r, hr⟩ : ∃ q, w.heap.size + 1 + 1 = q := ⟨_, rfl⟩
  rw [hr] at hm1
  have HQ4 := Lib.hid hr
  obtain ⟨q, hq⟩ : ∃ q, w.heap.size + 1 = q := ⟨_, rfl⟩
  obtain ⟨g, hg⟩ : ∃ g, w.heap.size = g := ⟨_, rfl⟩
  rw [hq] at hq1
  rw [hg] at hx1
  have HQ2 : Hid (w.heap.size = g) := hg
  have HQ3 := Lib.hid hq
  have HWW := Lib.hid hw1
  have HB1 := Lib.hid hb1
  have HC : Hid (∀ X, Below w1.heap.size w1 X → X.cell? ⟨q, 0, none⟩ = some (.slice a0 n0 c0) ∧ X.cell? ⟨q, 1, none⟩ = some (.slice a1 n1 c1)) := fun X hX =>
    have k2 := (hX.block q (heap_lt hq1)).trans hq1
    ⟨cell_of_row X _ _ _ _ _ k2, cell_of_row X _ _ _ _ _ k2⟩
  have HM : Hid (∀ X, Below w1.heap.size w1 X → X.cell? ⟨r, 0, none⟩ = some (.int .u16 m0) ∧ X.cell? ⟨r, 1, none⟩ = some (.int .u16 m1) ∧ X.cell? ⟨r, 2, none⟩ = some (.int .u16 m2)) := fun X hX =>
    have k2 := (hX.block r (heap_lt hm1)).trans hm1
    ⟨cell_of_row X _ _ _ _ _ k2, cell_of_row X _ _ _ _ _ k2, cell_of_row X _ _ _ _ _ k2⟩
  have HX1 : Hid (∀ X, Below w1.heap.size w1 X → TAt X g x) := fun X hX => hx1.below hX
  clear hx h0 h1 hT hn0 hn1 hb1 hx1 hq1 hm1 hr hq hg hw1
  go_enter Tryd.func15, Tryd.ntmps15
  go_upto_region 1 with fail
  rw [HWW.out, HQ4.out, HQ3.out, HQ2.out]
  clear HWW HQ4 HQ3 HQ2
  go_upto_region 3 with (go_at_call 51; refine (awake11_any _ (HT.out.below HB1.out)).mono ?_; rintro e w2 ⟨rfl, hb2⟩; have HB2 := Lib.hid hb2; clear hb2)
  obtain ⟨d0, d1⟩ := HC.out _ HB2.out
  by_cases hn0 : n0 = 16
  · subst hn0
    by_cases hn1 : n1 = 16
    · subst hn1
      go_upto_region 5 with fail
      clear d0 d1
      have H0X : Hid (∀ X, Below w1.heap.size w1 X → Bs X (.slice a0 16 c0) q0) := fun X hX => H0.out.below (bel_tr HB1.out hX)
      have H1X : Hid (∀ X, Below w1.heap.size w1 X → Bs X (.slice a1 16 c1) q1) := fun X hX => H1.out.below (bel_tr HB1.out hX)
      have HBD : Hid (Below w1.heap.size w1 w2.drew) := bel_dr HB2.out
      have K0 := HC.out _ HBD.out
      have HL01 : Hid ((q0 ++ q1).length = 32) := by
        have := HN.out
        show List.length _ = 32
        rw [List.length_append]
        omega
      have TN : Hid (∀ X v B, Below w1.heap.size w1 X → Ob X B 5 v ([] ++ q0 ++ q1) → Calls Tryd.prog 31 #[.int .i64 2, v] X fun e w' => ∃ xa xc ka kc, e = .returned (.tuple #[.agg #[.int .i64 2, .slice xa 1 xc], .int .i64 0]) ∧ Hid (Ks w' (.slice xa 1 xc) [⟨1, ka, kc, rkey (q0 ++ q1) 1⟩]) ∧ Hid (Below w1.heap.size w1 w') ∧ Hid (Below X.heap.size X w') ∧ Hid (∀ F : Nat → Prop, (∀ k, F k → k < X.heap.size) → KsOff F (.slice xa 1 xc) [⟨1, ka, kc, rkey (q0 ++ q1) 1⟩])) := by
        intro X v B hX hv
        have hb := hv.bs
        rw [List.nil_append] at hb
        refine (new_ok 2 v (q0 ++ q1) X hb (by decide) (by decide) HL01.out (HT.out.below (bel_tr HB1.out hX))).mono ?_
        rintro e w' ⟨va, ka, kc, rfl, h1, h2, h3⟩
        obtain ⟨xa, xc, rfl⟩ := h1.g.shape
        exact ⟨xa, xc, ka, kc, rfl, h1, bel_tr hX h2, h2, h3⟩
      have HOX : Hid (∀ X, Below (w2.alloc (.cells #[] 5)).heap.size (w2.alloc (.cells #[] 5)) X → Ob X w1.heap.size 5 (.slice (some ⟨w2.heap.size, 0, none⟩) 0 0) []) := fun X hX => ((ob_lit w2 5 #[] [] 0 rfl (by decide) rfl).mono HB2.out.size).below hX
      have HEX : Hid (∀ X, Below (w2.alloc (.cells #[] 5)).heap.size (w2.alloc (.cells #[] 5)) X → Below w1.heap.size w1 X) := fun X hX => bel_tr (bel_al HB2.out _) hX
      have HOY : Hid (∀ X, Below ((w2.alloc (.cells #[.int .i64 0, .slice none 0 0] 39)).alloc (.cells #[] 5)).heap.size ((w2.alloc (.cells #[.int .i64 0, .slice none 0 0] 39)).alloc (.cells #[] 5)) X → Ob X w1.heap.size 5 (.slice (some ⟨w2.heap.size + 1, 0, none⟩) 0 0) []) := fun X hX => by
        have h := ((ob_lit (w2.alloc (.cells #[.int .i64 0, .slice none 0 0] 39)) 5 #[] [] 0 rfl (by decide) rfl).mono (bel_al HB2.out _).size).below hX
        rw [show (w2.alloc (.cells #[.int .i64 0, .slice none 0 0] 39)).heap.size = w2.heap.size + 1 by simp] at h
        exact h
      have HEY : Hid (∀ X, Below ((w2.alloc (.cells #[.int .i64 0, .slice none 0 0] 39)).alloc (.cells #[] 5)).heap.size ((w2.alloc (.cells #[.int .i64 0, .slice none 0 0] 39)).alloc (.cells #[] 5)) X → Below w1.heap.size w1 X) := fun X hX => bel_tr (bel_al (bel_al HB2.out _) _) hX
      have HLA : Hid ((([] : List UInt8).length + q0.length) * 1 ≤ 140737488355328 ∧ ([] : List UInt8).length + q0.length ≤ 9223372036854775807 ∧ (([] ++ q0 : List UInt8).length + q1.length) * 1 ≤ 140737488355328 ∧ ([] ++ q0 : List UInt8).length + q1.length ≤ 9223372036854775807) := by
        have h := HN.out
        refine ⟨?_, ?_, ?_, ?_⟩ <;> simp <;> omega
      have HBE : Hid (Below w1.heap.size w1 (w2.alloc (.cells #[] 5)).drew) := bel_dr (bel_al HB2.out _)
      have HBF : Hid (∀ o, Below w1.heap.size w1 (((w2.alloc (.cells #[] 5)).alloc o)).drew) := fun o => bel_dr (bel_al (bel_al HB2.out _) _)
      have HBG : Hid (∀ o o', Below w1.heap.size w1 (((w2.alloc o).alloc o')).drew) := fun o o' => bel_dr (bel_al (bel_al HB2.out _) _)
      have HBH : Hid (∀ o, Below w1.heap.size w1 (w2.alloc o).drew) := fun o => bel_dr (bel_al HB2.out _)
      have KS : Hid (∀ X B u0 u1, Below w1.heap.size w1 X → w1.heap.size ≤ B → ((X.setCell ⟨B, 0, none⟩ u0).setCell ⟨B, 1, none⟩ u1).cell? ⟨q, 0, none⟩ = some (.slice a0 16 c0) ∧ ((X.setCell ⟨B, 0, none⟩ u0).setCell ⟨B, 1, none⟩ u1).cell? ⟨q, 1, none⟩ = some (.slice a1 16 c1)) := fun X B u0 u1 hX hB =>
        HC.out _ (hX.trans (((set_only X B 0 u0).trans (set_only _ B 1 u1)).below (fun k hk => by omega) hX.size))
      go_cut [7, 8] (fun s7 s8 wx => ∃ G xa xc ka kc, s7 = .pointer (some ⟨G, 0, none⟩) ∧ s8 = .int .i64 0 ∧ Hid (wx.heap[G]? = some (.cells #[.int .i64 2, .slice xa 1 xc] 39 (0, 0))) ∧ Hid (Below w1.heap.size w1 wx) ∧ Hid (Ks wx (.slice xa 1 xc) [⟨1, ka, kc, rkey (q0 ++ q1) 1⟩]))
      case first =>
        go_region_held3 (fun X => X.cell? ⟨q, 0, none⟩ = some (.slice a0 16 c0) ∧ X.cell? ⟨q, 1, none⟩ = some (.slice a1 16 c1))
          (first | with_reducible exact HC.out _ HB5.out | with_reducible exact HC.out _ (bel_al HB5.out _) | with_reducible exact KS.out _ _ _ _ HB5.out HB2.out.size | with_reducible exact KS.out _ _ _ _ HB5.out (Nat.le_succ_of_le HB2.out.size) | with_reducible exact KS.out _ _ _ _ HB5.out HB4.size | with_reducible exact KS.out _ _ _ _ HB5.out HB3.size | with_reducible exact HC.out _ HB4 | with_reducible exact HC.out _ (bel_al HB4 _) | with_reducible exact HC.out _ HB3 | with_reducible exact HC.out _ (bel_al HB3 _) | with_reducible exact HC.out _ HBE.out | with_reducible exact HC.out _ (HBF.out _) | with_reducible exact HC.out _ (HBG.out _ _) | with_reducible exact HC.out _ (HBH.out _) | with_reducible exact HC.out _ (bel_al HBE.out _) | with_reducible exact K0)
          (first
            | (go_at_call 31; with_reducible refine (TN.out _ _ _ HB4 ho4).mono ?_; rintro e w5 ⟨xa, xc, ka, kc, rfl, HK5, HB5, HB45, HF5⟩; try (have a5 := (HB45.out.block _ (heap_lt a4)).trans a4; have z0 := cell_of_row w5 _ 0 _ _ _ a5; have z1 := cell_of_row w5 _ 1 _ _ _ a5; have y0 := row_free a5 0; have y1 := row_free a5 1; have A5 := Lib.hid a5; clear a5))
            | (go_at_call 31; with_reducible refine (TN.out _ _ _ (bel_al HB4 _) (ho4.alloc _)).mono ?_; rintro e w5 ⟨xa, xc, ka, kc, rfl, HK5, HB5, HB45, HF5⟩; have a5 := (HB45.out.block w4.heap.size (by simp)).trans (heap_alloc_new w4 _); have z0 := cell_of_row w5 _ 0 _ _ _ a5; have z1 := cell_of_row w5 _ 1 _ _ _ a5; have y0 := row_free a5 0; have y1 := row_free a5 1; have A5 := Lib.hid a5; clear a5)
            | (refine step_append_bytes_mv ho3 (H1X.out _ HB3) elB HLA.out.2.2.1 HLA.out.2.2.2 HB3.size ?_ _ _ rfl rfl rfl rfl; intro v4 w4 ho4 hg4 hm4; have HB4 := grown_below HB3 ho3 hg4; try (have a4 := (hg4.block _ (heap_lt a3) ne3).trans a3))
            | (refine step_append_bytes_mv (ho3.alloc _) (H1X.out _ (bel_al HB3 _)) elB HLA.out.2.2.1 HLA.out.2.2.2 (bel_al HB3 _).size ?_ _ _ rfl rfl rfl rfl; intro v4 w4 ho4 hg4 hm4; have HB4 := grown_below (bel_al HB3 _) (ho3.alloc _) hg4; have a4 := (hg4.block w3.heap.size (by simp) (own_ne ho3)).trans (heap_alloc_new w3 _))
            | (refine step_append_bytes_mv (HOX.out _ (by repeat (first | with_reducible exact Below.refl _ _ | with_reducible refine bel_dr ?_ | with_reducible refine bel_al ?_ _))) (H0X.out _ (HEX.out _ (by repeat (first | with_reducible exact Below.refl _ _ | with_reducible refine bel_dr ?_ | with_reducible refine bel_al ?_ _)))) elB HLA.out.1 HLA.out.2.1 (HEX.out _ (by repeat (first | with_reducible exact Below.refl _ _ | with_reducible refine bel_dr ?_ | with_reducible refine bel_al ?_ _))).size ?_ _ _ rfl rfl rfl rfl; intro v3 w3 ho3 hg3 hm3; have HB3 := grown_below (HEX.out _ (by repeat (first | with_reducible exact Below.refl _ _ | with_reducible refine bel_dr ?_ | with_reducible refine bel_al ?_ _))) (HOX.out _ (by repeat (first | with_reducible exact Below.refl _ _ | with_reducible refine bel_dr ?_ | with_reducible refine bel_al ?_ _))) hg3; try (have a3 : w3.heap[w2.heap.size + 1]? = some (.cells #[.int .i64 0, .slice none 0 0] 39) := (hg3.block (w2.heap.size + 1) (by simp) (by simp [Value.ownBlock])).trans (two_new w2 _ _); have ne3 : some (w2.heap.size + 1) ≠ v3.ownBlock := (by rcases hm3 with h | h <;> rw [h] <;> simp [Value.ownBlock])))
            | (refine step_append_bytes_mv (HOY.out _ (by repeat (first | with_reducible exact Below.refl _ _ | with_reducible refine bel_dr ?_ | with_reducible refine bel_al ?_ _))) (H0X.out _ (HEY.out _ (by repeat (first | with_reducible exact Below.refl _ _ | with_reducible refine bel_dr ?_ | with_reducible refine bel_al ?_ _)))) elB HLA.out.1 HLA.out.2.1 (HEY.out _ (by repeat (first | with_reducible exact Below.refl _ _ | with_reducible refine bel_dr ?_ | with_reducible refine bel_al ?_ _))).size ?_ _ _ rfl rfl rfl rfl; intro v3 w3 ho3 hg3 hm3; have HB3 := grown_below (HEY.out _ (by repeat (first | with_reducible exact Below.refl _ _ | with_reducible refine bel_dr ?_ | with_reducible refine bel_al ?_ _))) (HOY.out _ (by repeat (first | with_reducible exact Below.refl _ _ | with_reducible refine bel_dr ?_ | with_reducible refine bel_al ?_ _))) hg3; have a3 : w3.heap[w2.heap.size]? = some (.cells #[.int .i64 0, .slice none 0 0] 39) := (hg3.block w2.heap.size (by simp; omega) (by simp [Value.ownBlock])).trans (two_old w2 _ _); have ne3 : some w2.heap.size ≠ v3.ownBlock := (by rcases hm3 with h | h <;> rw [h] <;> simp [Value.ownBlock]; omega)))
        focus (
          have T1 : Hid ((w5.alloc (.cells #[.int .i64 2, .slice xa 1 xc] 39)).heap[w5.heap.size]? = some (.cells #[.int .i64 2, .slice xa 1 xc] 39 (0, 0))) := heap_alloc_new _ _
          have T2 : Hid (Below w1.heap.size w1 (w5.alloc (.cells #[.int .i64 2, .slice xa 1 xc] 39))) := bel_al HB5.out _
          have T3 : Hid (Ks (w5.alloc (.cells #[.int .i64 2, .slice xa 1 xc] 39)) (.slice xa 1 xc) [⟨1, ka, kc, rkey (q0 ++ q1) 1⟩]) := HK5.out.below (bel_al (Below.refl _ _) _)
          go_wp2
          go_meet
          case rel => exact ⟨_, xa, xc, ka, kc, rfl, rfl, T1, T2, T3⟩)
        focus (
          have hso := setRow_only w5 (w4.heap.size) #[.int .i64 2, .slice xa 1 xc]
          have T1 : Hid ((w5.setRow (w4.heap.size) #[.int .i64 2, .slice xa 1 xc]).heap[w4.heap.size]? = some (.cells #[.int .i64 2, .slice xa 1 xc] 39 (0, 0))) := setRow_heap w5 _ _ _ _ _ A5.out
          have T2 : Hid (Below w1.heap.size w1 (w5.setRow (w4.heap.size) #[.int .i64 2, .slice xa 1 xc])) := HB5.out.trans (hso.below (fun k hk => by rw [hk]; exact HB4.size) HB5.out.size)
          have T3 : Hid (Ks (w5.setRow (w4.heap.size) #[.int .i64 2, .slice xa 1 xc]) (.slice xa 1 xc) [⟨1, ka, kc, rkey (q0 ++ q1) 1⟩]) := HK5.out.only (HF5.out (fun k => k = w4.heap.size) (fun k hk => by rw [hk]; exact (by simp))) hso
          rw [two_cells _ _ _ _ _ _ _ A5.out]
          clear z0 z1 y0 y1 A5 hso
          go_wp2
          go_meet
          case rel => exact ⟨_, xa, xc, ka, kc, rfl, rfl, T1, T2, T3⟩)
        focus (
          have hso := setRow_only w5 (w3.heap.size) #[.int .i64 2, .slice xa 1 xc]
          have T1 : Hid ((w5.setRow (w3.heap.size) #[.int .i64 2, .slice xa 1 xc]).heap[w3.heap.size]? = some (.cells #[.int .i64 2, .slice xa 1 xc] 39 (0, 0))) := setRow_heap w5 _ _ _ _ _ A5.out
          have T2 : Hid (Below w1.heap.size w1 (w5.setRow (w3.heap.size) #[.int .i64 2, .slice xa 1 xc])) := HB5.out.trans (hso.below (fun k hk => by rw [hk]; exact HB3.size) HB5.out.size)
          have T3 : Hid (Ks (w5.setRow (w3.heap.size) #[.int .i64 2, .slice xa 1 xc]) (.slice xa 1 xc) [⟨1, ka, kc, rkey (q0 ++ q1) 1⟩]) := HK5.out.only (HF5.out (fun k => k = w3.heap.size) (fun k hk => by rw [hk]; exact heap_lt a4)) hso
          rw [two_cells _ _ _ _ _ _ _ A5.out]
          clear z0 z1 y0 y1 A5 hso
          go_wp2
          go_meet
          case rel => exact ⟨_, xa, xc, ka, kc, rfl, rfl, T1, T2, T3⟩)
        focus (
          have hso := setRow_only w5 (w2.heap.size + 1) #[.int .i64 2, .slice xa 1 xc]
          have T1 : Hid ((w5.setRow (w2.heap.size + 1) #[.int .i64 2, .slice xa 1 xc]).heap[w2.heap.size + 1]? = some (.cells #[.int .i64 2, .slice xa 1 xc] 39 (0, 0))) := setRow_heap w5 _ _ _ _ _ A5.out
          have T2 : Hid (Below w1.heap.size w1 (w5.setRow (w2.heap.size + 1) #[.int .i64 2, .slice xa 1 xc])) := HB5.out.trans (hso.below (fun k hk => by rw [hk]; exact Nat.le_succ_of_le HB2.out.size) HB5.out.size)
          have T3 : Hid (Ks (w5.setRow (w2.heap.size + 1) #[.int .i64 2, .slice xa 1 xc]) (.slice xa 1 xc) [⟨1, ka, kc, rkey (q0 ++ q1) 1⟩]) := HK5.out.only (HF5.out (fun k => k = w2.heap.size + 1) (fun k hk => by rw [hk]; exact heap_lt a4)) hso
          rw [two_cells _ _ _ _ _ _ _ A5.out]
          clear z0 z1 y0 y1 A5 hso
          go_wp2
          go_meet
          case rel => exact ⟨_, xa, xc, ka, kc, rfl, rfl, T1, T2, T3⟩)
        focus (
          have hso := setRow_only w5 (w2.heap.size) #[.int .i64 2, .slice xa 1 xc]
          have T1 : Hid ((w5.setRow (w2.heap.size) #[.int .i64 2, .slice xa 1 xc]).heap[w2.heap.size]? = some (.cells #[.int .i64 2, .slice xa 1 xc] 39 (0, 0))) := setRow_heap w5 _ _ _ _ _ A5.out
          have T2 : Hid (Below w1.heap.size w1 (w5.setRow (w2.heap.size) #[.int .i64 2, .slice xa 1 xc])) := HB5.out.trans (hso.below (fun k hk => by rw [hk]; exact HB2.out.size) HB5.out.size)
          have T3 : Hid (Ks (w5.setRow (w2.heap.size) #[.int .i64 2, .slice xa 1 xc]) (.slice xa 1 xc) [⟨1, ka, kc, rkey (q0 ++ q1) 1⟩]) := HK5.out.only (HF5.out (fun k => k = w2.heap.size) (fun k hk => by rw [hk]; exact heap_lt a4)) hso
          rw [two_cells _ _ _ _ _ _ _ A5.out]
          clear z0 z1 y0 y1 A5 hso
          go_wp2
          go_meet
          case rel => exact ⟨_, xa, xc, ka, kc, rfl, rfl, T1, T2, T3⟩)
      case rest =>
        obtain ⟨G, xa, xc, ka, kc, rfl, rfl, HRG, HBW, HKS⟩ := hcut
        obtain ⟨W, hW⟩ : ∃ W, wc = W := ⟨_, rfl⟩
        rw [hW] at HRG HBW HKS ⊢
        clear hW HBD HL01 TN HOX HEX HOY HEY HLA HBE HBF HBG HBH KS
        obtain ⟨kk, hkk⟩ : ∃ k, rkey (q0 ++ q1) 1 = k := ⟨_, rfl⟩
        have hkl : kk.length = 32 := by rw [← hkk]; exact rkey_len _ _
        rw [hkk] at HKS
        clear hkk
        obtain ⟨l, hl⟩ : ∃ l, l = [(⟨1, ka, kc, kk⟩ : RK)] := ⟨_, rfl⟩
        have hrp : RP 2 l := by rw [hl]; exact rp_one (by decide) (by decide) _ _ _ hkl
        have hkf : kf 1 l = some kk := by rw [hl]; simp [kf]
        have hep : epl l = 1 := by rw [hl]; rfl
        have hsm : Hid (∀ k ∈ l, k.b.length ≤ 1000000) := fun k hk => by rw [hl] at hk; simp at hk; subst hk; show kk.length ≤ _; omega
        rw [← hl] at HKS
        clear hl
        have HC1 : Hid (∀ X, Below W.heap.size W X → X.cell? ⟨G, 0, none⟩ = some (.int .i64 2) ∧ X.cell? ⟨G, 1, none⟩ = some (.slice xa 1 xc)) := fun X hX =>
          have k2 := (hX.block G (heap_lt HRG.out)).trans HRG.out
          ⟨cell_of_row X _ _ _ _ _ k2, cell_of_row X _ _ _ _ _ k2⟩
        have HC2 : Hid (∀ X, Below W.heap.size W X → X.cell? ⟨q, 0, none⟩ = some (.slice a0 16 c0) ∧ X.cell? ⟨q, 1, none⟩ = some (.slice a1 16 c1)) := fun X hX => HC.out _ (bel_tr HBW.out hX)
        have HC3 : Hid (∀ X, Below W.heap.size W X → X.cell? ⟨r, 0, none⟩ = some (.int .u16 m0) ∧ X.cell? ⟨r, 1, none⟩ = some (.int .u16 m1) ∧ X.cell? ⟨r, 2, none⟩ = some (.int .u16 m2)) := fun X hX => HM.out _ (bel_tr HBW.out hX)
        have HC4 : Hid (∀ X, Below W.heap.size W X → X.cell? ⟨g, 0, none⟩ = some (.int .i64 x.trip) ∧ X.cell? ⟨g, 1, none⟩ = some (.int .i64 x.acct) ∧ X.cell? ⟨g, 2, none⟩ = some (.int .i64 x.stop) ∧ X.cell? ⟨g, 3, none⟩ = some (.int .i64 x.iss) ∧ X.cell? ⟨g, 4, none⟩ = some (.int .i64 x.til) ∧ X.cell? ⟨g, 5, none⟩ = some (.int .i64 x.ep)) := fun X hX => (HX1.out _ (bel_tr HBW.out hX)).cells
        have HWW : Hid (Below w.heap.size w W) := bel_tr HB1.out HBW.out
        have HTW : Hid (Tabbed W) := HT.out.below HWW.out
        have H0W : Hid (∀ X, Below W.heap.size W X → Bs X (.slice a0 16 c0) q0) := fun X hX => H0X.out _ (bel_tr HBW.out hX)
        have H1W : Hid (∀ X, Below W.heap.size W X → Bs X (.slice a1 16 c1) q1) := fun X hX => H1X.out _ (bel_tr HBW.out hX)
        clear HC HM HX1 HRG H0X H1X HBW HB2 K0
        obtain ⟨d0, d1⟩ := HC1.out _ (Below.refl _ _)
        obtain ⟨e0, e1, e2, e3, e4, e5⟩ := HC4.out _ (Below.refl _ _)
        have hiss := issue_any 2 (.slice xa 1 xc) l x W HKS.out (by decide) HWF.out hsm.out HTW.out
        unfold IssuePost Tok.row at hiss
        by_cases hmay : tmay (x.at 1) = true
        · have hti : tissue 2 l x = (fframe 2 (tbody kk (x.at 1)), 0) := by
            unfold tissue
            rw [if_pos ⟨kok_yes hrp, by rw [hep]; exact hmay⟩, hep, hkf]
            rfl
          rw [hti] at hiss
          simp only at hiss
          obtain ⟨B, hB⟩ : ∃ B, fframe 2 (tbody kk (x.at 1)) = B := ⟨_, rfl⟩
          have hBl : B.length ≤ 1000 := by
            rw [← hB, fframe_len]
            have h1 := tbody_len (tmay_wf hmay) kk
            have h2 := vput_len10 (tbody kk (x.at 1)).length (by omega)
            omega
          rw [hB] at hiss
          have HISS := Lib.hid hiss
          have HBL := Lib.hid hBl
          clear hiss hti hBl
          obtain ⟨bn, hbn⟩ : ∃ n, B.length = n := ⟨_, rfl⟩
          go_upto_region 9 with (go_at_call 41; refine HISS.out.mono ?_; rintro e w6 ⟨v6, rfl, hbs6, hb6⟩; obtain ⟨ba, bc, hsh⟩ := hbs6.shape; rw [hbn] at hsh; subst hsh; have HV6 := Lib.hid hbs6; have HB6 := Lib.hid hb6; clear hbs6 hb6)
          clear d0 d1 e0 e1 e2 e3 e4 e5 HISS hbn
          have hkb : kf (x.at 1).ep l = some kk := hkf
          obtain ⟨dk, hdk⟩ : ∃ k, hderive kk devS.data.toList B = k := ⟨_, rfl⟩
          have hdkl : dk.length = 32 := by rw [← hdk]; exact htag_len _ _
          have hto := topen_issue hmay kk
          rw [hB] at hto
          have hcd : cdev l B = (dk, 0) := by rw [cdev_some hto hkb, if_neg (by simp), hdk]
          have hdev : Calls Tryd.prog 53 #[.agg #[.int .i64 2, .slice xa 1 xc], .slice ba bn bc] w6 (DevPost l B w6) := chdevice_any 2 _ l _ B w6 (HKS.out.below HB6.out) HV6.out (by have := HBL.out; omega) hsm.out (HTW.out.below HB6.out)
          unfold DevPost at hdev
          rw [hcd] at hdev
          simp only at hdev
          have HDEV := Lib.hid hdev
          have HCD := Lib.hid hcd
          clear hdev hdk hcd
          obtain ⟨d0, d1⟩ := HC1.out _ HB6.out
          go_upto_region 10 with (go_at_call 53; refine HDEV.out.mono ?_; rintro e w7 ⟨kv, rfl, hkv, hb7⟩; have HKV := Lib.hid hkv; have HB7 := Lib.hid (bel_tr HB6.out hb7); have HV7 := Lib.hid (HV6.out.below hb7); clear hkv hb7)
          clear d0 d1 HDEV
          obtain ⟨-, -, -, ⟨i1, i2⟩, ⟨i3, i4⟩, -⟩ := (tmay_iff _).1 hmay
          have i1 : 0 ≤ x.iss := i1
          have i2 : x.iss ≤ 1099511627776 := i2
          have i3 : x.iss ≤ x.til := i3
          have i4 : x.til ≤ 1099511627776 := i4
          obtain ⟨mm0, mm1, mm2⟩ := HC3.out _ HB7.out
          obtain ⟨e0, e1, e2, e3, e4, e5⟩ := HC4.out _ HB7.out
          go_quiet (fail)
          clear e0 e1 e2 e3 e4 e5
          have hmd : (0 : Int) ≤ (m0 : Int) % (x.til - x.iss + 1) ∧ (m0 : Int) % (x.til - x.iss + 1) < x.til - x.iss + 1 := ⟨Int.emod_nonneg _ (by omega), Int.emod_lt_of_pos _ (by omega)⟩
          obtain ⟨md, hmd2⟩ : ∃ z, (m0 : Int) % (x.til - x.iss + 1) = z := ⟨_, rfl⟩
          rw [hmd2] at hmd ⊢
          rw [show wrap64 (x.iss + md) = x.iss + md by unfold wrap64; omega]
          obtain ⟨at1, hat1⟩ : ∃ z, x.iss + md = z := ⟨_, rfl⟩
          have hal : x.iss ≤ at1 ∧ at1 ≤ x.til := by omega
          rw [hat1]
          have hbn : Below W.heap.size W (w7.drewN nq) := below_drewN HB7.out _
          have hkv : Bs (w7.drewN nq) kv dk := HKV.out.below (below_drewN (Below.refl _ _) _)
          have hv7 : Bs (w7.drewN nq) (.slice ba bn bc) B := HV7.out.below (below_drewN (Below.refl _ _) _)
          obtain ⟨W8, hW8⟩ : ∃ X, w7.drewN nq = X := ⟨_, rfl⟩
          rw [hW8] at hbn hkv hv7 ⊢
          have HB8 := Lib.hid hbn
          have HKV8 := Lib.hid hkv
          have HV8 := Lib.hid hv7
          clear hmd hmd2 hat1 hbn hkv hv7 hW8 HB7 HKV HV7 mm0 mm1 mm2 HB6 HV6
          obtain ⟨mm0, mm1, mm2⟩ := HC3.out _ HB8.out
          obtain ⟨e0, e1, e2, e3, e4, e5⟩ := HC4.out _ HB8.out
          go_upto_region 11 with fail
          go_quiet (fail)
          clear e0 e1 e2 e3 e4 e5
          have hmd : (0 : Int) ≤ (m1 : Int) % (x.til - x.iss + 1) ∧ (m1 : Int) % (x.til - x.iss + 1) < x.til - x.iss + 1 := ⟨Int.emod_nonneg _ (by omega), Int.emod_lt_of_pos _ (by omega)⟩
          obtain ⟨md, hmd2⟩ : ∃ z, (m1 : Int) % (x.til - x.iss + 1) = z := ⟨_, rfl⟩
          rw [hmd2] at hmd ⊢
          rw [show wrap64 (x.iss + md) = x.iss + md by unfold wrap64; omega]
          obtain ⟨no1, hno1⟩ : ∃ z, x.iss + md = z := ⟨_, rfl⟩
          have hnl : x.iss ≤ no1 ∧ no1 ≤ x.til := by omega
          rw [hno1]
          have hbn : Below W.heap.size W (W8.drewN nq) := below_drewN HB8.out _
          have hkv : Bs (W8.drewN nq) kv dk := HKV8.out.below (below_drewN (Below.refl _ _) _)
          have hv7 : Bs (W8.drewN nq) (.slice ba bn bc) B := HV8.out.below (below_drewN (Below.refl _ _) _)
          obtain ⟨W9, hW9⟩ : ∃ X, W8.drewN nq = X := ⟨_, rfl⟩
          rw [hW9] at hbn hkv hv7 ⊢
          have HB9 := Lib.hid hbn
          have HKV9 := Lib.hid hkv
          have HV9 := Lib.hid hv7
          clear hmd hmd2 hno1 hbn hkv hv7 hW9 HB8 HKV8 HV8 mm0 mm1 mm2
          have hmq : cmay q0 at1 = true := (cmay_iff _ _).2 ⟨HN.out.1, by omega, by omega⟩
          have hmn : ∀ qq : List UInt8, qq.length = 16 → cmay qq no1 = true := fun qq h => (cmay_iff _ _).2 ⟨h, by omega, by omega⟩
          have hans : ∀ X, Below W9.heap.size W9 X → Calls Tryd.prog 55 #[kv, .slice a0 16 c0, .int .i64 at1] X fun e w' => ∃ v, e = .returned (.tuple #[v, .int .i64 0]) ∧ Ob w' X.heap.size 5 v (cans dk q0 at1) ∧ Below X.heap.size X w' := fun X hX => chanswer_ok _ _ dk q0 at1 X hmq (HKV9.out.below hX) (H0W.out _ (bel_tr HB9.out hX)) (by omega) (HTW.out.below (bel_tr HB9.out hX))
          have hval : (cans dk q0 at1).length ≤ 1048576 := by
            unfold cans
            rw [fframe_len]
            have h1 := cbody_len dk q0 (cmay_wf hmq)
            have h2 := vput_len10 (cbody dk q0 at1).length (by omega)
            omega
          have htv : tverify l B no1 = (x.at 1, 0) := by
            have h := tver_issue (l := l) hmay (k := kk) hkb no1
            rw [hB] at h
            rw [h, if_neg]
            show ¬ (no1 < x.iss ∨ x.til < no1)
            omega
          have hs1 : IntKind.i64.wrap (at1 - no1) = at1 - no1 := IntWalk.i64_in _ (by omega)
          have hs2 : IntKind.i64.wrap (no1 - at1) = no1 - at1 := IntWalk.i64_in _ (by omega)
          obtain ⟨mx, hmx⟩ : ∃ z, (if at1 - no1 < no1 - at1 then no1 - at1 else at1 - no1) = z := ⟨_, rfl⟩
          have hmxb : 0 ≤ mx ∧ mx ≤ 1099511627776 ∧ at1 - no1 ≤ mx ∧ no1 - at1 ≤ mx ∧ (mx = at1 - no1 ∨ mx = no1 - at1) := by rw [← hmx]; split <;> omega
          have hcc0 : ccheck l B q0 (cans dk q0 at1) no1 m2 = if (m2 : Int) < mx then (tz, 22) else (x.at 1, 0) := by
            have h := ccheck_cans (l := l) (b := B) (q := q0) (q0 := q0) (now := no1) (slack := m2) (at' := at1) (hmn q0 HN.out.1) (by omega) htv hmq
            rw [HCD.out] at h
            rw [h]
            by_cases hc : (m2 : Int) < mx
            · rw [if_pos (by omega), if_pos hc]
            · rw [if_neg (by omega), if_neg hc, if_neg (by simp)]
          have hcc1 : ccheck l B q1 (cans dk q0 at1) no1 mx = if (ctag dk q0 at1 == ctag dk q1 at1) = false then (tz, 21) else (x.at 1, 0) := by
            have h := ccheck_cans (l := l) (b := B) (q := q1) (q0 := q0) (now := no1) (slack := mx) (at' := at1) (hmn q1 HN.out.2) (by omega) htv hmq
            rw [HCD.out] at h
            rw [h, if_neg (by omega)]
          have hck : ∀ (qv : Value) (qq : List UInt8) (slack : Int), W64 slack → (∀ X, Below W.heap.size W X → Bs X qv qq) → ∀ X av, Below W9.heap.size W9 X → Bs X av (cans dk q0 at1) → Calls Tryd.prog 58 #[.agg #[.int .i64 2, .slice xa 1 xc], .slice ba bn bc, qv, av, .int .i64 no1, .int .i64 slack] X (CheckPost l B qq (cans dk q0 at1) no1 slack X) := fun qv qq slack hs hq X av hX hav =>
            chcheck_any 2 _ l _ qv av B qq (cans dk q0 at1) no1 slack X (HKS.out.below (bel_tr HB9.out hX)) (HV9.out.below hX) (hq X (bel_tr HB9.out hX)) hav (by have := HBL.out; omega) hval hsm.out hs (HTW.out.below (bel_tr HB9.out hX))
          have TK0 : Hid (∀ X av, Below W9.heap.size W9 X → Bs X av (cans dk q0 at1) → Calls Tryd.prog 58 #[.agg #[.int .i64 2, .slice xa 1 xc], .slice ba bn bc, .slice a0 16 c0, av, .int .i64 no1, .int .i64 (m2 : Int)] X (CheckPost l B q0 (cans dk q0 at1) no1 m2 X)) := hck _ q0 m2 ⟨by omega, by omega⟩ H0W.out
          have TK1 : Hid (∀ X av, Below W9.heap.size W9 X → Bs X av (cans dk q0 at1) → Calls Tryd.prog 58 #[.agg #[.int .i64 2, .slice xa 1 xc], .slice ba bn bc, .slice a1 16 c1, av, .int .i64 no1, .int .i64 mx] X (CheckPost l B q1 (cans dk q0 at1) no1 mx X)) := hck _ q1 mx ⟨by omega, by omega⟩ H1W.out
          have TCL : Hid (ctag dk q0 at1 = ctag dk q1 at1 → ∀ X, Below W9.heap.size W9 X → Calls Tryd.prog 60 #[kv, .agg #[.slice a0 16 c0, .slice a1 16 c1], .int .i64 at1] X fun e w' => e = .returned (.bool true) ∧ Below X.heap.size X w') := fun he X hX => clash_yes _ _ _ dk q0 q1 at1 X (HKV9.out.below hX) (H0W.out _ (bel_tr HB9.out hX)) (H1W.out _ (bel_tr HB9.out hX)) (by omega) (by have := HN.out; omega) (by have := HN.out; omega) (cmay_wf hmq) he
          clear hmn hval htv hmay hkb hto hB i1 i2 i3 i4
          have HANS := Lib.hid hans
          clear hans
          obtain ⟨f0, f1⟩ := HC2.out _ HB9.out
          go_upto_region 15 with (go_at_call 55; refine (HANS.out _ (Below.refl _ _)).mono ?_; rintro e w11 ⟨v11, rfl, ho11, hb11⟩; have HO11 := Lib.hid ho11; have HB11 := Lib.hid hb11; clear ho11 hb11)
          clear f0 f1 HANS
          obtain ⟨d0, d1⟩ := HC1.out _ (bel_tr HB9.out HB11.out)
          obtain ⟨f0, f1⟩ := HC2.out _ (bel_tr HB9.out HB11.out)
          obtain ⟨mm0, mm1, mm2⟩ := HC3.out _ (bel_tr HB9.out HB11.out)
          by_cases hlt : (m2 : Int) < mx
          · have hck0 := TK0.out _ _ HB11.out HO11.out.bs
            unfold CheckPost at hck0
            rw [hcc0, if_pos hlt] at hck0
            unfold Tok.row tz at hck0
            dsimp only at hck0
            have HCK0 := Lib.hid hck0
            clear hck0 hcc0 TK0
            go_upto_region 17 with (first
              | (go_at_call 58; refine HCK0.out.mono ?_; rintro e w12 ⟨rfl, hb12⟩; have HB12 := Lib.hid hb12; clear hb12)
              | (with_reducible refine wpList_store_new rfl _ _ rfl rfl rfl (by kernel_rfl) (by simp) (by simp [Value.oneCell']) ?_))
            have HNW : Hid ((w12.alloc (.cells #[.int .i64 0, .int .i64 0, .int .i64 0, .int .i64 0, .int .i64 0, .int .i64 0] 57)).heap[w12.heap.size]? = some (.cells #[.int .i64 0, .int .i64 0, .int .i64 0, .int .i64 0, .int .i64 0, .int .i64 0] 57 (0, 0))) := heap_alloc_new _ _
            obtain ⟨W12, p12, HB1112, HR12, HE⟩ : ∃ W p, Hid (Below w11.heap.size w11 W) ∧ Hid (W.heap[p]? = some (.cells #[.int .i64 0, .int .i64 0, .int .i64 0, .int .i64 0, .int .i64 0, .int .i64 0] 57 (0, 0))) ∧ Hid (w12.alloc (.cells #[.int .i64 0, .int .i64 0, .int .i64 0, .int .i64 0, .int .i64 0, .int .i64 0] 57) = W ∧ w12.heap.size = p) := ⟨_, _, bel_al HB12.out _, HNW, rfl, rfl⟩
            rw [HE.out.1, HE.out.2]
            clear HE HNW HB12 d0 d1 f0 f1 mm0 mm1 mm2
            have HB12 := Lib.hid (bel_tr HB11.out HB1112.out)
            obtain ⟨mm0, mm1, mm2⟩ := HC3.out _ (bel_tr HB9.out HB12.out)
            obtain ⟨g0, g1, g2, g3, g4, g5⟩ := HC4.out _ (bel_tr HB9.out HB12.out)
            have t0 : W12.cell? ⟨p12, 0, none⟩ = some _ := cell_of_row W12 _ 0 _ _ _ HR12.out
            go_upto_region 19 with fail
            clear mm0 mm1 mm2 g0 g1 g2 g3 g4 g5 t0 HR12 HCK0
            obtain ⟨d0, d1⟩ := HC1.out _ (bel_tr HB9.out HB12.out)
            obtain ⟨f0, f1⟩ := HC2.out _ (bel_tr HB9.out HB12.out)
            have HV12 := Lib.hid (HO11.out.bs.below HB1112.out)
            obtain ⟨bs, hbs⟩ : ∃ z, (ctag dk q0 at1 == ctag dk q1 at1) = z := ⟨_, rfl⟩
            have hck1 := TK1.out _ _ HB12.out HV12.out
            unfold CheckPost at hck1
            rw [hcc1, hbs] at hck1
            rcases bs with _ | _
            · rw [if_pos rfl] at hck1
              unfold Tok.row tz at hck1
              dsimp only at hck1
              have HCK1 := Lib.hid hck1
              clear hck1 hcc1 hbs TK1 hck hmx hs1 hs2
              go_upto_region 20 with (first
                | (go_at_call 58; refine HCK1.out.mono ?_; rintro e w14 ⟨rfl, hb14⟩; have HB14 := Lib.hid (bel_tr HB12.out hb14); clear hb14)
                | (with_reducible refine wpList_store_new rfl _ _ rfl rfl rfl (by kernel_rfl) (by simp) (by simp [Value.oneCell']) ?_))
              have HB15 := Lib.hid (bel_tr HWW.out (bel_tr HB9.out (bel_al HB14.out (.cells #[.int .i64 0, .int .i64 0, .int .i64 0, .int .i64 0, .int .i64 0, .int .i64 0] 57))))
              go_wp2
              go_ret
              exact ⟨rfl, HB15.out⟩
            · rw [if_neg (by simp)] at hck1
              unfold Tok.row Tok.at at hck1
              dsimp only at hck1
              have HCK1 := Lib.hid hck1
              have heq : ctag dk q0 at1 = ctag dk q1 at1 := by simpa using hbs
              have TCL2 := Lib.hid (TCL.out heq)
              clear hck1 hcc1 hbs heq TK1 hck TCL hmx hs1 hs2
              go_upto_region 20 with (first
                | (go_at_call 58; refine HCK1.out.mono ?_; rintro e w14 ⟨rfl, hb14⟩; have HB14 := Lib.hid (bel_tr HB12.out hb14); clear hb14)
                | (with_reducible refine wpList_store_new rfl _ _ rfl rfl rfl (by kernel_rfl) (by simp) (by simp [Value.oneCell']) ?_))
              have hb15 := bel_al HB14.out (.cells #[.int .i64 x.trip, .int .i64 x.acct, .int .i64 x.stop, .int .i64 x.iss, .int .i64 x.til, .int .i64 1] 57)
              obtain ⟨W15, hW15⟩ : ∃ X, w14.alloc (.cells #[.int .i64 x.trip, .int .i64 x.acct, .int .i64 x.stop, .int .i64 x.iss, .int .i64 x.til, .int .i64 1] 57) = X := ⟨_, rfl⟩
              obtain ⟨p15, hp15⟩ : ∃ X, w14.heap.size = X := ⟨_, rfl⟩
              rw [hW15] at hb15
              rw [hW15, hp15]
              have HB15 := Lib.hid hb15
              clear hb15 hW15 hp15 d0 d1 f0 f1
              obtain ⟨f0, f1⟩ := HC2.out _ (bel_tr HB9.out HB15.out)
              have hsm2 := same_any _ _ q0 q1 W15 (H0W.out _ (bel_tr HB9.out HB15.out)) (H1W.out _ (bel_tr HB9.out HB15.out))
              obtain ⟨bq, hbq⟩ : ∃ z, (q0 == q1) = z := ⟨_, rfl⟩
              rw [hbq] at hsm2
              have HSM2 := Lib.hid hsm2
              clear hsm2 hbq
              rcases bq with _ | _
              · go_upto_region 21 with (go_at_call 17; refine HSM2.out.mono ?_; rintro e w16 ⟨rfl, hb16⟩; have HB16 := Lib.hid (bel_tr HB15.out hb16); clear hb16)
                clear f0 f1
                obtain ⟨f0, f1⟩ := HC2.out _ (bel_tr HB9.out HB16.out)
                go_wp2_with (go_at_call 60; refine (TCL2.out _ HB16.out).mono ?_; rintro e w17 ⟨rfl, hb17⟩; have HB17 := Lib.hid (bel_tr HWW.out (bel_tr HB9.out (bel_tr HB16.out hb17))); clear hb17)
                go_ret
                exact ⟨rfl, HB17.out⟩
              · go_wp2_with (go_at_call 17; refine HSM2.out.mono ?_; rintro e w16 ⟨rfl, hb16⟩; have HB16 := Lib.hid (bel_tr HWW.out (bel_tr HB9.out (bel_tr HB15.out hb16))); clear hb16)
                go_ret
                exact ⟨rfl, HB16.out⟩
          · have hck0 := TK0.out _ _ HB11.out HO11.out.bs
            unfold CheckPost at hck0
            rw [hcc0, if_neg hlt] at hck0
            unfold Tok.row Tok.at at hck0
            dsimp only at hck0
            have HCK0 := Lib.hid hck0
            clear hck0 hcc0 TK0
            go_upto_region 17 with (first
              | (go_at_call 58; refine HCK0.out.mono ?_; rintro e w12 ⟨rfl, hb12⟩; have HB12 := Lib.hid hb12; clear hb12)
              | (with_reducible refine wpList_store_new rfl _ _ rfl rfl rfl (by kernel_rfl) (by simp) (by simp [Value.oneCell']) ?_))
            have HNW : Hid ((w12.alloc (.cells #[.int .i64 x.trip, .int .i64 x.acct, .int .i64 x.stop, .int .i64 x.iss, .int .i64 x.til, .int .i64 1] 57)).heap[w12.heap.size]? = some (.cells #[.int .i64 x.trip, .int .i64 x.acct, .int .i64 x.stop, .int .i64 x.iss, .int .i64 x.til, .int .i64 1] 57 (0, 0))) := heap_alloc_new _ _
            obtain ⟨W12, p12, HB1112, HR12, HE⟩ : ∃ W p, Hid (Below w11.heap.size w11 W) ∧ Hid (W.heap[p]? = some (.cells #[.int .i64 x.trip, .int .i64 x.acct, .int .i64 x.stop, .int .i64 x.iss, .int .i64 x.til, .int .i64 1] 57 (0, 0))) ∧ Hid (w12.alloc (.cells #[.int .i64 x.trip, .int .i64 x.acct, .int .i64 x.stop, .int .i64 x.iss, .int .i64 x.til, .int .i64 1] 57) = W ∧ w12.heap.size = p) := ⟨_, _, bel_al HB12.out _, HNW, rfl, rfl⟩
            rw [HE.out.1, HE.out.2]
            clear HE HNW HB12 d0 d1 f0 f1 mm0 mm1 mm2
            have HB12 := Lib.hid (bel_tr HB11.out HB1112.out)
            obtain ⟨mm0, mm1, mm2⟩ := HC3.out _ (bel_tr HB9.out HB12.out)
            obtain ⟨g0, g1, g2, g3, g4, g5⟩ := HC4.out _ (bel_tr HB9.out HB12.out)
            have t0 : W12.cell? ⟨p12, 0, none⟩ = some _ := cell_of_row W12 _ 0 _ _ _ HR12.out
            go_upto_region 19 with fail
            clear mm0 mm1 mm2 g0 g1 g2 g3 g4 g5 t0 HR12 HCK0
            obtain ⟨d0, d1⟩ := HC1.out _ (bel_tr HB9.out HB12.out)
            obtain ⟨f0, f1⟩ := HC2.out _ (bel_tr HB9.out HB12.out)
            have HV12 := Lib.hid (HO11.out.bs.below HB1112.out)
            obtain ⟨bs, hbs⟩ : ∃ z, (ctag dk q0 at1 == ctag dk q1 at1) = z := ⟨_, rfl⟩
            have hck1 := TK1.out _ _ HB12.out HV12.out
            unfold CheckPost at hck1
            rw [hcc1, hbs] at hck1
            rcases bs with _ | _
            · rw [if_pos rfl] at hck1
              unfold Tok.row tz at hck1
              dsimp only at hck1
              have HCK1 := Lib.hid hck1
              clear hck1 hcc1 hbs TK1 hck hmx hs1 hs2
              go_upto_region 20 with (first
                | (go_at_call 58; refine HCK1.out.mono ?_; rintro e w14 ⟨rfl, hb14⟩; have HB14 := Lib.hid (bel_tr HB12.out hb14); clear hb14)
                | (with_reducible refine wpList_store_new rfl _ _ rfl rfl rfl (by kernel_rfl) (by simp) (by simp [Value.oneCell']) ?_))
              have HB15 := Lib.hid (bel_tr HWW.out (bel_tr HB9.out (bel_al HB14.out (.cells #[.int .i64 0, .int .i64 0, .int .i64 0, .int .i64 0, .int .i64 0, .int .i64 0] 57))))
              go_wp2
              go_ret
              exact ⟨rfl, HB15.out⟩
            · rw [if_neg (by simp)] at hck1
              unfold Tok.row Tok.at at hck1
              dsimp only at hck1
              have HCK1 := Lib.hid hck1
              have heq : ctag dk q0 at1 = ctag dk q1 at1 := by simpa using hbs
              have TCL2 := Lib.hid (TCL.out heq)
              clear hck1 hcc1 hbs heq TK1 hck TCL hmx hs1 hs2
              go_upto_region 20 with (first
                | (go_at_call 58; refine HCK1.out.mono ?_; rintro e w14 ⟨rfl, hb14⟩; have HB14 := Lib.hid (bel_tr HB12.out hb14); clear hb14)
                | (with_reducible refine wpList_store_new rfl _ _ rfl rfl rfl (by kernel_rfl) (by simp) (by simp [Value.oneCell']) ?_))
              have hb15 := bel_al HB14.out (.cells #[.int .i64 x.trip, .int .i64 x.acct, .int .i64 x.stop, .int .i64 x.iss, .int .i64 x.til, .int .i64 1] 57)
              obtain ⟨W15, hW15⟩ : ∃ X, w14.alloc (.cells #[.int .i64 x.trip, .int .i64 x.acct, .int .i64 x.stop, .int .i64 x.iss, .int .i64 x.til, .int .i64 1] 57) = X := ⟨_, rfl⟩
              obtain ⟨p15, hp15⟩ : ∃ X, w14.heap.size = X := ⟨_, rfl⟩
              rw [hW15] at hb15
              rw [hW15, hp15]
              have HB15 := Lib.hid hb15
              clear hb15 hW15 hp15 d0 d1 f0 f1
              obtain ⟨f0, f1⟩ := HC2.out _ (bel_tr HB9.out HB15.out)
              have hsm2 := same_any _ _ q0 q1 W15 (H0W.out _ (bel_tr HB9.out HB15.out)) (H1W.out _ (bel_tr HB9.out HB15.out))
              obtain ⟨bq, hbq⟩ : ∃ z, (q0 == q1) = z := ⟨_, rfl⟩
              rw [hbq] at hsm2
              have HSM2 := Lib.hid hsm2
              clear hsm2 hbq
              rcases bq with _ | _
              · go_upto_region 21 with (go_at_call 17; refine HSM2.out.mono ?_; rintro e w16 ⟨rfl, hb16⟩; have HB16 := Lib.hid (bel_tr HB15.out hb16); clear hb16)
                clear f0 f1
                obtain ⟨f0, f1⟩ := HC2.out _ (bel_tr HB9.out HB16.out)
                go_wp2_with (go_at_call 60; refine (TCL2.out _ HB16.out).mono ?_; rintro e w17 ⟨rfl, hb17⟩; have HB17 := Lib.hid (bel_tr HWW.out (bel_tr HB9.out (bel_tr HB16.out hb17))); clear hb17)
                go_ret
                exact ⟨rfl, HB17.out⟩
              · go_wp2_with (go_at_call 17; refine HSM2.out.mono ?_; rintro e w16 ⟨rfl, hb16⟩; have HB16 := Lib.hid (bel_tr HWW.out (bel_tr HB9.out (bel_tr HB15.out hb16))); clear hb16)
                go_ret
                exact ⟨rfl, HB16.out⟩
        · have hti : tissue 2 l x = ([], 2) := by
            unfold tissue
            rw [if_neg]
            rintro ⟨h1, h2⟩
            rw [hep] at h2
            exact hmay h2
          rw [hti] at hiss
          simp only at hiss
          have HISS := Lib.hid hiss
          clear hiss hmay hti
          go_wp2_with (go_at_call 41; refine HISS.out.mono ?_; rintro e w6 ⟨v6, rfl, hbs6, hb6⟩; obtain ⟨ba, bc, hsh⟩ := hbs6.shape; rw [List.length_nil] at hsh; subst hsh; have HB6 := Lib.hid (bel_tr HWW.out hb6); clear hbs6 hb6)
          go_ret
          exact ⟨rfl, HB6.out⟩
    · have e1 : ((n1 : Int) != 16) = true := by simp; omega
      go_wp2
      go_ret
      exact ⟨rfl, bel_tr HB1.out HB2.out⟩
  · have e1 : ((n0 : Int) != 16) = true := by simp; omega
    go_wp2
    go_ret
    exact ⟨rfl, bel_tr HB1.out HB2.out⟩

end Go.Proofs.YtmhgdddnjnichaaDoor
