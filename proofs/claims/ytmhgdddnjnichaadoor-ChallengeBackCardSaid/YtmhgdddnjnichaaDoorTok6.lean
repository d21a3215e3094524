/- Layer 10 (token): what is issued opens and verifies; the chapter's example. -/
import Derived.Test.YtmhgdddnjnichaaDoorTok5
import Derived.Test.YtmhgdddnjnichaaDoorRingR
set_option linter.unusedSimpArgs false
namespace Go.Proofs.YtmhgdddnjnichaaDoor
open Go.RowKit Go.Sort

theorem topen_issue {t : Tok} (ht : tmay t = true) (k : List UInt8) : topen (fframe 2 (tbody k t)) = (t, ttag k t, 0) := by
  have hwf := tmay_wf ht
  have hbl := tbody_len hwf k
  obtain ⟨⟨h1, z1⟩, ⟨h2, z2⟩, ⟨h3, z3⟩, ⟨h4, z4⟩, ⟨h5, z5⟩, ⟨h6, z6⟩⟩ := (tmay_iff t).1 ht
  have htl := ttag_len k t
  obtain ⟨tg, htg⟩ : ∃ x, ttag k t = x := ⟨_, rfl⟩
  have hc : (tbody k t).drop 0 = vput t.trip.toNat ++ (vput t.acct.toNat ++ (vput t.stop.toNat ++ (vput t.iss.toNat ++ (vput t.til.toNat ++ (vput t.ep.toNat ++ (vput 32 ++ (tg ++ []))))))) := by
    unfold tbody tfields fnum
    rw [htg]
    simp
  obtain ⟨L, hL⟩ : ∃ L, tbody k t = L := ⟨_, rfl⟩
  have hlen : L.length = (vput t.trip.toNat).length + (vput t.acct.toNat).length + (vput t.stop.toNat).length + (vput t.iss.toNat).length + (vput t.til.toNat).length + (vput t.ep.toNat).length + (vput 32).length + tg.length := by
    rw [← hL]
    unfold tbody tfields fnum
    rw [htg]
    simp only [List.length_append]
    omega
  rw [htg] at htl
  rw [hL] at hc hbl ⊢
  rw [htg]
  have e1 := rnum_vput (most := 2147483648) hc (by omega) (by omega)
  have d1 := drop_more hc
  have e2 := rnum_vput (most := 2147483648) d1 (by omega) (by omega)
  have d2 := drop_more d1
  have e3 := rnum_vput (most := 4095) d2 (by omega) (by omega)
  have d3 := drop_more d2
  have e4 := rnum_vput (most := 1099511627776) d3 (by omega) (by omega)
  have d4 := drop_more d3
  have e5 := rnum_vput (most := 1099511627776) d4 (by omega) (by omega)
  have d5 := drop_more d4
  have e6 := rnum_vput (most := 1048576) d5 (by omega) (by omega)
  have d6 := drop_more d5
  have e7 := rnum_vput (most := 32) d6 (by omega) (by omega)
  have d7 := drop_more d6
  have hb : rbytes 32 L (0 + (vput t.trip.toNat).length + (vput t.acct.toNat).length + (vput t.stop.toNat).length + (vput t.iss.toNat).length + (vput t.til.toNat).length + (vput t.ep.toNat).length) 0 = (tg, L.length, 0) := by
    unfold rbytes
    rw [e7]
    simp only [ne_eq, not_true_eq_false, if_false]
    rw [if_neg (by omega), d7]
    rw [List.take_append_of_le_length (by omega), List.take_of_length_le (by omega)]
    simp only [Prod.mk.injEq, true_and, and_true]
    omega
  have hf := fwhole_frame 2 L (by omega)
  have hnum : (⟨(t.trip.toNat : Int), (t.acct.toNat : Int), (t.stop.toNat : Int), (t.iss.toNat : Int), (t.til.toNat : Int), (t.ep.toNat : Int)⟩ : Tok) = t := by
    obtain ⟨a, b, c, d, e, f⟩ := t
    simp only at h1 h2 h3 h4 h5 h6
    simp only [Tok.mk.injEq]
    omega
  rw [topen_r hf e1 e2 e3 e4 e5 e6 hb, hnum, if_neg (by unfold rdone; simp), if_pos ⟨ht, htl⟩]

theorem tver_issue {l : List RK} {t : Tok} (ht : tmay t = true) {k : List UInt8} (hk : kf t.ep l = some k) (now : Int) :
    tverify l (fframe 2 (tbody k t)) now = if now < t.iss ∨ t.til < now then (tz, 22) else (t, 0) := by
  rw [tver_some (topen_issue ht k) hk, if_neg (by simp)]
theorem tver_nokey {l : List RK} {t : Tok} (ht : tmay t = true) {k : List UInt8} (hk : kf t.ep l = none) (now : Int) :
    tverify l (fframe 2 (tbody k t)) now = (tz, 20) := tver_key (topen_issue ht k) hk

theorem issue_ex (k : List UInt8) : (fframe 2 (tbody k ⟨1, 2, 3, 4, 5, 1⟩)).length = 46 := by
  have h1 : vput 1 = [1] := by rw [vput_small (by omega)]; rfl
  have h2 : vput 2 = [2] := by rw [vput_small (by omega)]; rfl
  have h3 : vput 3 = [3] := by rw [vput_small (by omega)]; rfl
  have h4 : vput 4 = [4] := by rw [vput_small (by omega)]; rfl
  have h5 : vput 5 = [5] := by rw [vput_small (by omega)]; rfl
  have h32 : vput 32 = [32] := by rw [vput_small (by omega)]; rfl
  have hl : (tbody k ⟨1, 2, 3, 4, 5, 1⟩).length = 39 := by
    unfold tbody tfields fnum
    simp only [List.length_append, ttag_len]
    rw [show (1 : Int).toNat = 1 from rfl, show (2 : Int).toNat = 2 from rfl, show (3 : Int).toNat = 3 from rfl, show (4 : Int).toNat = 4 from rfl, show (5 : Int).toNat = 5 from rfl, h1, h2, h3, h4, h5, h32]
    rfl
  rw [fframe_len, hl, vput_small (by omega)]
  rfl

set_option maxRecDepth 100000 in
set_option maxHeartbeats 3200000 in
theorem awake10_any (w : World) (hT : Tabbed w) : Calls Tryd.prog 39 #[] w fun e w' => e = .returned (.bool true) ∧ Below w.heap.size w w' := by
  have HT := Lib.hid hT
  clear hT
  go_enter Tryd.func39, Tryd.ntmps39
  go_upto_region 2 with (first
    | (with_reducible refine wpList_make_bytes w elB 32 (by decide) (by decide) rfl _ _ rfl _ _ rfl rfl ?_; intro v1 w1 ho1 hb1; have HO1 := Lib.hid ho1; have HB1 := Lib.hid hb1; clear ho1 hb1)
    | (go_at_call 31; refine (new_ok 1 v1 (List.replicate 32 0) w1 HO1.out.bs (by decide) (by decide) rfl (HT.out.below HB1.out)).mono ?_; rintro e w2 ⟨v2, a2, c2, rfl, hk2, hb2, hof2⟩; obtain ⟨xa, xc, hv2⟩ := hk2.g.shape; rw [show (List.length [(⟨1, a2, c2, rkey (List.replicate 32 0) 1⟩ : RK)]) = 1 from rfl] at hv2; subst hv2; have HK2 := Lib.hid hk2; have HB2 := Lib.hid (bel_tr HB1.out hb2); clear hk2 hb2 hof2)
    | (with_reducible refine wpList_store_new rfl _ _ rfl rfl rfl (by kernel_rfl) (by simp) (by simp [Value.oneCell']) ?_))
  have hnb := (Below.refl w2.heap.size w2).alloc (Nat.le_refl _) (.cells #[.int .i64 1, .slice xa 1 xc] 39)
  have hrow : (w2.alloc (.cells #[.int .i64 1, .slice xa 1 xc] 39)).heap[w2.heap.size]? = some (.cells #[.int .i64 1, .slice xa 1 xc] 39 (0, 0)) := heap_alloc_new _ _
  obtain ⟨W, hW⟩ : ∃ X, w2.alloc (.cells #[.int .i64 1, .slice xa 1 xc] 39) = X := ⟨_, rfl⟩
  obtain ⟨g, hg⟩ : ∃ g, w2.heap.size = g := ⟨_, rfl⟩
  rw [hW] at hnb
  rw [hW, hg] at hrow ⊢
  have HKW := Lib.hid (HK2.out.below hnb)
  have HBW := Lib.hid (bel_tr HB2.out hnb)
  have HRW := Lib.hid hrow
  obtain ⟨kk, hkk⟩ : ∃ x, rkey (List.replicate 32 0) 1 = x := ⟨_, rfl⟩
  have hkl : kk.length = 32 := by rw [← hkk]; exact rkey_len _ _
  rw [hkk] at HKW
  have hrp : RP 1 [(⟨1, a2, c2, kk⟩ : RK)] := rp_one (by decide) (by decide) _ _ _ hkl
  have hsm : Hid (∀ k ∈ [(⟨1, a2, c2, kk⟩ : RK)], k.b.length ≤ 1000000) := fun k hk => by simp at hk; subst hk; show kk.length ≤ _; omega
  have hkf : kf 1 [(⟨1, a2, c2, kk⟩ : RK)] = some kk := by simp [kf]
  have hti : tissue 1 [(⟨1, a2, c2, kk⟩ : RK)] ⟨1, 2, 3, 4, 5, 0⟩ = (fframe 2 (tbody kk ⟨1, 2, 3, 4, 5, 1⟩), 0) := by
    unfold tissue
    rw [if_pos ⟨kok_yes hrp, by show tmay ⟨1, 2, 3, 4, 5, 1⟩ = true; decide⟩]
    show (fframe 2 (tbody ((kf 1 [(⟨1, a2, c2, kk⟩ : RK)]).getD []) _), 0) = _
    rw [hkf]
    rfl
  have htv : tverify [(⟨1, a2, c2, kk⟩ : RK)] (fframe 2 (tbody kk ⟨1, 2, 3, 4, 5, 1⟩)) 4 = (⟨1, 2, 3, 4, 5, 1⟩, 0) := by
    rw [tver_issue (by decide) hkf, if_neg (by simp)]
  have TI : Hid (∀ X, Below W.heap.size W X → Calls Tryd.prog 41 #[.agg #[.int .i64 1, .slice xa 1 xc], .agg #[.int .i64 1, .int .i64 2, .int .i64 3, .int .i64 4, .int .i64 5, .int .i64 0]] X fun e w' => ∃ a c, e = .returned (.tuple #[.slice a 46 c, .int .i64 0]) ∧ Hid (Bs w' (.slice a 46 c) (fframe 2 (tbody kk ⟨1, 2, 3, 4, 5, 1⟩))) ∧ Hid (Below X.heap.size X w')) := by
    intro X hX
    have := issue_any 1 (.slice xa 1 xc) _ ⟨1, 2, 3, 4, 5, 0⟩ X (HKW.out.below hX) (by decide) (by unfold Tok.Wf W64; decide) hsm.out (HT.out.below (bel_tr HBW.out hX))
    refine this.mono ?_
    rintro e w' ⟨v, he, hv, hb⟩
    rw [hti] at he hv
    obtain ⟨a, c, rfl⟩ := hv.shape
    rw [issue_ex] at he hv
    exact ⟨a, c, he, hv, hb⟩
  have TV : Hid (∀ X y, Below W.heap.size W X → Bs X y (fframe 2 (tbody kk ⟨1, 2, 3, 4, 5, 1⟩)) → Calls Tryd.prog 49 #[.agg #[.int .i64 1, .slice xa 1 xc], y, .int .i64 4] X fun e w' => e = .returned (.tuple #[.agg #[.int .i64 1, .int .i64 2, .int .i64 3, .int .i64 4, .int .i64 5, .int .i64 1], .int .i64 0]) ∧ Below X.heap.size X w') := by
    intro X y hX hy
    have := verify_any 1 (.slice xa 1 xc) _ y _ 4 X (HKW.out.below hX) hy (by rw [issue_ex]; omega) hsm.out (HT.out.below (bel_tr HBW.out hX))
    unfold VerPost at this
    rw [htv] at this
    exact this
  clear hnb hrow hW hg hkk hkl hrp hkf hti htv HK2 HB2 HO1 HB1
  have HC : Hid (∀ X, Below W.heap.size W X → X.cell? ⟨g, 0, none⟩ = some (.int .i64 1) ∧ X.cell? ⟨g, 1, none⟩ = some (.slice xa 1 xc)) := fun X hX =>
    have h1 := (hX.block g (heap_lt HRW.out)).trans HRW.out
    ⟨cell_of_row X _ _ _ _ _ h1, cell_of_row X _ _ _ _ _ h1⟩
  obtain ⟨c0, c1⟩ := HC.out _ (Below.refl _ _)
  go_upto_region 3 with (go_at_call 41; refine (TI.out _ (Below.refl _ _)).mono ?_; rintro e w3 ⟨ia, ic, rfl, HI3, HB3⟩)
  clear c0 c1
  obtain ⟨c0, c1⟩ := HC.out _ HB3.out
  go_upto_region 4 with (first
    | (go_at_call 49; refine (TV.out _ _ HB3.out HI3.out).mono ?_; rintro e w4 ⟨rfl, hb4⟩; have HB4 := Lib.hid (bel_tr HB3.out hb4); clear hb4)
    | (with_reducible refine wpList_store_new rfl _ _ rfl rfl rfl (by kernel_rfl) (by simp) (by simp [Value.oneCell']) ?_))
  have HB5 := Lib.hid (bel_tr HBW.out (bel_al HB4.out (.cells #[.int .i64 1, .int .i64 2, .int .i64 3, .int .i64 4, .int .i64 5, .int .i64 1] 57)))
  go_wp2
  go_ret
  exact ⟨rfl, HB5.out⟩

end Go.Proofs.YtmhgdddnjnichaaDoor
