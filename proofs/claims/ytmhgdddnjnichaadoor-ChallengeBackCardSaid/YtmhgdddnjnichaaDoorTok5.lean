/- Layer 10 (token): Verify, plain and its walks. -/
import Derived.Test.YtmhgdddnjnichaaDoorTok4
import Derived.Test.YtmhgdddnjnichaaDoorTok2
import Derived.Test.YtmhgdddnjnichaaDoorRingS
import Derived.Test.YtmhgdddnjnichaaDoorShaQ
import Derived.Deep.RegionHeld3
import Derived.Deep.CutBlock
import Derived.Deep.DeepCutAuto
set_option linter.unusedSimpArgs false
namespace Go.Proofs.YtmhgdddnjnichaaDoor
open Go.RowKit Go.Sort

def tverify (l : List RK) (b : List UInt8) (now : Int) : Tok × Nat :=
  match topen b with
  | (t, tag, e) => if e ≠ 0 then (tz, e) else
    match kf t.ep l with
    | none => (tz, 20)
    | some k => if (tag == ttag k t) = false then (tz, 21) else if now < t.iss ∨ t.til < now then (tz, 22) else (t, 0)
section
variable {l : List RK} {b tag k : List UInt8} {now : Int} {t : Tok} {e : Nat}
theorem tver_e (h : topen b = (t, tag, e)) (he : e ≠ 0) : tverify l b now = (tz, e) := by
  unfold tverify; rw [h]; dsimp only; rw [if_pos he]
theorem tver_key (h : topen b = (t, tag, 0)) (hk : kf t.ep l = none) : tverify l b now = (tz, 20) := by
  unfold tverify; rw [h]; dsimp only; rw [if_neg (by omega), hk]
theorem tver_some (h : topen b = (t, tag, 0)) (hk : kf t.ep l = some k) : tverify l b now = if (tag == ttag k t) = false then (tz, 21) else if now < t.iss ∨ t.til < now then (tz, 22) else (t, 0) := by
  unfold tverify; rw [h]; dsimp only; rw [if_neg (by omega), hk]
theorem topen_ok (h : topen b = (t, tag, 0)) : tmay t = true ∧ tag.length = 32 := by
  obtain ⟨c, f, h0⟩ : ∃ c f, fwhole 2 b = (c, f) := ⟨_, _, rfl⟩
  by_cases hf : f = 0
  · subst hf
    obtain ⟨n1, p1, b1, hv1⟩ : ∃ n p b, rnum 2147483648 c 0 0 = (n, p, b) := ⟨_, _, _, rfl⟩
    obtain ⟨n2, p2, b2, hv2⟩ : ∃ n p b, rnum 2147483648 c p1 b1 = (n, p, b) := ⟨_, _, _, rfl⟩
    obtain ⟨n3, p3, b3, hv3⟩ : ∃ n p b, rnum 4095 c p2 b2 = (n, p, b) := ⟨_, _, _, rfl⟩
    obtain ⟨n4, p4, b4, hv4⟩ : ∃ n p b, rnum 1099511627776 c p3 b3 = (n, p, b) := ⟨_, _, _, rfl⟩
    obtain ⟨n5, p5, b5, hv5⟩ : ∃ n p b, rnum 1099511627776 c p4 b4 = (n, p, b) := ⟨_, _, _, rfl⟩
    obtain ⟨n6, p6, b6, hv6⟩ : ∃ n p b, rnum 1048576 c p5 b5 = (n, p, b) := ⟨_, _, _, rfl⟩
    obtain ⟨tg, p7, b7, hv7⟩ : ∃ n p b, rbytes 32 c p6 b6 = (n, p, b) := ⟨_, _, _, rfl⟩
    rw [topen_r h0 hv1 hv2 hv3 hv4 hv5 hv6 hv7] at h
    split at h
    · simp only [Prod.mk.injEq] at h; omega
    · split at h
      · rename_i hh; simp only [Prod.mk.injEq] at h; obtain ⟨rfl, rfl, _⟩ := h; exact hh
      · simp only [Prod.mk.injEq] at h; omega
  · rw [topen_f h0 hf] at h
    simp only [Prod.mk.injEq] at h; omega
theorem tmay_wf (h : tmay t = true) : t.Wf := by
  have := (tmay_iff t).1 h
  unfold Tok.Wf W64
  omega
theorem topen_wf (h : topen b = (t, tag, 0)) : t.Wf := tmay_wf (topen_ok h).1
end
def VerPost (l : List RK) (b : List UInt8) (now : Int) (w : World) (e : Ending) (w' : World) : Prop :=
  e = .returned (.tuple #[.agg (tverify l b now).1.row, .int .i64 ((tverify l b now).2 : Nat)]) ∧ Below w.heap.size w w'
theorem ver_end {w W : World} {l : List RK} {b : List UInt8} {now : Int} {t t0 : Tok} {e q : Nat} (hq : w.heap.size ≤ q) (ht : tverify l b now = (t, e)) (hb : Below w.heap.size w W) (hg : TAt W q t0) :
    VerPost l b now w (.returned (.tuple #[.agg t.row, .int .i64 (e : Int)])) (W.setRow q t.row) ∧ TAt (W.setRow q t.row) q t := by
  have h1 : Only (fun i => i = q) W (W.setRow q t.row) := setRow_only _ _ _
  refine ⟨⟨by rw [ht], hb.trans (h1.below (fun k hk => by omega) hb.size)⟩, ⟨setRow_heap W q _ t.row _ _ hg.row⟩⟩

set_option maxHeartbeats 800000 in
theorem few10_any (keep : Int) (v : Value) (l : List RK) (w : World) (h : Ks w v l) :
    Calls Tryd.prog 40 #[.agg #[.int .i64 keep, v]] w fun e w' => e = .returned (.bool (rfew l)) ∧ Below w.heap.size w w' := by
  obtain ⟨n, hn⟩ : ∃ n, l.length = n := ⟨_, rfl⟩
  obtain ⟨a, c, b, o, rfl, h2, h3, hi, hc⟩ := h.open_ n hn
  have HB := Lib.hid (bel_al (Below.refl w.heap.size w) (Obj.cells #[.int .i64 keep, .slice a n c] 39))
  have HROW : Hid ((w.alloc (Obj.cells #[.int .i64 keep, .slice a n c] 39)).heap[w.heap.size]? = some (.cells #[.int .i64 keep, .slice a n c] 39 (0, 0))) := heap_alloc_new _ _
  have HI := Lib.hid hi
  have HC := Lib.hid hc
  have HN := Lib.hid hn
  clear h hi hc hn
  go_enter Tryd.func40, Tryd.ntmps40
  go_wp2_with fail
  obtain ⟨W0, hW0⟩ : ∃ W, w.alloc (Obj.cells #[.int .i64 keep, .slice a n c] 39) = W := ⟨_, rfl⟩
  rw [hW0] at HB HROW ⊢
  clear hW0
  go_loopw [8] (fun vi wr => ∃ i : Nat, i ≤ n ∧ vi = .int .i64 i ∧ Hid (∀ (j : Nat) (k : RK), j < i → l[j]? = some k → k.b.length ≤ 100) ∧ Hid (Below W0.heap.size W0 wr)) (fun vi _ => n - (intOf vi).toNat)
  case atStart => exact ⟨0, by omega, rfl, Lib.hid (fun j k hj => by omega), Lib.hid (Below.refl _ _)⟩
  case round =>
    obtain ⟨i, hin, rfl, hall, hb0⟩ := hrel
    have hb : Hid (Below w.heap.size w wr) := bel_tr HB.out hb0.out
    have hrow : wr.heap[w.heap.size]? = some (.cells #[.int .i64 keep, .slice a n c] 39 (0, 0)) := (hb0.out.block _ (heap_lt HROW.out)).trans HROW.out
    have ca : wr.cell? ⟨w.heap.size, 1, none⟩ = some (.slice a n c) := cell_of_row wr _ _ _ _ _ hrow
    clear hrow
    by_cases hlt : i < n
    · have e1 : (i : Int) < n := by omega
      obtain ⟨k, hk⟩ : ∃ k, l[i]? = some k := ⟨_, List.getElem?_eq_getElem (by rw [HN.out]; exact hlt)⟩
      obtain ⟨c0, c1⟩ := HC.out _ hb.out i k hk
      have x0 := fun W => HI.out W i hlt
      obtain ⟨ep, hep⟩ : ∃ ep, k.ep = ep := ⟨_, rfl⟩
      obtain ⟨m, hm⟩ : ∃ m, k.b.length = m := ⟨_, rfl⟩
      obtain ⟨ka, hka⟩ : ∃ a, k.a = a := ⟨_, rfl⟩
      obtain ⟨kc, hkc⟩ : ∃ c, k.c = c := ⟨_, rfl⟩
      unfold RK.v at c1
      rw [hka, hkc, hm] at c1
      rw [hep] at c0
      have HK := Lib.hid hk
      have HM := Lib.hid hm
      clear hk hep hm hka hkc
      by_cases hm100 : m ≤ 100
      · have g1 : (m : Int) ≤ 100 := by omega
        go_wp2_with (with_reducible refine wpList_store_new rfl _ _ rfl rfl rfl (by kernel_rfl) (by simp) (by simp [Value.oneCell']) ?_)
        go_roundw
        case rel =>
          refine ⟨i + 1, by omega, by go_num, Lib.hid ?_, Lib.hid (hb0.out.alloc hb0.out.size _)⟩
          intro j k' hj hk'
          by_cases e : j = i
          · subst e
            rw [HK.out] at hk'
            obtain rfl := Option.some.inj hk'
            rw [HM.out]; exact hm100
          · exact hall.out j k' (by omega) hk'
        case measure => simp [intOf]; omega
      · have g1 : (100 : Int) < m := by omega
        have HNO : Hid (rfew l = false) := rfew_no fun hp => by have := hp.2 i k HK.out; rw [HM.out] at this; omega
        go_wp2_with (with_reducible refine wpList_store_new rfl _ _ rfl rfl rfl (by kernel_rfl) (by simp) (by simp [Value.oneCell']) ?_)
        go_ret
        exact ⟨ret_bool HNO.out.symm, hb.out.alloc hb.out.size _⟩
    · have e1 : ¬ (i : Int) < n := by omega
      obtain rfl : i = n := by omega
      have hall2 : ∀ (j : Nat) (k : RK), l[j]? = some k → k.b.length ≤ 100 := fun j k hk => hall.out j k (by rw [← HN.out]; exact (List.getElem?_eq_some_iff.1 hk).1) hk
      by_cases h30 : i ≤ 30
      · have g2 : (i : Int) ≤ 30 := by omega
        have HYES : Hid (rfew l = true) := rfew_yes ⟨by rw [HN.out]; exact h30, hall2⟩
        clear hall2
        go_wp2
        go_ret
        exact ⟨ret_bool (by rw [HYES.out]), hb.out⟩
      · have g2 : (30 : Int) < i := by omega
        have HNO : Hid (rfew l = false) := rfew_no fun hp => by have := hp.1; rw [HN.out] at this; omega
        clear hall2
        go_wp2
        go_ret
        exact ⟨ret_bool (by rw [HNO.out]; first | (simp; done) | (simp; omega)), hb.out⟩


set_option maxRecDepth 100000 in
set_option maxHeartbeats 6400000 in
theorem verify_any (keep : Int) (v : Value) (l : List RK) (y : Value) (b : List UInt8) (now : Int) (w : World) (h : Ks w v l) (hy : Bs w y b) (hl : b.length ≤ 1048576) (hsm : ∀ k ∈ l, k.b.length ≤ 1000000) (hT : Tabbed w) :
    Calls Tryd.prog 49 #[.agg #[.int .i64 keep, v], y, .int .i64 now] w (VerPost l b now w) := by
  obtain ⟨va, vc, hvs⟩ := h.g.shape
  subst hvs
  obtain ⟨n, hn⟩ : ∃ n, l.length = n := ⟨_, rfl⟩
  rw [hn] at h ⊢
  obtain ⟨ya, yc, hs⟩ := hy.shape
  subst hs
  have H := Lib.hid h
  have HS := Lib.hid hsm
  have HT := Lib.hid hT
  obtain ⟨w1, hw1⟩ : ∃ W, (w.alloc (.cells #[.int .i64 keep, .slice va n vc] 39)).alloc (.cells #[.int .i64 0, .int .i64 0, .int .i64 0, .int .i64 0, .int .i64 0, .int .i64 0] 57) = W := ⟨_, rfl⟩
  have hb1 : Below w.heap.size w w1 := by rw [← hw1]; exact bel_al (bel_al (Below.refl _ _) _) _
  have hr1 : w1.heap[w.heap.size]? = some (.cells #[.int .i64 keep, .slice va n vc] 39 (0, 0)) := by rw [← hw1, alloc_get, if_neg (by simp), alloc_get, if_pos rfl]
  have hk1 : TAt w1 (w.heap.size + 1) tz := ⟨by rw [← hw1, alloc_get, if_pos (by simp)]; rfl⟩
  obtain ⟨q, hq⟩ : ∃ q, w.heap.size + 1 = q := ⟨_, rfl⟩
  obtain ⟨g, hg⟩ : ∃ g, w.heap.size = g := ⟨_, rfl⟩
  have HQ : Hid (g < q ∧ w.heap.size ≤ q) := by constructor <;> omega
  have HQ2 : Hid (w.heap.size = g) := hg
  have HQ3 := Lib.hid hq
  rw [hq] at hk1
  rw [hg] at hr1
  obtain ⟨t, tag, er, hto⟩ : ∃ t tag er, topen b = (t, tag, er) := ⟨_, _, _, rfl⟩
  have hop := open_any (.slice ya b.length yc) b w1 (hy.below hb1) hl
  unfold OpenPost at hop
  rw [hto] at hop
  simp only at hop
  unfold Tok.row at hop
  have HOP := Lib.hid hop
  have HTO := Lib.hid hto
  have HB1 := Lib.hid hb1
  have HR1 := Lib.hid hr1
  have HK1 := Lib.hid hk1
  have HWW := Lib.hid hw1
  clear h hsm hT hy hb1 hr1 hk1 hw1 hn hq hg hto hop
  go_enter Tryd.func49, Tryd.ntmps49
  go_upto_region 1 with fail
  rw [HWW.out, HQ3.out, HQ2.out]
  go_upto_region 2 with (first
    | (go_at_call 47; refine HOP.out.mono ?_; rintro e w2 ⟨tv, rfl, htv, hb2⟩; obtain ⟨ta, tc, hts⟩ := htv.shape; subst hts; have HTV := Lib.hid htv; have HB2 := Lib.hid (bel_tr HB1.out hb2); have HR2 := Lib.hid ((hb2.block _ (heap_lt HR1.out)).trans HR1.out); have HK2 := Lib.hid (HK1.out.below hb2); clear htv hb2)
    | (with_reducible refine wpList_store_new rfl _ _ rfl rfl rfl (by kernel_rfl) (by simp) (by simp [Value.oneCell']) ?_))
  have hnb := (Below.refl w2.heap.size w2).alloc (Nat.le_refl _) (.cells #[.int .i64 t.trip, .int .i64 t.acct, .int .i64 t.stop, .int .i64 t.iss, .int .i64 t.til, .int .i64 t.ep] 57)
  have hta := tat_new w2 t
  unfold Tok.row at hta
  obtain ⟨W, hW⟩ : ∃ X, w2.alloc (.cells #[.int .i64 t.trip, .int .i64 t.acct, .int .i64 t.stop, .int .i64 t.iss, .int .i64 t.til, .int .i64 t.ep] 57) = X := ⟨_, rfl⟩
  obtain ⟨p, hp⟩ : ∃ p, w2.heap.size = p := ⟨_, rfl⟩
  rw [hW] at hnb
  rw [hW, hp] at hta ⊢
  have HB4 := Lib.hid (bel_tr HB2.out hnb)
  have HR4 := Lib.hid ((hnb.block _ (heap_lt HR2.out)).trans HR2.out)
  have HK4 := Lib.hid (HK2.out.below hnb)
  have HTV4 := Lib.hid (HTV.out.below hnb)
  have HTA := Lib.hid hta
  obtain ⟨m, hm⟩ : ∃ m, tag.length = m := ⟨_, rfl⟩
  rw [hm] at HTV4 ⊢
  clear hnb hta hW hp hm HB2 HR2 HK2 HTV HOP HB1 HR1 HK1 HWW HQ3
  by_cases he : er = 0
  · subst he
    have HWF := Lib.hid (topen_wf HTO.out)
    obtain ⟨c0, c1, c2, c3, c4, c5⟩ := HTA.out.cells
    have r0 : W.cell? ⟨g, 0, none⟩ = some (.int .i64 keep) := cell_of_row W _ _ _ _ _ HR4.out
    have r1 : W.cell? ⟨g, 1, none⟩ = some (.slice va n vc) := cell_of_row W _ _ _ _ _ HR4.out
    have hfind := find_any keep _ l t.ep _ (H.out.below HB4.out) HS.out
    obtain ⟨ko, hko⟩ : ∃ o, kf t.ep l = o := ⟨_, rfl⟩
    unfold FindPost at hfind
    rw [hko] at hfind
    have HFIND := Lib.hid hfind
    have HKO := Lib.hid hko
    clear hfind hko
    rcases ko with _ | k
    · simp only [Option.isSome_none, Option.getD_none] at HFIND
      have HTF : Hid (tverify l b now = (tz, 20)) := Lib.hid (tver_key HTO.out HKO.out)
      go_upto_region 6 with (go_at_call 34; refine HFIND.out.mono ?_; rintro e w5 ⟨kv, rfl, hkv, hb5⟩; have HK5 := Lib.hid (HK4.out.below hb5); have HB5 := Lib.hid (bel_tr HB4.out hb5); clear hkv hb5)
      clear c0 c1 c2 c3 c4 c5 r0 r1
      go_wp2_with (with_reducible refine wpList_store_row rfl _ _ rfl rfl rfl HK5.out.row (by kernel_rfl) (by simp [Tok.row]) (by simp [Value.oneCell']) ?_)
      obtain ⟨hpo, hta⟩ := ver_end HQ.out.2 HTF.out HB5.out HK5.out
      obtain ⟨c0, c1, c2, c3, c4, c5⟩ := hta.cells
      clear hta
      unfold Tok.row tz at hpo c0 c1 c2 c3 c4 c5
      refine bodyPost_ret (v := .tuple #[.agg #[.int .i64 0, .int .i64 0, .int .i64 0, .int .i64 0, .int .i64 0, .int .i64 0], .int .i64 ((20 : Nat) : Int)]) ?_ rfl hpo
      simp [results, Tryd.results49, go_sem, c0, c1, c2, c3, c4, c5]
    · simp only [Option.isSome_some, Option.getD_some] at HFIND
      have hkl : Hid (k.length < 4294967296) := by
        obtain ⟨kk, hk, hkb⟩ := kf_mem HKO.out
        have := HS.out kk hk
        show _ < _
        rw [← hkb]; omega
      go_upto_region 7 with (go_at_call 34; refine HFIND.out.mono ?_; rintro e w5 ⟨kv, rfl, hkv, hb5⟩; have HKV := Lib.hid hkv; have HK5 := Lib.hid (HK4.out.below hb5); have HB5 := Lib.hid (bel_tr HB4.out hb5); have HTA5 := Lib.hid (HTA.out.below hb5); have HTV5 := Lib.hid (HTV4.out.below hb5); clear hkv hb5)
      clear c0 c1 c2 c3 c4 c5 r0 r1 HFIND HR4 HTA HTV4 HK4 HB4
      obtain ⟨c0, c1, c2, c3, c4, c5⟩ := HTA5.out.cells
      obtain ⟨bs, hbs⟩ : ∃ x, (tag == ttag k t) = x := ⟨_, rfl⟩
      have HBS := Lib.hid hbs
      rcases bs with _ | _
      · have HTF : Hid (tverify l b now = (tz, 21)) := Lib.hid (by rw [tver_some HTO.out HKO.out, if_pos (HBS.out)])
        go_upto_region 8 with (first
          | (go_at_call 75; refine (ttag_any _ k t HWF.out _ HKV.out hkl.out (HT.out.below HB5.out)).mono ?_; rintro e w6 ⟨v6, rfl, ho6, hb6⟩; have hsm6 := shasame_any _ _ tag (ttag k t) _ (HTV5.out.below hb6) ho6.bs; rw [hbs] at hsm6; have HSM6 := Lib.hid hsm6; have HB6 := Lib.hid hb6; clear hsm6 ho6 hb6)
          | (go_at_call 21; refine HSM6.out.mono ?_; rintro e w7 ⟨rfl, hb7⟩; have h57 := bel_tr HB6.out hb7; have HB7 := Lib.hid (bel_tr HB5.out h57); have HK7 := Lib.hid (HK5.out.below h57); have HTA7 := Lib.hid (HTA5.out.below h57); clear hb7 h57))
        clear hbs c0 c1 c2 c3 c4 c5
        go_wp2_with (with_reducible refine wpList_store_row rfl _ _ rfl rfl rfl HK7.out.row (by kernel_rfl) (by simp [Tok.row]) (by simp [Value.oneCell']) ?_)
        obtain ⟨hpo, hta⟩ := ver_end HQ.out.2 HTF.out HB7.out HK7.out
        obtain ⟨c0, c1, c2, c3, c4, c5⟩ := hta.cells
        clear hta
        unfold Tok.row tz at hpo c0 c1 c2 c3 c4 c5
        refine bodyPost_ret (v := .tuple #[.agg #[.int .i64 0, .int .i64 0, .int .i64 0, .int .i64 0, .int .i64 0, .int .i64 0], .int .i64 ((21 : Nat) : Int)]) ?_ rfl hpo
        simp [results, Tryd.results49, go_sem, c0, c1, c2, c3, c4, c5]
      · go_upto_region 9 with (first
          | (go_at_call 75; refine (ttag_any _ k t HWF.out _ HKV.out hkl.out (HT.out.below HB5.out)).mono ?_; rintro e w6 ⟨v6, rfl, ho6, hb6⟩; have hsm6 := shasame_any _ _ tag (ttag k t) _ (HTV5.out.below hb6) ho6.bs; rw [hbs] at hsm6; have HSM6 := Lib.hid hsm6; have HB6 := Lib.hid hb6; clear hsm6 ho6 hb6)
          | (go_at_call 21; refine HSM6.out.mono ?_; rintro e w7 ⟨rfl, hb7⟩; have h57 := bel_tr HB6.out hb7; have HB7 := Lib.hid (bel_tr HB5.out h57); have HK7 := Lib.hid (HK5.out.below h57); have HTA7 := Lib.hid (HTA5.out.below h57); clear hb7 h57))
        clear hbs c0 c1 c2 c3 c4 c5
        have hno : ¬ ((tag == ttag k t) = false) := by rw [HBS.out]; simp
        have HNO := Lib.hid hno
        obtain ⟨c0, c1, c2, c3, c4, c5⟩ := HTA7.out.cells
        clear hno
        by_cases h1 : now < t.iss
        · have HTF : Hid (tverify l b now = (tz, 22)) := Lib.hid (by rw [tver_some HTO.out HKO.out, if_neg HNO.out, if_pos (.inl h1)])
          go_upto_region 10 with fail
          clear c0 c1 c2 c3 c4 c5
          go_wp2_with (with_reducible refine wpList_store_row rfl _ _ rfl rfl rfl HK7.out.row (by kernel_rfl) (by simp [Tok.row]) (by simp [Value.oneCell']) ?_)
          obtain ⟨hpo, hta⟩ := ver_end HQ.out.2 HTF.out HB7.out HK7.out
          obtain ⟨c0, c1, c2, c3, c4, c5⟩ := hta.cells
          clear hta
          unfold Tok.row tz at hpo c0 c1 c2 c3 c4 c5
          refine bodyPost_ret (v := .tuple #[.agg #[.int .i64 0, .int .i64 0, .int .i64 0, .int .i64 0, .int .i64 0, .int .i64 0], .int .i64 ((22 : Nat) : Int)]) ?_ rfl hpo
          simp [results, Tryd.results49, go_sem, c0, c1, c2, c3, c4, c5]
        · by_cases h2 : t.til < now
          · have HTF : Hid (tverify l b now = (tz, 22)) := Lib.hid (by rw [tver_some HTO.out HKO.out, if_neg HNO.out, if_pos (.inr h2)])
            go_upto_region 10 with fail
            clear c0 c1 c2 c3 c4 c5
            go_wp2_with (with_reducible refine wpList_store_row rfl _ _ rfl rfl rfl HK7.out.row (by kernel_rfl) (by simp [Tok.row]) (by simp [Value.oneCell']) ?_)
            obtain ⟨hpo, hta⟩ := ver_end HQ.out.2 HTF.out HB7.out HK7.out
            obtain ⟨c0, c1, c2, c3, c4, c5⟩ := hta.cells
            clear hta
            unfold Tok.row tz at hpo c0 c1 c2 c3 c4 c5
            refine bodyPost_ret (v := .tuple #[.agg #[.int .i64 0, .int .i64 0, .int .i64 0, .int .i64 0, .int .i64 0, .int .i64 0], .int .i64 ((22 : Nat) : Int)]) ?_ rfl hpo
            simp [results, Tryd.results49, go_sem, c0, c1, c2, c3, c4, c5]
          · have HTF : Hid (tverify l b now = (t, 0)) := Lib.hid (by rw [tver_some HTO.out HKO.out, if_neg HNO.out, if_neg (by omega)])
            go_upto_region 11 with fail
            go_wp2_with (with_reducible refine wpList_store_row rfl _ _ rfl rfl rfl HK7.out.row (by kernel_rfl) (by simp [Tok.row]) (by simp [Value.oneCell']) ?_)
            clear c0 c1 c2 c3 c4 c5
            obtain ⟨hpo, hta⟩ := ver_end HQ.out.2 HTF.out HB7.out HK7.out
            obtain ⟨c0, c1, c2, c3, c4, c5⟩ := hta.cells
            clear hta
            unfold Tok.row at hpo c0 c1 c2 c3 c4 c5
            refine bodyPost_ret (v := .tuple #[.agg #[.int .i64 t.trip, .int .i64 t.acct, .int .i64 t.stop, .int .i64 t.iss, .int .i64 t.til, .int .i64 t.ep], .int .i64 ((0 : Nat) : Int)]) ?_ rfl hpo
            simp [results, Tryd.results49, go_sem, c0, c1, c2, c3, c4, c5]
  · have hei : ((er : Int) != 0) = true := by simp; omega
    have HTF : Hid (tverify l b now = (tz, er)) := Lib.hid (tver_e HTO.out he)
    clear he
    go_wp2_with (with_reducible refine wpList_store_row rfl _ _ rfl rfl rfl HK4.out.row (by kernel_rfl) (by simp [Tok.row]) (by simp [Value.oneCell']) ?_)
    obtain ⟨hpo, hta⟩ := ver_end HQ.out.2 HTF.out HB4.out HK4.out
    obtain ⟨c0, c1, c2, c3, c4, c5⟩ := hta.cells
    clear hta
    unfold Tok.row tz at hpo c0 c1 c2 c3 c4 c5
    refine bodyPost_ret (v := .tuple #[.agg #[.int .i64 0, .int .i64 0, .int .i64 0, .int .i64 0, .int .i64 0, .int .i64 0], .int .i64 ((er : Nat) : Int)]) ?_ rfl hpo
    simp [results, Tryd.results49, go_sem, c0, c1, c2, c3, c4, c5]

set_option maxRecDepth 100000 in
set_option maxHeartbeats 6400000 in
theorem uverify_any (keep : Int) (v : Value) (l : List RK) (y : Value) (b : List UInt8) (now : Int) (w : World) (h : Ks w v l) (hy : Bs w y b) (hl : b.length ≤ 1048576) (hsm : ∀ k ∈ l, k.b.length ≤ 1000000) :
    Calls Tryd.prog 50 #[.agg #[.int .i64 keep, v], y, .int .i64 now] w (VerPost l b now w) := by
  obtain ⟨va, vc, hvs⟩ := h.g.shape
  subst hvs
  obtain ⟨n, hn⟩ : ∃ n, l.length = n := ⟨_, rfl⟩
  rw [hn] at h ⊢
  obtain ⟨ya, yc, hs⟩ := hy.shape
  subst hs
  have H := Lib.hid h
  have HS := Lib.hid hsm
  obtain ⟨w1, hw1⟩ : ∃ W, (w.alloc (.cells #[.int .i64 keep, .slice va n vc] 39)).alloc (.cells #[.int .i64 0, .int .i64 0, .int .i64 0, .int .i64 0, .int .i64 0, .int .i64 0] 57) = W := ⟨_, rfl⟩
  have hb1 : Below w.heap.size w w1 := by rw [← hw1]; exact bel_al (bel_al (Below.refl _ _) _) _
  have hr1 : w1.heap[w.heap.size]? = some (.cells #[.int .i64 keep, .slice va n vc] 39 (0, 0)) := by rw [← hw1, alloc_get, if_neg (by simp), alloc_get, if_pos rfl]
  have hk1 : TAt w1 (w.heap.size + 1) tz := ⟨by rw [← hw1, alloc_get, if_pos (by simp)]; rfl⟩
  obtain ⟨q, hq⟩ : ∃ q, w.heap.size + 1 = q := ⟨_, rfl⟩
  obtain ⟨g, hg⟩ : ∃ g, w.heap.size = g := ⟨_, rfl⟩
  have HQ : Hid (g < q ∧ w.heap.size ≤ q) := by constructor <;> omega
  have HQ2 : Hid (w.heap.size = g) := hg
  have HQ3 := Lib.hid hq
  rw [hq] at hk1
  rw [hg] at hr1
  obtain ⟨t, tag, er, hto⟩ : ∃ t tag er, topen b = (t, tag, er) := ⟨_, _, _, rfl⟩
  have hop := uopen_any (.slice ya b.length yc) b w1 (hy.below hb1) hl
  unfold OpenPost at hop
  rw [hto] at hop
  simp only at hop
  unfold Tok.row at hop
  have HOP := Lib.hid hop
  have HTO := Lib.hid hto
  have HB1 := Lib.hid hb1
  have HR1 := Lib.hid hr1
  have HK1 := Lib.hid hk1
  have HWW := Lib.hid hw1
  clear h hsm hy hb1 hr1 hk1 hw1 hn hq hg hto hop
  go_enter Tryd.func50, Tryd.ntmps50
  go_upto_region 1 with fail
  rw [HWW.out, HQ3.out, HQ2.out]
  go_upto_region 2 with (first
    | (go_at_call 48; refine HOP.out.mono ?_; rintro e w2 ⟨tv, rfl, htv, hb2⟩; obtain ⟨ta, tc, hts⟩ := htv.shape; subst hts; have HTV := Lib.hid htv; have HB2 := Lib.hid (bel_tr HB1.out hb2); have HR2 := Lib.hid ((hb2.block _ (heap_lt HR1.out)).trans HR1.out); have HK2 := Lib.hid (HK1.out.below hb2); clear htv hb2)
    | (with_reducible refine wpList_store_new rfl _ _ rfl rfl rfl (by kernel_rfl) (by simp) (by simp [Value.oneCell']) ?_))
  have hnb := (Below.refl w2.heap.size w2).alloc (Nat.le_refl _) (.cells #[.int .i64 t.trip, .int .i64 t.acct, .int .i64 t.stop, .int .i64 t.iss, .int .i64 t.til, .int .i64 t.ep] 57)
  have hta := tat_new w2 t
  unfold Tok.row at hta
  obtain ⟨W, hW⟩ : ∃ X, w2.alloc (.cells #[.int .i64 t.trip, .int .i64 t.acct, .int .i64 t.stop, .int .i64 t.iss, .int .i64 t.til, .int .i64 t.ep] 57) = X := ⟨_, rfl⟩
  obtain ⟨p, hp⟩ : ∃ p, w2.heap.size = p := ⟨_, rfl⟩
  rw [hW] at hnb
  rw [hW, hp] at hta ⊢
  have HB4 := Lib.hid (bel_tr HB2.out hnb)
  have HR4 := Lib.hid ((hnb.block _ (heap_lt HR2.out)).trans HR2.out)
  have HK4 := Lib.hid (HK2.out.below hnb)
  have HTV4 := Lib.hid (HTV.out.below hnb)
  have HTA := Lib.hid hta
  obtain ⟨m, hm⟩ : ∃ m, tag.length = m := ⟨_, rfl⟩
  rw [hm] at HTV4 ⊢
  clear hnb hta hW hp hm HB2 HR2 HK2 HTV HOP HB1 HR1 HK1 HWW HQ3
  by_cases he : er = 0
  · subst he
    have HWF := Lib.hid (topen_wf HTO.out)
    obtain ⟨c0, c1, c2, c3, c4, c5⟩ := HTA.out.cells
    have r0 : W.cell? ⟨g, 0, none⟩ = some (.int .i64 keep) := cell_of_row W _ _ _ _ _ HR4.out
    have r1 : W.cell? ⟨g, 1, none⟩ = some (.slice va n vc) := cell_of_row W _ _ _ _ _ HR4.out
    have hfind := rrfind_any keep _ l t.ep _ (H.out.below HB4.out)
    obtain ⟨ko, hko⟩ : ∃ o, kf t.ep l = o := ⟨_, rfl⟩
    unfold FindPost at hfind
    rw [hko] at hfind
    have HFIND := Lib.hid hfind
    have HKO := Lib.hid hko
    clear hfind hko
    rcases ko with _ | k
    · simp only [Option.isSome_none, Option.getD_none] at HFIND
      have HTF : Hid (tverify l b now = (tz, 20)) := Lib.hid (tver_key HTO.out HKO.out)
      go_upto_region 6 with (go_at_call 35; refine HFIND.out.mono ?_; rintro e w5 ⟨kv, rfl, hkv, hb5⟩; have HK5 := Lib.hid (HK4.out.below hb5); have HB5 := Lib.hid (bel_tr HB4.out hb5); clear hkv hb5)
      clear c0 c1 c2 c3 c4 c5 r0 r1
      go_wp2_with (with_reducible refine wpList_store_row rfl _ _ rfl rfl rfl HK5.out.row (by kernel_rfl) (by simp [Tok.row]) (by simp [Value.oneCell']) ?_)
      obtain ⟨hpo, hta⟩ := ver_end HQ.out.2 HTF.out HB5.out HK5.out
      obtain ⟨c0, c1, c2, c3, c4, c5⟩ := hta.cells
      clear hta
      unfold Tok.row tz at hpo c0 c1 c2 c3 c4 c5
      refine bodyPost_ret (v := .tuple #[.agg #[.int .i64 0, .int .i64 0, .int .i64 0, .int .i64 0, .int .i64 0, .int .i64 0], .int .i64 ((20 : Nat) : Int)]) ?_ rfl hpo
      simp [results, Tryd.results50, go_sem, c0, c1, c2, c3, c4, c5]
    · simp only [Option.isSome_some, Option.getD_some] at HFIND
      have hkl : Hid (k.length < 4294967296) := by
        obtain ⟨kk, hk, hkb⟩ := kf_mem HKO.out
        have := HS.out kk hk
        show _ < _
        rw [← hkb]; omega
      go_upto_region 7 with (go_at_call 35; refine HFIND.out.mono ?_; rintro e w5 ⟨kv, rfl, hkv, hb5⟩; have HKV := Lib.hid hkv; have HK5 := Lib.hid (HK4.out.below hb5); have HB5 := Lib.hid (bel_tr HB4.out hb5); have HTA5 := Lib.hid (HTA.out.below hb5); have HTV5 := Lib.hid (HTV4.out.below hb5); clear hkv hb5)
      clear c0 c1 c2 c3 c4 c5 r0 r1 HFIND HR4 HTA HTV4 HK4 HB4
      obtain ⟨c0, c1, c2, c3, c4, c5⟩ := HTA5.out.cells
      obtain ⟨bs, hbs⟩ : ∃ x, (ttag k t == tag) = x := ⟨_, rfl⟩
      have HBS := Lib.hid ((BEq.comm (a := tag) (b := ttag k t)).trans hbs)
      rcases bs with _ | _
      · have HTF : Hid (tverify l b now = (tz, 21)) := Lib.hid (by rw [tver_some HTO.out HKO.out, if_pos (HBS.out)])
        go_upto_region 8 with (first
          | (go_at_call 80; refine (utag_any _ k t HWF.out _ HKV.out hkl.out).mono ?_; rintro e w6 ⟨v6, rfl, ho6, hb6⟩; have hsm6 := same_any _ _ (ttag k t) tag _ ho6.bs (HTV5.out.below hb6); rw [hbs] at hsm6; have HSM6 := Lib.hid hsm6; have HB6 := Lib.hid hb6; clear hsm6 ho6 hb6)
          | (go_at_call 17; refine HSM6.out.mono ?_; rintro e w7 ⟨rfl, hb7⟩; have h57 := bel_tr HB6.out hb7; have HB7 := Lib.hid (bel_tr HB5.out h57); have HK7 := Lib.hid (HK5.out.below h57); have HTA7 := Lib.hid (HTA5.out.below h57); clear hb7 h57))
        clear hbs c0 c1 c2 c3 c4 c5
        go_wp2_with (with_reducible refine wpList_store_row rfl _ _ rfl rfl rfl HK7.out.row (by kernel_rfl) (by simp [Tok.row]) (by simp [Value.oneCell']) ?_)
        obtain ⟨hpo, hta⟩ := ver_end HQ.out.2 HTF.out HB7.out HK7.out
        obtain ⟨c0, c1, c2, c3, c4, c5⟩ := hta.cells
        clear hta
        unfold Tok.row tz at hpo c0 c1 c2 c3 c4 c5
        refine bodyPost_ret (v := .tuple #[.agg #[.int .i64 0, .int .i64 0, .int .i64 0, .int .i64 0, .int .i64 0, .int .i64 0], .int .i64 ((21 : Nat) : Int)]) ?_ rfl hpo
        simp [results, Tryd.results50, go_sem, c0, c1, c2, c3, c4, c5]
      · go_upto_region 9 with (first
          | (go_at_call 80; refine (utag_any _ k t HWF.out _ HKV.out hkl.out).mono ?_; rintro e w6 ⟨v6, rfl, ho6, hb6⟩; have hsm6 := same_any _ _ (ttag k t) tag _ ho6.bs (HTV5.out.below hb6); rw [hbs] at hsm6; have HSM6 := Lib.hid hsm6; have HB6 := Lib.hid hb6; clear hsm6 ho6 hb6)
          | (go_at_call 17; refine HSM6.out.mono ?_; rintro e w7 ⟨rfl, hb7⟩; have h57 := bel_tr HB6.out hb7; have HB7 := Lib.hid (bel_tr HB5.out h57); have HK7 := Lib.hid (HK5.out.below h57); have HTA7 := Lib.hid (HTA5.out.below h57); clear hb7 h57))
        clear hbs c0 c1 c2 c3 c4 c5
        have hno : ¬ ((tag == ttag k t) = false) := by rw [HBS.out]; simp
        have HNO := Lib.hid hno
        obtain ⟨c0, c1, c2, c3, c4, c5⟩ := HTA7.out.cells
        clear hno
        by_cases h1 : now < t.iss
        · have HTF : Hid (tverify l b now = (tz, 22)) := Lib.hid (by rw [tver_some HTO.out HKO.out, if_neg HNO.out, if_pos (.inl h1)])
          go_upto_region 10 with fail
          clear c0 c1 c2 c3 c4 c5
          go_wp2_with (with_reducible refine wpList_store_row rfl _ _ rfl rfl rfl HK7.out.row (by kernel_rfl) (by simp [Tok.row]) (by simp [Value.oneCell']) ?_)
          obtain ⟨hpo, hta⟩ := ver_end HQ.out.2 HTF.out HB7.out HK7.out
          obtain ⟨c0, c1, c2, c3, c4, c5⟩ := hta.cells
          clear hta
          unfold Tok.row tz at hpo c0 c1 c2 c3 c4 c5
          refine bodyPost_ret (v := .tuple #[.agg #[.int .i64 0, .int .i64 0, .int .i64 0, .int .i64 0, .int .i64 0, .int .i64 0], .int .i64 ((22 : Nat) : Int)]) ?_ rfl hpo
          simp [results, Tryd.results50, go_sem, c0, c1, c2, c3, c4, c5]
        · by_cases h2 : t.til < now
          · have HTF : Hid (tverify l b now = (tz, 22)) := Lib.hid (by rw [tver_some HTO.out HKO.out, if_neg HNO.out, if_pos (.inr h2)])
            go_upto_region 10 with fail
            clear c0 c1 c2 c3 c4 c5
            go_wp2_with (with_reducible refine wpList_store_row rfl _ _ rfl rfl rfl HK7.out.row (by kernel_rfl) (by simp [Tok.row]) (by simp [Value.oneCell']) ?_)
            obtain ⟨hpo, hta⟩ := ver_end HQ.out.2 HTF.out HB7.out HK7.out
            obtain ⟨c0, c1, c2, c3, c4, c5⟩ := hta.cells
            clear hta
            unfold Tok.row tz at hpo c0 c1 c2 c3 c4 c5
            refine bodyPost_ret (v := .tuple #[.agg #[.int .i64 0, .int .i64 0, .int .i64 0, .int .i64 0, .int .i64 0, .int .i64 0], .int .i64 ((22 : Nat) : Int)]) ?_ rfl hpo
            simp [results, Tryd.results50, go_sem, c0, c1, c2, c3, c4, c5]
          · have HTF : Hid (tverify l b now = (t, 0)) := Lib.hid (by rw [tver_some HTO.out HKO.out, if_neg HNO.out, if_neg (by omega)])
            go_upto_region 11 with fail
            go_wp2_with (with_reducible refine wpList_store_row rfl _ _ rfl rfl rfl HK7.out.row (by kernel_rfl) (by simp [Tok.row]) (by simp [Value.oneCell']) ?_)
            clear c0 c1 c2 c3 c4 c5
            obtain ⟨hpo, hta⟩ := ver_end HQ.out.2 HTF.out HB7.out HK7.out
            obtain ⟨c0, c1, c2, c3, c4, c5⟩ := hta.cells
            clear hta
            unfold Tok.row at hpo c0 c1 c2 c3 c4 c5
            refine bodyPost_ret (v := .tuple #[.agg #[.int .i64 t.trip, .int .i64 t.acct, .int .i64 t.stop, .int .i64 t.iss, .int .i64 t.til, .int .i64 t.ep], .int .i64 ((0 : Nat) : Int)]) ?_ rfl hpo
            simp [results, Tryd.results50, go_sem, c0, c1, c2, c3, c4, c5]
  · have hei : ((er : Int) != 0) = true := by simp; omega
    have HTF : Hid (tverify l b now = (tz, er)) := Lib.hid (tver_e HTO.out he)
    clear he
    go_wp2_with (with_reducible refine wpList_store_row rfl _ _ rfl rfl rfl HK4.out.row (by kernel_rfl) (by simp [Tok.row]) (by simp [Value.oneCell']) ?_)
    obtain ⟨hpo, hta⟩ := ver_end HQ.out.2 HTF.out HB4.out HK4.out
    obtain ⟨c0, c1, c2, c3, c4, c5⟩ := hta.cells
    clear hta
    unfold Tok.row tz at hpo c0 c1 c2 c3 c4 c5
    refine bodyPost_ret (v := .tuple #[.agg #[.int .i64 0, .int .i64 0, .int .i64 0, .int .i64 0, .int .i64 0, .int .i64 0], .int .i64 ((er : Nat) : Int)]) ?_ rfl hpo
    simp [results, Tryd.results50, go_sem, c0, c1, c2, c3, c4, c5]

end Go.Proofs.YtmhgdddnjnichaaDoor
