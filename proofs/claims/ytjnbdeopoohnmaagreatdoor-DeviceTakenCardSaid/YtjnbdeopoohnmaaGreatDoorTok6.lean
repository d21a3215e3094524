/- Tok6: Tok5, Tok6 as one text. -/
import Derived.Test.YtjnbdeopoohnmaaGreatDoorTok4
import Derived.Test.YtjnbdeopoohnmaaGreatDoorTok2
import Derived.Test.YtjnbdeopoohnmaaGreatDoorRingS
import Derived.Test.YtjnbdeopoohnmaaGreatDoorShaQ
import Derived.Test.YtjnbdeopoohnmaaGreatDoorRingR
import Derived.Deep.RegionHeld3
import Derived.Deep.CutBlock
import Derived.Deep.DeepCutAuto
/- Layer 10 (token): Verify, plain and its walks. -/
set_option linter.unusedSimpArgs false
namespace Go.Proofs.YtjnbdeopoohnmaaGreatDoor
open Go.RowKit Go.Sort

def tverify (l : List RK) (b : List UInt8) (now : Int) : Tok × Nat :=
  match topen b with
  | (t, tag, e) => if e ≠ 0 then (tz, e) else
    match kf t.ep l with
    | none => (tz, 20)
    | some k => if (tag == ttag k t) = false then (tz, 21) else if now < t.iss ∨ t.til < now then (tz, 22) else (t, 0)
section
variable {l : List RK} {b tag k : List UInt8} {now : Int} {t : Tok} {e : Nat}
theorem tver_e (h : topen b = (t, tag, e)) (he : e ≠ 0) : tverify l b now = (tz, e) := by
  unfold tverify; rw [h]; dsimp only; rw [if_pos he]
theorem tver_key (h : topen b = (t, tag, 0)) (hk : kf t.ep l = none) : tverify l b now = (tz, 20) := by
  unfold tverify; rw [h]; dsimp only; rw [if_neg (by omega), hk]
theorem tver_some (h : topen b = (t, tag, 0)) (hk : kf t.ep l = some k) : tverify l b now = if (tag == ttag k t) = false then (tz, 21) else if now < t.iss ∨ t.til < now then (tz, 22) else (t, 0) := by
  unfold tverify; rw [h]; dsimp only; rw [if_neg (by omega), hk]
theorem topen_ok (h : topen b = (t, tag, 0)) : tmay t = true ∧ tag.length = 32 := by
  obtain ⟨c, f, h0⟩ : ∃ c f, fwhole 2 b = (c, f) := ⟨_, _, rfl⟩
  by_cases hf : f = 0
  · subst hf
    obtain ⟨n1, p1, b1, hv1⟩ : ∃ n p b, rnum 2147483648 c 0 0 = (n, p, b) := ⟨_, _, _, rfl⟩
    obtain ⟨n2, p2, b2, hv2⟩ : ∃ n p b, rnum 2147483648 c p1 b1 = (n, p, b) := ⟨_, _, _, rfl⟩
    obtain ⟨n3, p3, b3, hv3⟩ : ∃ n p b, rnum 4095 c p2 b2 = (n, p, b) := ⟨_, _, _, rfl⟩
    obtain ⟨n4, p4, b4, hv4⟩ : ∃ n p b, rnum 1099511627776 c p3 b3 = (n, p, b) := ⟨_, _, _, rfl⟩
    obtain ⟨n5, p5, b5, hv5⟩ : ∃ n p b, rnum 1099511627776 c p4 b4 = (n, p, b) := ⟨_, _, _, rfl⟩
    obtain ⟨n6, p6, b6, hv6⟩ : ∃ n p b, rnum 1048576 c p5 b5 = (n, p, b) := ⟨_, _, _, rfl⟩
    obtain ⟨tg, p7, b7, hv7⟩ : ∃ n p b, rbytes 32 c p6 b6 = (n, p, b) := ⟨_, _, _, rfl⟩
    rw [topen_r h0 hv1 hv2 hv3 hv4 hv5 hv6 hv7] at h
    split at h
    · simp only [Prod.mk.injEq] at h; omega
    · split at h
      · rename_i hh; simp only [Prod.mk.injEq] at h; obtain ⟨rfl, rfl, _⟩ := h; exact hh
      · simp only [Prod.mk.injEq] at h; omega
  · rw [topen_f h0 hf] at h
    simp only [Prod.mk.injEq] at h; omega
theorem tmay_wf (h : tmay t = true) : t.Wf := by
  have := (tmay_iff t).1 h
  unfold Tok.Wf W64
  omega
theorem topen_wf (h : topen b = (t, tag, 0)) : t.Wf := tmay_wf (topen_ok h).1
end
def VerPost (l : List RK) (b : List UInt8) (now : Int) (w : World) (e : Ending) (w' : World) : Prop :=
  e = .returned (.tuple #[.agg (tverify l b now).1.row, .int .i64 ((tverify l b now).2 : Nat)]) ∧ Below w.heap.size w w'
theorem ver_end {w W : World} {l : List RK} {b : List UInt8} {now : Int} {t t0 : Tok} {e q : Nat} (hq : w.heap.size ≤ q) (ht : tverify l b now = (t, e)) (hb : Below w.heap.size w W) (hg : TAt W q t0) :
    VerPost l b now w (.returned (.tuple #[.agg t.row, .int .i64 (e : Int)])) (W.setRow q t.row) ∧ TAt (W.setRow q t.row) q t := by
  have h1 : Only (fun i => i = q) W (W.setRow q t.row) := setRow_only _ _ _
  refine ⟨⟨by rw [ht], hb.trans (h1.below (fun k hk => by omega) hb.size)⟩, ⟨setRow_heap W q _ t.row _ _ hg.row⟩⟩

set_option maxRecDepth 100000 in
set_option maxHeartbeats 6400000 in
theorem verify_anyL (keep : Int) (v : Value) (l : List RK) (y : Value) (b : List UInt8) (now : Int) (w : World) (h : Ks w v l) (hy : Bs w y b) (hl : b.length ≤ 1048576) (hsm : ∀ k ∈ l, k.b.length ≤ 140737488351232) (hT : Tabbed w) :
    Calls Tryz.prog 57 #[.agg #[.int .i64 keep, v], y, .int .i64 now] w (VerPost l b now w) := by
  obtain ⟨va, vc, hvs⟩ := h.g.shape
  subst hvs
  obtain ⟨n, hn⟩ : ∃ n, l.length = n := ⟨_, rfl⟩
  rw [hn] at h ⊢
  obtain ⟨ya, yc, hs⟩ := hy.shape
  subst hs
  have H := Lib.hid h
  have HS := Lib.hid hsm
  have HT := Lib.hid hT
  obtain ⟨w1, hw1⟩ : ∃ W, (w.alloc (.cells #[.int .i64 keep, .slice va n vc] 24)).alloc (.cells #[.int .i64 0, .int .i64 0, .int .i64 0, .int .i64 0, .int .i64 0, .int .i64 0] 62) = W := ⟨_, rfl⟩
  have hb1 : Below w.heap.size w w1 := by rw [← hw1]; exact bel_al (bel_al (Below.refl _ _) _) _
  have hr1 : w1.heap[w.heap.size]? = some (.cells #[.int .i64 keep, .slice va n vc] 24 (0, 0)) := by rw [← hw1, alloc_get, if_neg (by simp), alloc_get, if_pos rfl]
  have hk1 : TAt w1 (w.heap.size + 1) tz := ⟨by rw [← hw1, alloc_get, if_pos (by simp)]; rfl⟩
  obtain ⟨q, hq⟩ : ∃ q, w.heap.size + 1 = q := ⟨_, rfl⟩
  obtain ⟨g, hg⟩ : ∃ g, w.heap.size = g := ⟨_, rfl⟩
  have HQ : Hid (g < q ∧ w.heap.size ≤ q) := by constructor <;> omega
  have HQ2 : Hid (w.heap.size = g) := hg
  have HQ3 := Lib.hid hq
  rw [hq] at hk1
  rw [hg] at hr1
  obtain ⟨t, tag, er, hto⟩ : ∃ t tag er, topen b = (t, tag, er) := ⟨_, _, _, rfl⟩
  have hop := open_any (.slice ya b.length yc) b w1 (hy.below hb1) hl
  unfold OpenPost at hop
  rw [hto] at hop
  simp only at hop
  unfold Tok.row at hop
  have HOP := Lib.hid hop
  have HTO := Lib.hid hto
  have HB1 := Lib.hid hb1
  have HR1 := Lib.hid hr1
  have HK1 := Lib.hid hk1
  have HWW := Lib.hid hw1
  clear h hsm hT hy hb1 hr1 hk1 hw1 hn hq hg hto hop
  go_enter Tryz.func57, Tryz.ntmps57
  go_upto_region 1 with fail
  rw [HWW.out, HQ3.out, HQ2.out]
  go_upto_region 2 with (first
    | (go_at_call 64; refine HOP.out.mono ?_; rintro e w2 ⟨tv, rfl, htv, hb2⟩; obtain ⟨ta, tc, hts⟩ := htv.shape; subst hts; have HTV := Lib.hid htv; have HB2 := Lib.hid (bel_tr HB1.out hb2); have HR2 := Lib.hid ((hb2.block _ (heap_lt HR1.out)).trans HR1.out); have HK2 := Lib.hid (HK1.out.below hb2); clear htv hb2)
    | (with_reducible refine wpList_store_new rfl _ _ rfl rfl rfl (by kernel_rfl) (by simp) (by simp [Value.oneCell']) ?_))
  have hnb := (Below.refl w2.heap.size w2).alloc (Nat.le_refl _) (.cells #[.int .i64 t.trip, .int .i64 t.acct, .int .i64 t.stop, .int .i64 t.iss, .int .i64 t.til, .int .i64 t.ep] 62)
  have hta := tat_new w2 t
  unfold Tok.row at hta
  obtain ⟨W, hW⟩ : ∃ X, w2.alloc (.cells #[.int .i64 t.trip, .int .i64 t.acct, .int .i64 t.stop, .int .i64 t.iss, .int .i64 t.til, .int .i64 t.ep] 62) = X := ⟨_, rfl⟩
  obtain ⟨p, hp⟩ : ∃ p, w2.heap.size = p := ⟨_, rfl⟩
  rw [hW] at hnb
  rw [hW, hp] at hta ⊢
  have HB4 := Lib.hid (bel_tr HB2.out hnb)
  have HR4 := Lib.hid ((hnb.block _ (heap_lt HR2.out)).trans HR2.out)
  have HK4 := Lib.hid (HK2.out.below hnb)
  have HTV4 := Lib.hid (HTV.out.below hnb)
  have HTA := Lib.hid hta
  obtain ⟨m, hm⟩ : ∃ m, tag.length = m := ⟨_, rfl⟩
  rw [hm] at HTV4 ⊢
  clear hnb hta hW hp hm HB2 HR2 HK2 HTV HOP HB1 HR1 HK1 HWW HQ3
  by_cases he : er = 0
  · subst he
    have HWF := Lib.hid (topen_wf HTO.out)
    obtain ⟨c0, c1, c2, c3, c4, c5⟩ := HTA.out.cells
    have r0 : W.cell? ⟨g, 0, none⟩ = some (.int .i64 keep) := cell_of_row W _ _ _ _ _ HR4.out
    have r1 : W.cell? ⟨g, 1, none⟩ = some (.slice va n vc) := cell_of_row W _ _ _ _ _ HR4.out
    have hfind := find_anyL keep _ l t.ep _ (H.out.below HB4.out) HS.out
    obtain ⟨ko, hko⟩ : ∃ o, kf t.ep l = o := ⟨_, rfl⟩
    unfold FindPost at hfind
    rw [hko] at hfind
    have HFIND := Lib.hid hfind
    have HKO := Lib.hid hko
    clear hfind hko
    rcases ko with _ | k
    · simp only [Option.isSome_none, Option.getD_none] at HFIND
      have HTF : Hid (tverify l b now = (tz, 20)) := Lib.hid (tver_key HTO.out HKO.out)
      go_upto_region 6 with (go_at_call 65; refine HFIND.out.mono ?_; rintro e w5 ⟨kv, rfl, hkv, hb5⟩; have HK5 := Lib.hid (HK4.out.below hb5); have HB5 := Lib.hid (bel_tr HB4.out hb5); clear hkv hb5)
      clear c0 c1 c2 c3 c4 c5 r0 r1
      go_wp2_with (with_reducible refine wpList_store_row rfl _ _ rfl rfl rfl HK5.out.row (by kernel_rfl) (by simp [Tok.row]) (by simp [Value.oneCell']) ?_)
      obtain ⟨hpo, hta⟩ := ver_end HQ.out.2 HTF.out HB5.out HK5.out
      obtain ⟨c0, c1, c2, c3, c4, c5⟩ := hta.cells
      clear hta
      unfold Tok.row tz at hpo c0 c1 c2 c3 c4 c5
      refine bodyPost_ret (v := .tuple #[.agg #[.int .i64 0, .int .i64 0, .int .i64 0, .int .i64 0, .int .i64 0, .int .i64 0], .int .i64 ((20 : Nat) : Int)]) ?_ rfl hpo
      simp [results, Tryz.results57, go_sem, c0, c1, c2, c3, c4, c5]
    · simp only [Option.isSome_some, Option.getD_some] at HFIND
      have hkl : Hid (k.length < 140737488355328) := by
        obtain ⟨kk, hk, hkb⟩ := kf_mem HKO.out
        have := HS.out kk hk
        show _ < _
        rw [← hkb]; omega
      go_upto_region 7 with (go_at_call 65; refine HFIND.out.mono ?_; rintro e w5 ⟨kv, rfl, hkv, hb5⟩; have HKV := Lib.hid hkv; have HK5 := Lib.hid (HK4.out.below hb5); have HB5 := Lib.hid (bel_tr HB4.out hb5); have HTA5 := Lib.hid (HTA.out.below hb5); have HTV5 := Lib.hid (HTV4.out.below hb5); clear hkv hb5)
      clear c0 c1 c2 c3 c4 c5 r0 r1 HFIND HR4 HTA HTV4 HK4 HB4
      obtain ⟨c0, c1, c2, c3, c4, c5⟩ := HTA5.out.cells
      obtain ⟨bs, hbs⟩ : ∃ x, (tag == ttag k t) = x := ⟨_, rfl⟩
      have HBS := Lib.hid hbs
      rcases bs with _ | _
      · have HTF : Hid (tverify l b now = (tz, 21)) := Lib.hid (by rw [tver_some HTO.out HKO.out, if_pos (HBS.out)])
        go_upto_region 8 with (first
          | (go_at_call 89; refine (ttag_anyL _ k t HWF.out _ HKV.out hkl.out (HT.out.below HB5.out)).mono ?_; rintro e w6 ⟨v6, rfl, ho6, hb6⟩; have hsm6 := shasame_any _ _ tag (ttag k t) _ (HTV5.out.below hb6) ho6.bs; rw [hbs] at hsm6; have HSM6 := Lib.hid hsm6; have HB6 := Lib.hid hb6; clear hsm6 ho6 hb6)
          | (go_at_call 60; refine HSM6.out.mono ?_; rintro e w7 ⟨rfl, hb7⟩; have h57 := bel_tr HB6.out hb7; have HB7 := Lib.hid (bel_tr HB5.out h57); have HK7 := Lib.hid (HK5.out.below h57); have HTA7 := Lib.hid (HTA5.out.below h57); clear hb7 h57))
        clear hbs c0 c1 c2 c3 c4 c5
        go_wp2_with (with_reducible refine wpList_store_row rfl _ _ rfl rfl rfl HK7.out.row (by kernel_rfl) (by simp [Tok.row]) (by simp [Value.oneCell']) ?_)
        obtain ⟨hpo, hta⟩ := ver_end HQ.out.2 HTF.out HB7.out HK7.out
        obtain ⟨c0, c1, c2, c3, c4, c5⟩ := hta.cells
        clear hta
        unfold Tok.row tz at hpo c0 c1 c2 c3 c4 c5
        refine bodyPost_ret (v := .tuple #[.agg #[.int .i64 0, .int .i64 0, .int .i64 0, .int .i64 0, .int .i64 0, .int .i64 0], .int .i64 ((21 : Nat) : Int)]) ?_ rfl hpo
        simp [results, Tryz.results57, go_sem, c0, c1, c2, c3, c4, c5]
      · go_upto_region 9 with (first
          | (go_at_call 89; refine (ttag_anyL _ k t HWF.out _ HKV.out hkl.out (HT.out.below HB5.out)).mono ?_; rintro e w6 ⟨v6, rfl, ho6, hb6⟩; have hsm6 := shasame_any _ _ tag (ttag k t) _ (HTV5.out.below hb6) ho6.bs; rw [hbs] at hsm6; have HSM6 := Lib.hid hsm6; have HB6 := Lib.hid hb6; clear hsm6 ho6 hb6)
          | (go_at_call 60; refine HSM6.out.mono ?_; rintro e w7 ⟨rfl, hb7⟩; have h57 := bel_tr HB6.out hb7; have HB7 := Lib.hid (bel_tr HB5.out h57); have HK7 := Lib.hid (HK5.out.below h57); have HTA7 := Lib.hid (HTA5.out.below h57); clear hb7 h57))
        clear hbs c0 c1 c2 c3 c4 c5
        have hno : ¬ ((tag == ttag k t) = false) := by rw [HBS.out]; simp
        have HNO := Lib.hid hno
        obtain ⟨c0, c1, c2, c3, c4, c5⟩ := HTA7.out.cells
        clear hno
        by_cases h1 : now < t.iss
        · have HTF : Hid (tverify l b now = (tz, 22)) := Lib.hid (by rw [tver_some HTO.out HKO.out, if_neg HNO.out, if_pos (.inl h1)])
          go_upto_region 10 with fail
          clear c0 c1 c2 c3 c4 c5
          go_wp2_with (with_reducible refine wpList_store_row rfl _ _ rfl rfl rfl HK7.out.row (by kernel_rfl) (by simp [Tok.row]) (by simp [Value.oneCell']) ?_)
          obtain ⟨hpo, hta⟩ := ver_end HQ.out.2 HTF.out HB7.out HK7.out
          obtain ⟨c0, c1, c2, c3, c4, c5⟩ := hta.cells
          clear hta
          unfold Tok.row tz at hpo c0 c1 c2 c3 c4 c5
          refine bodyPost_ret (v := .tuple #[.agg #[.int .i64 0, .int .i64 0, .int .i64 0, .int .i64 0, .int .i64 0, .int .i64 0], .int .i64 ((22 : Nat) : Int)]) ?_ rfl hpo
          simp [results, Tryz.results57, go_sem, c0, c1, c2, c3, c4, c5]
        · by_cases h2 : t.til < now
          · have HTF : Hid (tverify l b now = (tz, 22)) := Lib.hid (by rw [tver_some HTO.out HKO.out, if_neg HNO.out, if_pos (.inr h2)])
            go_upto_region 10 with fail
            clear c0 c1 c2 c3 c4 c5
            go_wp2_with (with_reducible refine wpList_store_row rfl _ _ rfl rfl rfl HK7.out.row (by kernel_rfl) (by simp [Tok.row]) (by simp [Value.oneCell']) ?_)
            obtain ⟨hpo, hta⟩ := ver_end HQ.out.2 HTF.out HB7.out HK7.out
            obtain ⟨c0, c1, c2, c3, c4, c5⟩ := hta.cells
            clear hta
            unfold Tok.row tz at hpo c0 c1 c2 c3 c4 c5
            refine bodyPost_ret (v := .tuple #[.agg #[.int .i64 0, .int .i64 0, .int .i64 0, .int .i64 0, .int .i64 0, .int .i64 0], .int .i64 ((22 : Nat) : Int)]) ?_ rfl hpo
            simp [results, Tryz.results57, go_sem, c0, c1, c2, c3, c4, c5]
          · have HTF : Hid (tverify l b now = (t, 0)) := Lib.hid (by rw [tver_some HTO.out HKO.out, if_neg HNO.out, if_neg (by omega)])
            go_upto_region 11 with fail
            go_wp2_with (with_reducible refine wpList_store_row rfl _ _ rfl rfl rfl HK7.out.row (by kernel_rfl) (by simp [Tok.row]) (by simp [Value.oneCell']) ?_)
            clear c0 c1 c2 c3 c4 c5
            obtain ⟨hpo, hta⟩ := ver_end HQ.out.2 HTF.out HB7.out HK7.out
            obtain ⟨c0, c1, c2, c3, c4, c5⟩ := hta.cells
            clear hta
            unfold Tok.row at hpo c0 c1 c2 c3 c4 c5
            refine bodyPost_ret (v := .tuple #[.agg #[.int .i64 t.trip, .int .i64 t.acct, .int .i64 t.stop, .int .i64 t.iss, .int .i64 t.til, .int .i64 t.ep], .int .i64 ((0 : Nat) : Int)]) ?_ rfl hpo
            simp [results, Tryz.results57, go_sem, c0, c1, c2, c3, c4, c5]
  · have hei : ((er : Int) != 0) = true := by simp; omega
    have HTF : Hid (tverify l b now = (tz, er)) := Lib.hid (tver_e HTO.out he)
    clear he
    go_wp2_with (with_reducible refine wpList_store_row rfl _ _ rfl rfl rfl HK4.out.row (by kernel_rfl) (by simp [Tok.row]) (by simp [Value.oneCell']) ?_)
    obtain ⟨hpo, hta⟩ := ver_end HQ.out.2 HTF.out HB4.out HK4.out
    obtain ⟨c0, c1, c2, c3, c4, c5⟩ := hta.cells
    clear hta
    unfold Tok.row tz at hpo c0 c1 c2 c3 c4 c5
    refine bodyPost_ret (v := .tuple #[.agg #[.int .i64 0, .int .i64 0, .int .i64 0, .int .i64 0, .int .i64 0, .int .i64 0], .int .i64 ((er : Nat) : Int)]) ?_ rfl hpo
    simp [results, Tryz.results57, go_sem, c0, c1, c2, c3, c4, c5]

theorem verify_any (keep : Int) (v : Value) (l : List RK) (y : Value) (b : List UInt8) (now : Int) (w : World) (h : Ks w v l) (hy : Bs w y b) (hl : b.length ≤ 1048576) (hsm : ∀ k ∈ l, k.b.length ≤ 1000000) (hT : Tabbed w) :
    Calls Tryz.prog 57 #[.agg #[.int .i64 keep, v], y, .int .i64 now] w (VerPost l b now w) :=
  verify_anyL keep v l y b now w h hy hl (fun k hk => Nat.le_trans (hsm k hk) (by decide)) hT

end Go.Proofs.YtjnbdeopoohnmaaGreatDoor
/- Layer 10 (token): what is issued opens and verifies; the chapter's example. -/
set_option linter.unusedSimpArgs false
namespace Go.Proofs.YtjnbdeopoohnmaaGreatDoor
open Go.RowKit Go.Sort

theorem topen_issue {t : Tok} (ht : tmay t = true) (k : List UInt8) : topen (fframe 2 (tbody k t)) = (t, ttag k t, 0) := by
  have hwf := tmay_wf ht
  have hbl := tbody_len hwf k
  obtain ⟨⟨h1, z1⟩, ⟨h2, z2⟩, ⟨h3, z3⟩, ⟨h4, z4⟩, ⟨h5, z5⟩, ⟨h6, z6⟩⟩ := (tmay_iff t).1 ht
  have htl := ttag_len k t
  obtain ⟨tg, htg⟩ : ∃ x, ttag k t = x := ⟨_, rfl⟩
  have hc : (tbody k t).drop 0 = vput t.trip.toNat ++ (vput t.acct.toNat ++ (vput t.stop.toNat ++ (vput t.iss.toNat ++ (vput t.til.toNat ++ (vput t.ep.toNat ++ (vput 32 ++ (tg ++ []))))))) := by
    unfold tbody tfields fnum
    rw [htg]
    simp
  obtain ⟨L, hL⟩ : ∃ L, tbody k t = L := ⟨_, rfl⟩
  have hlen : L.length = (vput t.trip.toNat).length + (vput t.acct.toNat).length + (vput t.stop.toNat).length + (vput t.iss.toNat).length + (vput t.til.toNat).length + (vput t.ep.toNat).length + (vput 32).length + tg.length := by
    rw [← hL]
    unfold tbody tfields fnum
    rw [htg]
    simp only [List.length_append]
    omega
  rw [htg] at htl
  rw [hL] at hc hbl ⊢
  rw [htg]
  have e1 := rnum_vput (most := 2147483648) hc (by omega) (by omega)
  have d1 := drop_more hc
  have e2 := rnum_vput (most := 2147483648) d1 (by omega) (by omega)
  have d2 := drop_more d1
  have e3 := rnum_vput (most := 4095) d2 (by omega) (by omega)
  have d3 := drop_more d2
  have e4 := rnum_vput (most := 1099511627776) d3 (by omega) (by omega)
  have d4 := drop_more d3
  have e5 := rnum_vput (most := 1099511627776) d4 (by omega) (by omega)
  have d5 := drop_more d4
  have e6 := rnum_vput (most := 1048576) d5 (by omega) (by omega)
  have d6 := drop_more d5
  have e7 := rnum_vput (most := 32) d6 (by omega) (by omega)
  have d7 := drop_more d6
  have hb : rbytes 32 L (0 + (vput t.trip.toNat).length + (vput t.acct.toNat).length + (vput t.stop.toNat).length + (vput t.iss.toNat).length + (vput t.til.toNat).length + (vput t.ep.toNat).length) 0 = (tg, L.length, 0) := by
    unfold rbytes
    rw [e7]
    simp only [ne_eq, not_true_eq_false, if_false]
    rw [if_neg (by omega), d7]
    rw [List.take_append_of_le_length (by omega), List.take_of_length_le (by omega)]
    simp only [Prod.mk.injEq, true_and, and_true]
    omega
  have hf := fwhole_frame 2 L (by omega)
  have hnum : (⟨(t.trip.toNat : Int), (t.acct.toNat : Int), (t.stop.toNat : Int), (t.iss.toNat : Int), (t.til.toNat : Int), (t.ep.toNat : Int)⟩ : Tok) = t := by
    obtain ⟨a, b, c, d, e, f⟩ := t
    simp only at h1 h2 h3 h4 h5 h6
    simp only [Tok.mk.injEq]
    omega
  rw [topen_r hf e1 e2 e3 e4 e5 e6 hb, hnum, if_neg (by unfold rdone; simp), if_pos ⟨ht, htl⟩]

theorem tver_issue {l : List RK} {t : Tok} (ht : tmay t = true) {k : List UInt8} (hk : kf t.ep l = some k) (now : Int) :
    tverify l (fframe 2 (tbody k t)) now = if now < t.iss ∨ t.til < now then (tz, 22) else (t, 0) := by
  rw [tver_some (topen_issue ht k) hk, if_neg (by simp)]
theorem tver_nokey {l : List RK} {t : Tok} (ht : tmay t = true) {k : List UInt8} (hk : kf t.ep l = none) (now : Int) :
    tverify l (fframe 2 (tbody k t)) now = (tz, 20) := tver_key (topen_issue ht k) hk

theorem issue_ex (k : List UInt8) : (fframe 2 (tbody k ⟨1, 2, 3, 4, 5, 1⟩)).length = 46 := by
  have h1 : vput 1 = [1] := by rw [vput_small (by omega)]; rfl
  have h2 : vput 2 = [2] := by rw [vput_small (by omega)]; rfl
  have h3 : vput 3 = [3] := by rw [vput_small (by omega)]; rfl
  have h4 : vput 4 = [4] := by rw [vput_small (by omega)]; rfl
  have h5 : vput 5 = [5] := by rw [vput_small (by omega)]; rfl
  have h32 : vput 32 = [32] := by rw [vput_small (by omega)]; rfl
  have hl : (tbody k ⟨1, 2, 3, 4, 5, 1⟩).length = 39 := by
    unfold tbody tfields fnum
    simp only [List.length_append, ttag_len]
    rw [show (1 : Int).toNat = 1 from rfl, show (2 : Int).toNat = 2 from rfl, show (3 : Int).toNat = 3 from rfl, show (4 : Int).toNat = 4 from rfl, show (5 : Int).toNat = 5 from rfl, h1, h2, h3, h4, h5, h32]
    rfl
  rw [fframe_len, hl, vput_small (by omega)]
  rfl

end Go.Proofs.YtjnbdeopoohnmaaGreatDoor
