/- Layer 11 (challenge): the walk of the reference's Check. -/
import Derived.Test.YtmhgdddnjnichaaDoorCh4
import Derived.Deep.RegionHeld3
import Derived.Deep.CutBlock
set_option linter.unusedSimpArgs false
namespace Go.Proofs.YtmhgdddnjnichaaDoor
open Go.RowKit Go.Sort

theorem setRow_setCell {w : World} {g t : Nat} {cs0 : Array Value} (h : w.heap[g]? = some (.cells cs0 t (0, 0))) (cs : Array Value) (i : Nat) (a : Value) : (w.setRow g cs).setCell ⟨g, i, none⟩ a = w.setRow g (cs.setIfInBounds i a) := by
  rw [setCell_eq_setRow (w.setRow g cs) g i cs t _ a (setRow_heap w g _ cs t _ h), setRow_setRow]
theorem six_cells (w : World) (g t : Nat) (x0 x1 x2 x3 x4 x5 a0 a1 a2 a3 a4 a5 : Value) (h : w.heap[g]? = some (.cells #[x0, x1, x2, x3, x4, x5] t (0, 0))) :
    (((((w.setCell ⟨g, 0, none⟩ a0).setCell ⟨g, 1, none⟩ a1).setCell ⟨g, 2, none⟩ a2).setCell ⟨g, 3, none⟩ a3).setCell ⟨g, 4, none⟩ a4).setCell ⟨g, 5, none⟩ a5 = w.setRow g #[a0, a1, a2, a3, a4, a5] := by
  rw [setCell_eq_setRow w g 0 _ t _ a0 h, setRow_setCell h, setRow_setCell h, setRow_setCell h, setRow_setCell h, setRow_setCell h]
  rfl
theorem TAt.zcells {w : World} {g : Nat} (h : TAt w g tz) : w.cell? ⟨g, 0, none⟩ = some (.int .i64 0) ∧ w.cell? ⟨g, 1, none⟩ = some (.int .i64 0) ∧ w.cell? ⟨g, 2, none⟩ = some (.int .i64 0) ∧ w.cell? ⟨g, 3, none⟩ = some (.int .i64 0) ∧ w.cell? ⟨g, 4, none⟩ = some (.int .i64 0) ∧ w.cell? ⟨g, 5, none⟩ = some (.int .i64 0) := h.cells
theorem TAt.frees {w : World} {g : Nat} {t : Tok} (h : TAt w g t) : w.frozen? ⟨g, 0, none⟩ = false ∧ w.frozen? ⟨g, 1, none⟩ = false ∧ w.frozen? ⟨g, 2, none⟩ = false ∧ w.frozen? ⟨g, 3, none⟩ = false ∧ w.frozen? ⟨g, 4, none⟩ = false ∧ w.frozen? ⟨g, 5, none⟩ = false :=
  ⟨row_free h.row 0, row_free h.row 1, row_free h.row 2, row_free h.row 3, row_free h.row 4, row_free h.row 5⟩

set_option maxRecDepth 100000 in
set_option maxHeartbeats 6400000 in
theorem vcheck_any (keep : Int) (v : Value) (l : List RK) (y yq ya : Value) (b q a : List UInt8) (now slack : Int) (w : World) (h : Ks w v l) (hy : Bs w y b) (hyq : Bs w yq q) (hya : Bs w ya a) (hl : b.length ≤ 1048576) (hla : a.length ≤ 1048576) (hsm : ∀ k ∈ l, k.b.length ≤ 1000000)
    :
    Calls Tryd.prog 59 #[.agg #[.int .i64 keep, v], y, yq, ya, .int .i64 now, .int .i64 slack] w (CheckPost l b q a now slack w) := by
  obtain ⟨va, vc, hvs⟩ := h.g.shape
  subst hvs
  obtain ⟨n, hn⟩ : ∃ n, l.length = n := ⟨_, rfl⟩
  rw [hn] at h ⊢
  obtain ⟨ba, bc, rfl⟩ := hy.shape
  obtain ⟨qa, qc, rfl⟩ := hyq.shape
  obtain ⟨aa, ac, rfl⟩ := hya.shape
  obtain ⟨bn, hbn⟩ : ∃ n, b.length = n := ⟨_, rfl⟩
  obtain ⟨qn, hqn⟩ : ∃ n, q.length = n := ⟨_, rfl⟩
  obtain ⟨an, han⟩ : ∃ n, a.length = n := ⟨_, rfl⟩
  have HL := Lib.hid hl
  have HLA := Lib.hid hla
  rw [hbn] at hy ⊢
  rw [hqn] at hyq ⊢
  rw [han] at hya ⊢
  have HQN := Lib.hid hqn
  have H := Lib.hid h
  have HY := Lib.hid hy
  have HYQ := Lib.hid hyq
  have HYA := Lib.hid hya
  have HS := Lib.hid hsm
  obtain ⟨w1, hw1⟩ : ∃ W, (w.alloc (.cells #[.int .i64 keep, .slice va n vc] 39)).alloc (.cells #[.int .i64 0, .int .i64 0, .int .i64 0, .int .i64 0, .int .i64 0, .int .i64 0] 57) = W := ⟨_, rfl⟩
  have hb1 : Below w.heap.size w w1 := by rw [← hw1]; exact bel_al (bel_al (Below.refl _ _) _) _
  have hr1 : w1.heap[w.heap.size]? = some (.cells #[.int .i64 keep, .slice va n vc] 39 (0, 0)) := by rw [← hw1, alloc_get, if_neg (by simp), alloc_get, if_pos rfl]
  have hk1 : TAt w1 (w.heap.size + 1) tz := ⟨by rw [← hw1, alloc_get, if_pos (by simp)]; rfl⟩
  have hs1 : w1.heap.size = w.heap.size + 2 := by rw [← hw1]; simp
  obtain ⟨g, hg⟩ : ∃ g, w.heap.size = g := ⟨_, rfl⟩
  obtain ⟨gq, hgq⟩ : ∃ q, w.heap.size + 1 = q := ⟨_, rfl⟩
  rw [hgq] at hk1
  rw [hg] at hr1
  obtain ⟨gp, hgp⟩ : ∃ p, w1.heap.size = p := ⟨_, rfl⟩
  have HG : Hid (w.heap.size = g ∧ g < gq ∧ gq < gp) := by refine ⟨hg, ?_, ?_⟩ <;> omega
  have hb2 : Below w.heap.size w (w1.alloc (.cells #[.int .i64 0, .int .i64 0, .int .i64 0, .int .i64 0, .int .i64 0, .int .i64 0] 57)) := bel_al hb1 _
  have hnb : Below w1.heap.size w1 (w1.alloc (.cells #[.int .i64 0, .int .i64 0, .int .i64 0, .int .i64 0, .int .i64 0, .int .i64 0] 57)) := bel_al (Below.refl _ _) _
  have hp2 : TAt (w1.alloc (.cells #[.int .i64 0, .int .i64 0, .int .i64 0, .int .i64 0, .int .i64 0, .int .i64 0] 57)) w1.heap.size tz := tat_new w1 tz
  rw [hgp] at hp2
  have hr2 := (hnb.block _ (heap_lt hr1)).trans hr1
  have hk2 := hk1.below hnb
  obtain ⟨w2, hw2⟩ : ∃ W, w1.alloc (.cells #[.int .i64 0, .int .i64 0, .int .i64 0, .int .i64 0, .int .i64 0, .int .i64 0] 57) = W := ⟨_, rfl⟩
  rw [hw2] at hb2 hp2 hr2 hk2
  have HB2 := Lib.hid hb2
  have HP2 := Lib.hid hp2
  have HR2 := Lib.hid hr2
  have HK2 := Lib.hid hk2
  have HWW := Lib.hid hw1
  have HW2 := Lib.hid hw2
  have HGG := Lib.hid (And.intro hg (And.intro hgq hgp))
  obtain ⟨t, er, htv⟩ : ∃ t e, tverify l b now = (t, e) := ⟨_, _, rfl⟩
  have HTV := Lib.hid htv
  obtain ⟨c, f, hfw⟩ : ∃ c f, fwhole 6 a = (c, f) := ⟨_, _, rfl⟩
  have HFW := Lib.hid hfw
  clear h hy hyq hya hl hla hsm hn hbn hqn han hw1 hb1 hr1 hk1 hs1 hg hgq hgp hb2 hnb hp2 hr2 hk2 hw2 htv hfw
  go_enter Tryd.func59, Tryd.ntmps59
  go_upto_region 1 with fail
  rw [HWW.out, HGG.out.2.1, HGG.out.1]
  go_upto_region 2 with (with_reducible refine wpList_store_new rfl _ _ rfl rfl rfl (by kernel_rfl) (by simp) (by simp [Value.oneCell']) ?_)
  rw [HGG.out.2.2, HW2.out]
  clear HWW HW2 HGG
  have HGD := Lib.hid (fun X (hX : Below w.heap.size w X) => vmay_any _ q now X (HYQ.out.below hX))
  by_cases hm : cmay q now = true ∧ 0 ≤ slack
  · have HM := Lib.hid hm
    obtain ⟨hm1, hm2⟩ := hm
    rw [hm1] at HGD
    clear hm1
    have hver := uverify_any keep (.slice va n vc) l (.slice ba bn bc) b now w2 (H.out.below HB2.out) (HY.out.below HB2.out) HL.out HS.out
    unfold VerPost at hver
    rw [HTV.out] at hver
    simp only at hver
    unfold Tok.row at hver
    have HVER := Lib.hid hver
    clear hver
    have r0 : w2.cell? ⟨g, 0, none⟩ = some (.int .i64 keep) := cell_of_row w2 _ _ _ _ _ HR2.out
    have r1 : w2.cell? ⟨g, 1, none⟩ = some (.slice va n vc) := cell_of_row w2 _ _ _ _ _ HR2.out
    go_upto_region 5 with (first
      | (go_at_call 56; refine (HGD.out _ HB2.out).mono ?_; rintro e w3 ⟨rfl, rfl⟩)
      | (go_at_call 50; refine HVER.out.mono ?_; rintro e w3 ⟨rfl, hb3⟩; have HB23 := Lib.hid hb3; clear hb3)
      | (with_reducible refine wpList_store_new rfl _ _ rfl rfl rfl (by kernel_rfl) (by simp) (by simp [Value.oneCell']) ?_))
    clear r0 r1 HVER
    have hb4 := bel_al HB23.out (.cells #[.int .i64 t.trip, .int .i64 t.acct, .int .i64 t.stop, .int .i64 t.iss, .int .i64 t.til, .int .i64 t.ep] 57)
    have ht4 := tat_new w3 t
    unfold Tok.row at ht4
    obtain ⟨W4, hW4⟩ : ∃ X, w3.alloc (.cells #[.int .i64 t.trip, .int .i64 t.acct, .int .i64 t.stop, .int .i64 t.iss, .int .i64 t.til, .int .i64 t.ep] 57) = X := ⟨_, rfl⟩
    obtain ⟨gt, hgt⟩ : ∃ p, w3.heap.size = p := ⟨_, rfl⟩
    rw [hW4] at hb4
    rw [hW4, hgt] at ht4
    rw [hW4, hgt]
    have HB4 : Hid (Below w.heap.size w W4) := bel_tr HB2.out hb4
    have HR4 : Hid (W4.heap[g]? = some (.cells #[.int .i64 keep, .slice va n vc] 39 (0, 0))) := (hb4.block g (heap_lt HR2.out)).trans HR2.out
    have HK4 := Lib.hid (HK2.out.below hb4)
    have HP4 := Lib.hid (HP2.out.below hb4)
    have HT4 := Lib.hid ht4
    clear ht4 hW4 hgt hb4 HB23 HR2 HK2 HP2 HB2
    by_cases he : er = 0
    · subst he
      have hwh := rfwhole_any 6 6 rfl (.slice aa an ac) a W4 (HYA.out.below HB4.out) HLA.out
      unfold WholePost at hwh
      rw [HFW.out] at hwh
      simp only at hwh
      have HWH := Lib.hid hwh
      have hlen := fwhole_le 6 a
      rw [HFW.out] at hlen
      have HLN := Lib.hid hlen
      clear hwh hlen
      go_upto_region 8 with (go_at_call 90; refine HWH.out.mono ?_; rintro e w5 ⟨cv, rfl, hcv, hb5⟩; obtain ⟨ca, cc, hcs⟩ := hcv.shape; subst hcs; have HCV := Lib.hid hcv; have HB45 := Lib.hid hb5; have HB5 := Lib.hid (bel_tr HB4.out hb5); clear hcv hb5)
      by_cases hf : f = 0
      · subst hf
        go_upto_region 11 with (go_at_call 91; refine (rread_any _ c _ HCV.out).mono ?_; rintro e w6 ⟨rfl, hr6, hb6⟩; have HB46 := Lib.hid (bel_tr HB45.out hb6); have HRD6 := Lib.hid hr6; clear hr6 hb6)
        obtain ⟨p, hp⟩ : ∃ p, w5.heap.size = p := ⟨_, rfl⟩
        have HP : Hid (W4.heap.size ≤ p) := by have := HB45.out.size; show W4.heap.size ≤ p; omega
        rw [hp] at HRD6 ⊢
        clear hp
        obtain ⟨n1, p1, b1, hv1⟩ : ∃ n p b, rnum 1099511627776 c 0 0 = (n, p, b) := ⟨_, _, _, rfl⟩
        obtain ⟨tg, p2, b2, hv2⟩ : ∃ n p b, rbytes 32 c p1 b1 = (n, p, b) := ⟨_, _, _, rfl⟩
        have hn1 := (rnum_most 1099511627776 c 0 0).1
        rw [hv1] at hn1
        dsimp only at hn1
        have hcl : c.length ≤ 140737488355328 := by have h1 := HLN.out; have h2 := HLA.out; omega
        have C1 := fun w h => rrnumber_rd 1099511627776 (by omega) p (.slice ca c.length cc) c 0 0 w h
        have C2 := fun w h => rrbytes_rd 32 (by omega) p (.slice ca c.length cc) c p1 b1 w h hcl
        unfold RNumPost at C1
        unfold RBytesPost at C2
        rw [hv1] at C1
        rw [hv2] at C2
        simp only at C1 C2
        have H1 := Lib.hid C1
        have H2 := Lib.hid C2
        have HCC := Lib.hid (cck_r HM.out HTV.out HFW.out hv1 hv2)
        clear C1 C2 hv1 hv2 hcl
        go_upto_region 12 with (go_at_call 92; refine (H1.out _ HRD6.out).mono ?_; rintro e w7 ⟨rfl, h7, ho7⟩; have HRD7 := Lib.hid h7; have HO7 := Lib.hid (Only.of_below (F := fun k => k = p) HB46.out |>.trans ho7); clear h7 ho7)
        go_upto_region 13 with (go_at_call 93; refine (H2.out _ HRD7.out).mono ?_; rintro e w8 ⟨tv, rfl, hot, h8, ho8⟩; obtain ⟨ta, tc, hts⟩ := hot.shape; subst hts; have HTVV := Lib.hid hot.bs; have HRD8 := Lib.hid h8; have HO8 := Lib.hid (HO7.out.trans ho8); clear h8 ho8 hot)
        obtain ⟨d, hd⟩ : ∃ d, rdone c p2 b2 = d := ⟨_, rfl⟩
        have hdd := fun X hX => rrdone_any p (.slice ca c.length cc) c p2 b2 X hX
        rw [hd] at hdd HCC
        have HDD := Lib.hid hdd
        have HB8 : Hid (Below W4.heap.size W4 w8) := HO8.out.below (fun k hk => by have := HP.out; omega) (Nat.le_refl _)
        obtain ⟨tm, htm⟩ : ∃ m, tg.length = m := ⟨_, rfl⟩
        rw [htm] at HTVV ⊢
        clear hd hdd htm
        by_cases hd : d = 0
        · subst hd
          go_upto_region 15 with (go_at_call 94; refine (HDD.out _ HRD8.out).mono ?_; rintro e w9 ⟨rfl, hb9⟩; have HB9 := Lib.hid (bel_tr HB8.out hb9); have HTV9 := Lib.hid (HTVV.out.below hb9); clear hb9)
          clear HDD HRD8 HO8 HO7 HRD7 HRD6 HB46 HTVV HB8
          have hnow := (cmay_iff q now).1 HM.out.1
          have hs1 : IntKind.i64.wrap ((n1 : Int) - now) = (n1 : Int) - now := IntWalk.i64_in _ (by omega)
          have hs2 : IntKind.i64.wrap (now - (n1 : Int)) = now - (n1 : Int) := IntWalk.i64_in _ (by omega)
          have HK9 := Lib.hid (HK4.out.below HB9.out)
          have HBW9 := Lib.hid (bel_tr HB4.out HB9.out)
          have HP9 := Lib.hid (HP4.out.below HB9.out)
          have HT9 := Lib.hid (HT4.out.below HB9.out)
          by_cases hfar : slack < (n1 : Int) - now ∨ slack < now - n1
          · have HTF : Hid (ccheck l b q a now slack = (tz, 22)) := Lib.hid (by rw [HCC.out, if_neg (by omega), if_pos hfar])
            obtain ⟨c0, c1, c2, c3, c4, c5⟩ := HP9.out.zcells
            clear HB45 HB5 HCV HR4 HK4 HP4
            by_cases hx : slack < (n1 : Int) - now
            · clear hfar hnow
              go_upto_region 16 with fail
              go_wp2_with (with_reducible refine wpList_store_row rfl _ _ rfl rfl rfl HK9.out.row (by kernel_rfl) (by simp [Tok.row]) (by simp [Value.oneCell']) ?_)
              clear c0 c1 c2 c3 c4 c5
              obtain ⟨hpo, hta⟩ := cck_end (by have := HG.out; omega) HTF.out HBW9.out HK9.out
              obtain ⟨c0, c1, c2, c3, c4, c5⟩ := hta.cells
              clear hta
              unfold Tok.row tz at hpo c0 c1 c2 c3 c4 c5
              refine bodyPost_ret (v := .tuple #[.agg #[.int .i64 0, .int .i64 0, .int .i64 0, .int .i64 0, .int .i64 0, .int .i64 0], .int .i64 ((22 : Nat) : Int)]) ?_ rfl hpo
              simp [results, Tryd.results59, go_sem, c0, c1, c2, c3, c4, c5]
            · have hx2 : slack < now - n1 := by omega
              have hx3 : (n1 : Int) - now ≤ slack := by omega
              clear hfar hnow hx
              go_upto_region 16 with fail
              go_wp2_with (with_reducible refine wpList_store_row rfl _ _ rfl rfl rfl HK9.out.row (by kernel_rfl) (by simp [Tok.row]) (by simp [Value.oneCell']) ?_)
              clear c0 c1 c2 c3 c4 c5
              obtain ⟨hpo, hta⟩ := cck_end (by have := HG.out; omega) HTF.out HBW9.out HK9.out
              obtain ⟨c0, c1, c2, c3, c4, c5⟩ := hta.cells
              clear hta
              unfold Tok.row tz at hpo c0 c1 c2 c3 c4 c5
              refine bodyPost_ret (v := .tuple #[.agg #[.int .i64 0, .int .i64 0, .int .i64 0, .int .i64 0, .int .i64 0, .int .i64 0], .int .i64 ((22 : Nat) : Int)]) ?_ rfl hpo
              simp [results, Tryd.results59, go_sem, c0, c1, c2, c3, c4, c5]
          · have hx2 : now - n1 ≤ slack := by omega
            have hx3 : (n1 : Int) - now ≤ slack := by omega
            have HCC2 : Hid (ccheck l b q a now slack = if (tg == ctag (cdev l b).1 q n1) = false then (tz, 21) else (t, 0)) := Lib.hid (by rw [HCC.out, if_neg (by omega), if_neg hfar])
            have r0 : w9.cell? ⟨g, 0, none⟩ = some (.int .i64 keep) := cell_of_row w9 _ _ _ _ _ ((HB9.out.block g (heap_lt HR4.out)).trans HR4.out)
            have r1 : w9.cell? ⟨g, 1, none⟩ = some (.slice va n vc) := cell_of_row w9 _ _ _ _ _ ((HB9.out.block g (heap_lt HR4.out)).trans HR4.out)
            clear hfar hnow HCC HB45 HB5 HCV HR4 HK4 HP4
            have hdev := vdevice_any keep (.slice va n vc) l (.slice ba bn bc) b w9 (H.out.below HBW9.out) (HY.out.below HBW9.out) HL.out HS.out
            have hdl := cdev_len l b
            unfold DevPost at hdev
            obtain ⟨dk, de, hdk⟩ : ∃ k e, cdev l b = (k, e) := ⟨_, _, rfl⟩
            rw [hdk] at hdev HCC2 hdl
            simp only at hdev HCC2 hdl
            have HDEV := Lib.hid hdev
            have HDL := Lib.hid hdl
            clear hdev hdk hdl
            go_upto_region 18 with (go_at_call 54; refine HDEV.out.mono ?_; rintro e w10 ⟨kv, rfl, hkv, hb10⟩; have HKV := Lib.hid hkv; have HB10 := Lib.hid hb10; clear hkv hb10)
            clear hx2 hx3 hs1 hs2 r0 r1 HDEV
            have HK10 := Lib.hid (HK9.out.below HB10.out)
            have HBW10 := Lib.hid (bel_tr HBW9.out HB10.out)
            have HP10 := Lib.hid (HP9.out.below HB10.out)
            have HT10 := Lib.hid (HT9.out.below HB10.out)
            have HTV10 := Lib.hid (HTV9.out.below HB10.out)
            have HN1 : Hid (W64 (n1 : Int)) := by show W64 _; unfold W64; omega
            obtain ⟨bs, hbs⟩ : ∃ x, (tg == ctag dk q n1) = x := ⟨_, rfl⟩
            have HBS := Lib.hid hbs
            have HQ16 : Hid (q.length = 16) := ((cmay_iff q now).1 HM.out.1).1
            have TD : Hid (∀ X, Below w10.heap.size w10 X → Calls Tryd.prog 97 #[kv, .slice qa qn qc, .int .i64 (n1 : Int)] X fun e w' => ∃ v, e = .returned v ∧ Ob w' X.heap.size 5 v (ctag dk q n1) ∧ Below X.heap.size X w') := fun X hX =>
              vtag_any _ _ dk q (n1 : Int) HN1.out X (HKV.out.below hX) (HYQ.out.below (bel_tr HBW10.out hX)) (by have := HDL.out; omega) (by have := HQ16.out; omega)
            have TSM : Hid (∀ X (a : Value), Below w10.heap.size w10 X → Bs X a (ctag dk q n1) → Calls Tryd.prog 17 #[a, .slice ta tm tc] X fun e w' => e = .returned (.bool bs) ∧ Below X.heap.size X w') := fun X a hX ha => by
              have := same_any a _ (ctag dk q n1) tg X ha (HTV10.out.below hX)
              rw [BEq.comm, hbs] at this
              exact this
            clear hbs
            rcases bs with _ | _
            · have HTF : Hid (ccheck l b q a now slack = (tz, 21)) := Lib.hid (by rw [HCC2.out, if_pos HBS.out])
              go_upto_region 19 with (first
                | (go_at_call 97; refine (TD.out _ (Below.refl _ _)).mono ?_; rintro e w12 ⟨v12, rfl, ho12, hb12⟩; have HO12 := Lib.hid ho12; have HB12 := Lib.hid hb12; clear ho12 hb12)
                | (go_at_call 17; refine (TSM.out _ _ HB12.out HO12.out.bs).mono ?_; rintro e w13 ⟨rfl, hb13⟩; have h13 := bel_tr HB12.out hb13; have HB13 := Lib.hid (bel_tr HBW10.out h13); have HK13 := Lib.hid (HK10.out.below h13); have HP13 := Lib.hid (HP10.out.below h13); clear hb13 h13))
              obtain ⟨c0, c1, c2, c3, c4, c5⟩ := HP13.out.zcells
              go_wp2_with (with_reducible refine wpList_store_row rfl _ _ rfl rfl rfl HK13.out.row (by kernel_rfl) (by simp [Tok.row]) (by simp [Value.oneCell']) ?_)
              clear c0 c1 c2 c3 c4 c5
              obtain ⟨hpo, hta⟩ := cck_end (by have := HG.out; omega) HTF.out HB13.out HK13.out
              obtain ⟨c0, c1, c2, c3, c4, c5⟩ := hta.cells
              clear hta
              unfold Tok.row tz at hpo c0 c1 c2 c3 c4 c5
              refine bodyPost_ret (v := .tuple #[.agg #[.int .i64 0, .int .i64 0, .int .i64 0, .int .i64 0, .int .i64 0, .int .i64 0], .int .i64 ((21 : Nat) : Int)]) ?_ rfl hpo
              simp [results, Tryd.results59, go_sem, c0, c1, c2, c3, c4, c5]
            · have HTF : Hid (ccheck l b q a now slack = (t, 0)) := Lib.hid (by rw [HCC2.out, if_neg (by rw [HBS.out]; simp)])
              go_upto_region 20 with (first
                | (go_at_call 97; refine (TD.out _ (Below.refl _ _)).mono ?_; rintro e w12 ⟨v12, rfl, ho12, hb12⟩; have HO12 := Lib.hid ho12; have HB12 := Lib.hid hb12; clear ho12 hb12)
                | (go_at_call 17; refine (TSM.out _ _ HB12.out HO12.out.bs).mono ?_; rintro e w13 ⟨rfl, hb13⟩; have h13 := bel_tr HB12.out hb13; have HB13 := Lib.hid (bel_tr HBW10.out h13); have HK13 := Lib.hid (HK10.out.below h13); have HT13 := Lib.hid (HT10.out.below h13); clear hb13 h13))
              obtain ⟨c0, c1, c2, c3, c4, c5⟩ := HT13.out.cells
              go_wp2_with (with_reducible refine wpList_store_row rfl _ _ rfl rfl rfl HK13.out.row (by kernel_rfl) (by simp [Tok.row]) (by simp [Value.oneCell']) ?_)
              clear c0 c1 c2 c3 c4 c5
              obtain ⟨hpo, hta⟩ := cck_end (by have := HG.out; omega) HTF.out HB13.out HK13.out
              obtain ⟨c0, c1, c2, c3, c4, c5⟩ := hta.cells
              clear hta
              unfold Tok.row at hpo c0 c1 c2 c3 c4 c5
              refine bodyPost_ret (v := .tuple #[.agg #[.int .i64 t.trip, .int .i64 t.acct, .int .i64 t.stop, .int .i64 t.iss, .int .i64 t.til, .int .i64 t.ep], .int .i64 ((0 : Nat) : Int)]) ?_ rfl hpo
              simp [results, Tryd.results59, go_sem, c0, c1, c2, c3, c4, c5]
        · have hdi : ((d : Int) != 0) = true := by simp; omega
          have HTF : Hid (ccheck l b q a now slack = (tz, d)) := Lib.hid (by rw [HCC.out, if_pos hd])
          clear hd
          go_upto_region 14 with (go_at_call 94; refine (HDD.out _ HRD8.out).mono ?_; rintro e w9 ⟨rfl, hb9⟩; have HRD9 := Lib.hid (HRD8.out.below hb9); have HB9 := Lib.hid (bel_tr HB8.out hb9); clear hb9)
          have HPX : Hid (∀ X, Below W4.heap.size W4 X → X.cell? ⟨gp, 0, none⟩ = some (.int .i64 0) ∧ X.cell? ⟨gp, 1, none⟩ = some (.int .i64 0) ∧ X.cell? ⟨gp, 2, none⟩ = some (.int .i64 0) ∧ X.cell? ⟨gp, 3, none⟩ = some (.int .i64 0) ∧ X.cell? ⟨gp, 4, none⟩ = some (.int .i64 0) ∧ X.cell? ⟨gp, 5, none⟩ = some (.int .i64 0)) := fun X hX => (HP4.out.below hX).zcells
          have HBD : Hid (Below W4.heap.size W4 w9.drew) := bel_dr HB9.out
          have K0 := HPX.out _ HBD.out
          have KS : Hid (∀ X (u0 u1 u2 u3 u4 u5 : Value), Below W4.heap.size W4 X → ((((((X.setCell ⟨gq, 0, none⟩ u0).setCell ⟨gq, 1, none⟩ u1).setCell ⟨gq, 2, none⟩ u2).setCell ⟨gq, 3, none⟩ u3).setCell ⟨gq, 4, none⟩ u4).setCell ⟨gq, 5, none⟩ u5).cell? ⟨gp, 0, none⟩ = some (.int .i64 0) ∧ ((((((X.setCell ⟨gq, 0, none⟩ u0).setCell ⟨gq, 1, none⟩ u1).setCell ⟨gq, 2, none⟩ u2).setCell ⟨gq, 3, none⟩ u3).setCell ⟨gq, 4, none⟩ u4).setCell ⟨gq, 5, none⟩ u5).cell? ⟨gp, 1, none⟩ = some (.int .i64 0) ∧ ((((((X.setCell ⟨gq, 0, none⟩ u0).setCell ⟨gq, 1, none⟩ u1).setCell ⟨gq, 2, none⟩ u2).setCell ⟨gq, 3, none⟩ u3).setCell ⟨gq, 4, none⟩ u4).setCell ⟨gq, 5, none⟩ u5).cell? ⟨gp, 2, none⟩ = some (.int .i64 0) ∧ ((((((X.setCell ⟨gq, 0, none⟩ u0).setCell ⟨gq, 1, none⟩ u1).setCell ⟨gq, 2, none⟩ u2).setCell ⟨gq, 3, none⟩ u3).setCell ⟨gq, 4, none⟩ u4).setCell ⟨gq, 5, none⟩ u5).cell? ⟨gp, 3, none⟩ = some (.int .i64 0) ∧ ((((((X.setCell ⟨gq, 0, none⟩ u0).setCell ⟨gq, 1, none⟩ u1).setCell ⟨gq, 2, none⟩ u2).setCell ⟨gq, 3, none⟩ u3).setCell ⟨gq, 4, none⟩ u4).setCell ⟨gq, 5, none⟩ u5).cell? ⟨gp, 4, none⟩ = some (.int .i64 0) ∧ ((((((X.setCell ⟨gq, 0, none⟩ u0).setCell ⟨gq, 1, none⟩ u1).setCell ⟨gq, 2, none⟩ u2).setCell ⟨gq, 3, none⟩ u3).setCell ⟨gq, 4, none⟩ u4).setCell ⟨gq, 5, none⟩ u5).cell? ⟨gp, 5, none⟩ = some (.int .i64 0)) := fun X u0 u1 u2 u3 u4 u5 hX => by
            have hh : Only (fun k => k = gq) X ((((((X.setCell ⟨gq, 0, none⟩ u0).setCell ⟨gq, 1, none⟩ u1).setCell ⟨gq, 2, none⟩ u2).setCell ⟨gq, 3, none⟩ u3).setCell ⟨gq, 4, none⟩ u4).setCell ⟨gq, 5, none⟩ u5) := (((((set_only X gq 0 u0).trans (set_only _ gq 1 u1)).trans (set_only _ gq 2 u2)).trans (set_only _ gq 3 u3)).trans (set_only _ gq 4 u4)).trans (set_only _ gq 5 u5)
            have hp := HP4.out.below hX
            have hr : ((((((X.setCell ⟨gq, 0, none⟩ u0).setCell ⟨gq, 1, none⟩ u1).setCell ⟨gq, 2, none⟩ u2).setCell ⟨gq, 3, none⟩ u3).setCell ⟨gq, 4, none⟩ u4).setCell ⟨gq, 5, none⟩ u5).heap[gp]? = some (.cells tz.row 57 (0, 0)) := (hh.block gp (heap_lt hp.row) (by have := HG.out; omega)).trans hp.row
            exact (TAt.mk hr).zcells
          clear HRD8 HO8 HO7 HRD7 HRD6 HB46 HTVV HB8
          go_region_held3 (fun X => X.cell? ⟨gp, 0, none⟩ = some (.int .i64 0) ∧ X.cell? ⟨gp, 1, none⟩ = some (.int .i64 0) ∧ X.cell? ⟨gp, 2, none⟩ = some (.int .i64 0) ∧ X.cell? ⟨gp, 3, none⟩ = some (.int .i64 0) ∧ X.cell? ⟨gp, 4, none⟩ = some (.int .i64 0) ∧ X.cell? ⟨gp, 5, none⟩ = some (.int .i64 0))
            (first | with_reducible exact K0 | with_reducible exact HPX.out _ HB10.out | with_reducible exact KS.out _ _ _ _ _ _ _ HB10.out)
            (first
              | (go_at_call 94; refine (HDD.out _ (HRD9.out.below (Below.refl _ _).drew)).mono ?_; rintro e w10 ⟨rfl, hb10⟩; have HB10 := Lib.hid (bel_tr HBD.out hb10); have HK10 := Lib.hid (HK4.out.below HB10.out); obtain ⟨y0, y1, y2, y3, y4, y5⟩ := HK10.out.frees; obtain ⟨z0, z1, z2, z3, z4, z5⟩ := HK10.out.zcells))
          all_goals
            rw [six_cells w10 gq 57 (.int .i64 0) (.int .i64 0) (.int .i64 0) (.int .i64 0) (.int .i64 0) (.int .i64 0) _ _ _ _ _ _ HK10.out.row]
            clear z0 z1 z2 z3 z4 z5 y0 y1 y2 y3 y4 y5 K0
            go_wp2
            obtain ⟨hpo, hta⟩ := cck_end (by have := HG.out; omega) HTF.out (bel_tr HB4.out HB10.out) HK10.out
            obtain ⟨c0, c1, c2, c3, c4, c5⟩ := hta.cells
            clear hta
            unfold Tok.row tz at hpo c0 c1 c2 c3 c4 c5
            refine bodyPost_ret (v := .tuple #[.agg #[.int .i64 0, .int .i64 0, .int .i64 0, .int .i64 0, .int .i64 0, .int .i64 0], .int .i64 ((d : Nat) : Int)]) ?_ rfl hpo
            simp [results, Tryd.results59, go_sem, c0, c1, c2, c3, c4, c5]
      · have hfi : ((f : Int) != 0) = true := by simp; omega
        have HTF : Hid (ccheck l b q a now slack = (tz, f)) := Lib.hid (cck_f HM.out HTV.out HFW.out hf)
        have HK5 := Lib.hid (HK4.out.below HB45.out)
        obtain ⟨c0, c1, c2, c3, c4, c5⟩ := (HP4.out.below HB45.out).zcells
        clear hf
        go_wp2_with (with_reducible refine wpList_store_row rfl _ _ rfl rfl rfl HK5.out.row (by kernel_rfl) (by simp [Tok.row]) (by simp [Value.oneCell']) ?_)
        clear c0 c1 c2 c3 c4 c5
        obtain ⟨hpo, hta⟩ := cck_end (by have := HG.out; omega) HTF.out HB5.out HK5.out
        obtain ⟨c0, c1, c2, c3, c4, c5⟩ := hta.cells
        clear hta
        unfold Tok.row tz at hpo c0 c1 c2 c3 c4 c5
        refine bodyPost_ret (v := .tuple #[.agg #[.int .i64 0, .int .i64 0, .int .i64 0, .int .i64 0, .int .i64 0, .int .i64 0], .int .i64 ((f : Nat) : Int)]) ?_ rfl hpo
        simp [results, Tryd.results59, go_sem, c0, c1, c2, c3, c4, c5]
    · have hei : ((er : Int) != 0) = true := by simp; omega
      have HTF : Hid (ccheck l b q a now slack = (tz, er)) := Lib.hid (cck_v HM.out HTV.out he)
      obtain ⟨c0, c1, c2, c3, c4, c5⟩ := HP4.out.zcells
      clear he
      go_wp2_with (with_reducible refine wpList_store_row rfl _ _ rfl rfl rfl HK4.out.row (by kernel_rfl) (by simp [Tok.row]) (by simp [Value.oneCell']) ?_)
      clear c0 c1 c2 c3 c4 c5
      obtain ⟨hpo, hta⟩ := cck_end (by have := HG.out; omega) HTF.out HB4.out HK4.out
      obtain ⟨c0, c1, c2, c3, c4, c5⟩ := hta.cells
      clear hta
      unfold Tok.row tz at hpo c0 c1 c2 c3 c4 c5
      refine bodyPost_ret (v := .tuple #[.agg #[.int .i64 0, .int .i64 0, .int .i64 0, .int .i64 0, .int .i64 0, .int .i64 0], .int .i64 ((er : Nat) : Int)]) ?_ rfl hpo
      simp [results, Tryd.results59, go_sem, c0, c1, c2, c3, c4, c5]
  · have HTF : Hid (ccheck l b q a now slack = (tz, 2)) := Lib.hid (cck_bad hm)
    obtain ⟨c0, c1, c2, c3, c4, c5⟩ := HP2.out.zcells
    rcases hmb : cmay q now with _ | _
    · rw [hmb] at HGD
      clear hmb hm
      go_upto_region 3 with (go_at_call 56; refine (HGD.out _ HB2.out).mono ?_; rintro e w3 ⟨rfl, rfl⟩)
      go_wp2_with (with_reducible refine wpList_store_row rfl _ _ rfl rfl rfl HK2.out.row (by kernel_rfl) (by simp [Tok.row]) (by simp [Value.oneCell']) ?_)
      clear c0 c1 c2 c3 c4 c5
      obtain ⟨hpo, hta⟩ := cck_end (by have := HG.out; omega) HTF.out HB2.out HK2.out
      obtain ⟨c0, c1, c2, c3, c4, c5⟩ := hta.cells
      clear hta
      unfold Tok.row tz at hpo c0 c1 c2 c3 c4 c5
      refine bodyPost_ret (v := .tuple #[.agg #[.int .i64 0, .int .i64 0, .int .i64 0, .int .i64 0, .int .i64 0, .int .i64 0], .int .i64 ((2 : Nat) : Int)]) ?_ rfl hpo
      simp [results, Tryd.results59, go_sem, c0, c1, c2, c3, c4, c5]
    · have hneg : slack < 0 := by
        rw [hmb] at hm
        simp at hm
        exact hm
      rw [hmb] at HGD
      clear hmb hm
      go_upto_region 3 with (go_at_call 56; refine (HGD.out _ HB2.out).mono ?_; rintro e w3 ⟨rfl, rfl⟩)
      go_wp2_with (with_reducible refine wpList_store_row rfl _ _ rfl rfl rfl HK2.out.row (by kernel_rfl) (by simp [Tok.row]) (by simp [Value.oneCell']) ?_)
      clear c0 c1 c2 c3 c4 c5
      obtain ⟨hpo, hta⟩ := cck_end (by have := HG.out; omega) HTF.out HB2.out HK2.out
      obtain ⟨c0, c1, c2, c3, c4, c5⟩ := hta.cells
      clear hta
      unfold Tok.row tz at hpo c0 c1 c2 c3 c4 c5
      refine bodyPost_ret (v := .tuple #[.agg #[.int .i64 0, .int .i64 0, .int .i64 0, .int .i64 0, .int .i64 0, .int .i64 0], .int .i64 ((2 : Nat) : Int)]) ?_ rfl hpo
      simp [results, Tryd.results59, go_sem, c0, c1, c2, c3, c4, c5]

end Go.Proofs.YtmhgdddnjnichaaDoor
