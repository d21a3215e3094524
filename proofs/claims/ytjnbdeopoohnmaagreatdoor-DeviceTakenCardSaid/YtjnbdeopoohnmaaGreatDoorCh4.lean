/- Layer 11 (challenge): Check, plain; the walk of challenge.Check. -/
import Derived.Test.YtjnbdeopoohnmaaGreatDoorCh3
import Derived.Deep.RegionHeld3
import Derived.Deep.CutBlock
set_option linter.unusedSimpArgs false
namespace Go.Proofs.YtjnbdeopoohnmaaGreatDoor
open Go.RowKit Go.Sort

def ccheck (l : List RK) (b q a : List UInt8) (now slack : Int) : Tok × Nat :=
  if cmay q now = true ∧ 0 ≤ slack then
    match tverify l b now with
    | (t, e) => if e ≠ 0 then (tz, e) else
      match fwhole 6 a with
      | (c, f) => if f ≠ 0 then (tz, f) else
        match rnum 1099511627776 c 0 0 with
        | (n, p1, b1) => match rbytes 32 c p1 b1 with
          | (tg, p2, b2) => if rdone c p2 b2 ≠ 0 then (tz, rdone c p2 b2) else
            if slack < (n : Int) - now ∨ slack < now - n then (tz, 22) else
            if (tg == ctag (cdev l b).1 q n) = false then (tz, 21) else (t, 0)
  else (tz, 2)
section
variable {l : List RK} {b q a c tg : List UInt8} {now slack : Int} {t : Tok} {e f n p1 b1 p2 b2 : Nat}
theorem cck_bad (h : ¬ (cmay q now = true ∧ 0 ≤ slack)) : ccheck l b q a now slack = (tz, 2) := by unfold ccheck; rw [if_neg h]
theorem cck_v (h : cmay q now = true ∧ 0 ≤ slack) (hv : tverify l b now = (t, e)) (he : e ≠ 0) : ccheck l b q a now slack = (tz, e) := by
  unfold ccheck; rw [if_pos h, hv]; dsimp only; rw [if_pos he]
theorem cck_f (h : cmay q now = true ∧ 0 ≤ slack) (hv : tverify l b now = (t, 0)) (hf : fwhole 6 a = (c, f)) (he : f ≠ 0) : ccheck l b q a now slack = (tz, f) := by
  unfold ccheck; rw [if_pos h, hv]; dsimp only; rw [if_neg (by omega), hf]; dsimp only; rw [if_pos he]
theorem cck_r (h : cmay q now = true ∧ 0 ≤ slack) (hv : tverify l b now = (t, 0)) (hf : fwhole 6 a = (c, 0)) (h1 : rnum 1099511627776 c 0 0 = (n, p1, b1)) (h2 : rbytes 32 c p1 b1 = (tg, p2, b2)) :
    ccheck l b q a now slack = if rdone c p2 b2 ≠ 0 then (tz, rdone c p2 b2) else
            if slack < (n : Int) - now ∨ slack < now - n then (tz, 22) else
            if (tg == ctag (cdev l b).1 q n) = false then (tz, 21) else (t, 0) := by
  unfold ccheck; rw [if_pos h, hv]; dsimp only; rw [if_neg (by omega), hf]; dsimp only; rw [if_neg (by omega), h1]; dsimp only; rw [h2]
end
def CheckPost (l : List RK) (b q a : List UInt8) (now slack : Int) (w : World) (e : Ending) (w' : World) : Prop :=
  e = .returned (.tuple #[.agg (ccheck l b q a now slack).1.row, .int .i64 ((ccheck l b q a now slack).2 : Nat)]) ∧ Below w.heap.size w w'

theorem cck_end {w W : World} {l : List RK} {b q a : List UInt8} {now slack : Int} {t t0 : Tok} {e g : Nat} (hq : w.heap.size ≤ g) (ht : ccheck l b q a now slack = (t, e)) (hb : Below w.heap.size w W) (hg : TAt W g t0) :
    CheckPost l b q a now slack w (.returned (.tuple #[.agg t.row, .int .i64 (e : Int)])) (W.setRow g t.row) ∧ TAt (W.setRow g t.row) g t := by
  have h1 : Only (fun i => i = g) W (W.setRow g t.row) := setRow_only _ _ _
  refine ⟨⟨by rw [ht], hb.trans (h1.below (fun k hk => by omega) hb.size)⟩, ⟨setRow_heap W g _ t.row _ _ hg.row⟩⟩

/-- at the label 'wrong': the fault is e -/
def WrongJ (l : List RK) (b q a : List UInt8) (now slack : Int) (w : World) (g : Nat) (a' : Act) (W : World) : Prop :=
  ∃ (e : Nat) (u0 u1 u2 u3 u4 u5 u6 u7 u8 u9 u10 u11 u13 u14 u15 u16 u17 u18 u19 u21 u22 u23 u24 u25 u26 u27 u28 u29 u30 u31 u32 u33 u34 u35 u36 u37 u38 u39 u40 u41 u42 u43 u44 u45 u46 u47 u48 u49 u50 u51 u52 u53 u54 u55 u56 u57 u58 u59 u60 u61 u62 u63 u64 u65 u66 u67 u68 u69 u70 u71 u72 u73 u74 u75 u76 u77 u78 u79 u80 u81 : Value), a' = { tmps := List.toArray ((u0) :: (u1) :: (u2) :: (u3) :: (u4) :: (u5) :: (u6) :: (u7) :: (u8) :: (u9) :: (u10) :: (u11) :: (.pointer (some ⟨g, 0, none⟩)) :: (u13) :: (u14) :: (u15) :: (u16) :: (u17) :: (u18) :: (u19) :: (.int .i64 (e : Int)) :: (u21) :: (u22) :: (u23) :: (u24) :: (u25) :: (u26) :: (u27) :: (u28) :: (u29) :: (u30) :: (u31) :: (u32) :: (u33) :: (u34) :: (u35) :: (u36) :: (u37) :: (u38) :: (u39) :: (u40) :: (u41) :: (u42) :: (u43) :: (u44) :: (u45) :: (u46) :: (u47) :: (u48) :: (u49) :: (u50) :: (u51) :: (u52) :: (u53) :: (u54) :: (u55) :: (u56) :: (u57) :: (u58) :: (u59) :: (u60) :: (u61) :: (u62) :: (u63) :: (u64) :: (u65) :: (u66) :: (u67) :: (u68) :: (u69) :: (u70) :: (u71) :: (u72) :: (u73) :: (u74) :: (u75) :: (u76) :: (u77) :: (u78) :: (u79) :: (u80) :: (u81) :: []), defers := [] } ∧ Hid (ccheck l b q a now slack = (tz, e)) ∧ Hid (Below w.heap.size w W) ∧ Hid (TAt W g tz)

set_option maxRecDepth 100000 in
set_option maxHeartbeats 6400000 in
theorem chcheck_anyL (keep : Int) (v : Value) (l : List RK) (y yq ya : Value) (b q a : List UInt8) (now slack : Int) (w : World) (h : Ks w v l) (hy : Bs w y b) (hyq : Bs w yq q) (hya : Bs w ya a) (hl : b.length ≤ 1048576) (hla : a.length ≤ 1048576) (hsm : ∀ k ∈ l, k.b.length ≤ 140737488351232)
    (_hw : W64 slack) (hT : Tabbed w) :
    Calls Tryz.prog 24 #[.agg #[.int .i64 keep, v], y, yq, ya, .int .i64 now, .int .i64 slack] w (CheckPost l b q a now slack w) := by
  obtain ⟨va, vc, hvs⟩ := h.g.shape
  subst hvs
  obtain ⟨n, hn⟩ : ∃ n, l.length = n := ⟨_, rfl⟩
  rw [hn] at h ⊢
  obtain ⟨ba, bc, rfl⟩ := hy.shape
  obtain ⟨qa, qc, rfl⟩ := hyq.shape
  obtain ⟨aa, ac, rfl⟩ := hya.shape
  obtain ⟨bn, hbn⟩ : ∃ n, b.length = n := ⟨_, rfl⟩
  obtain ⟨qn, hqn⟩ : ∃ n, q.length = n := ⟨_, rfl⟩
  obtain ⟨an, han⟩ : ∃ n, a.length = n := ⟨_, rfl⟩
  have HL := Lib.hid hl
  have HLA := Lib.hid hla
  rw [hbn] at hy ⊢
  rw [hqn] at hyq ⊢
  rw [han] at hya ⊢
  have HQN := Lib.hid hqn
  have H := Lib.hid h
  have HY := Lib.hid hy
  have HYQ := Lib.hid hyq
  have HYA := Lib.hid hya
  have HS := Lib.hid hsm
  have HT := Lib.hid hT
  obtain ⟨w1, hw1⟩ : ∃ W, (w.alloc (.cells #[.int .i64 keep, .slice va n vc] 24)).alloc (.cells #[.int .i64 0, .int .i64 0, .int .i64 0, .int .i64 0, .int .i64 0, .int .i64 0] 62) = W := ⟨_, rfl⟩
  have hb1 : Below w.heap.size w w1 := by rw [← hw1]; exact bel_al (bel_al (Below.refl _ _) _) _
  have hr1 : w1.heap[w.heap.size]? = some (.cells #[.int .i64 keep, .slice va n vc] 24 (0, 0)) := by rw [← hw1, alloc_get, if_neg (by simp), alloc_get, if_pos rfl]
  have hk1 : TAt w1 (w.heap.size + 1) tz := ⟨by rw [← hw1, alloc_get, if_pos (by simp)]; rfl⟩
  have hs1 : w1.heap.size = w.heap.size + 2 := by rw [← hw1]; simp
  obtain ⟨g, hg⟩ : ∃ g, w.heap.size = g := ⟨_, rfl⟩
  obtain ⟨gq, hgq⟩ : ∃ q, w.heap.size + 1 = q := ⟨_, rfl⟩
  rw [hgq] at hk1
  rw [hg] at hr1
  obtain ⟨gp, hgp⟩ : ∃ p, w1.heap.size = p := ⟨_, rfl⟩
  have HG : Hid (w.heap.size = g ∧ g < gq ∧ gq < gp) := by refine ⟨hg, ?_, ?_⟩ <;> omega
  have hb2 : Below w.heap.size w (w1.alloc (.cells #[.int .i64 0, .int .i64 0, .int .i64 0, .int .i64 0, .int .i64 0, .int .i64 0] 62)) := bel_al hb1 _
  have hnb : Below w1.heap.size w1 (w1.alloc (.cells #[.int .i64 0, .int .i64 0, .int .i64 0, .int .i64 0, .int .i64 0, .int .i64 0] 62)) := bel_al (Below.refl _ _) _
  have hp2 : TAt (w1.alloc (.cells #[.int .i64 0, .int .i64 0, .int .i64 0, .int .i64 0, .int .i64 0, .int .i64 0] 62)) w1.heap.size tz := tat_new w1 tz
  rw [hgp] at hp2
  have hr2 := (hnb.block _ (heap_lt hr1)).trans hr1
  have hk2 := hk1.below hnb
  obtain ⟨w2, hw2⟩ : ∃ W, w1.alloc (.cells #[.int .i64 0, .int .i64 0, .int .i64 0, .int .i64 0, .int .i64 0, .int .i64 0] 62) = W := ⟨_, rfl⟩
  rw [hw2] at hb2 hp2 hr2 hk2
  have HB2 := Lib.hid hb2
  have HP2 := Lib.hid hp2
  have HR2 := Lib.hid hr2
  have HK2 := Lib.hid hk2
  have HWW := Lib.hid hw1
  have HW2 := Lib.hid hw2
  have HGG := Lib.hid (And.intro hg (And.intro hgq hgp))
  obtain ⟨t, er, htv⟩ : ∃ t e, tverify l b now = (t, e) := ⟨_, _, rfl⟩
  have HTV := Lib.hid htv
  obtain ⟨c, f, hfw⟩ : ∃ c f, fwhole 6 a = (c, f) := ⟨_, _, rfl⟩
  have HFW := Lib.hid hfw
  clear h hy hyq hya hl hla hsm hT hn hbn hqn han hw1 hb1 hr1 hk1 hs1 hg hgq hgp hb2 hnb hp2 hr2 hk2 hw2 htv hfw
  go_enter Tryz.func24, Tryz.ntmps24
  go_wp2
  rw [HWW.out, HGG.out.2.1, HGG.out.1]
  refine wp_scope_jumps2 0 (WrongJ l b q a now slack w gq) (fun _ _ => 0) rfl ?_ ?_
  · intro hp
    clear hp
    go_upto_region 6 with fail
    rw [HGG.out.2.2, HW2.out]
    clear HWW HW2 HGG
    have HGD := Lib.hid (fun X (hX : Below w.heap.size w X) => chgood_any _ q now X (HYQ.out.below hX))
    by_cases hm : cmay q now = true ∧ 0 ≤ slack
    · have HM := Lib.hid hm
      obtain ⟨hm1, hm2⟩ := hm
      rw [hm1] at HGD
      clear hm1
      have hver := verify_anyL keep (.slice va n vc) l (.slice ba bn bc) b now w2 (H.out.below HB2.out) (HY.out.below HB2.out) HL.out HS.out (HT.out.below HB2.out)
      unfold VerPost at hver
      rw [HTV.out] at hver
      simp only at hver
      unfold Tok.row at hver
      have HVER := Lib.hid hver
      clear hver
      have r0 : w2.cell? ⟨g, 0, none⟩ = some (.int .i64 keep) := cell_of_row w2 _ _ _ _ _ HR2.out
      have r1 : w2.cell? ⟨g, 1, none⟩ = some (.slice va n vc) := cell_of_row w2 _ _ _ _ _ HR2.out
      go_upto_region 8 with (first
        | (go_at_call 56; refine (HGD.out _ HB2.out).mono ?_; rintro e w3 ⟨rfl, rfl⟩)
        | (go_at_call 57; refine HVER.out.mono ?_; rintro e w3 ⟨rfl, hb3⟩; have HB23 := Lib.hid hb3; have HB3 := Lib.hid (bel_tr HB2.out hb3); have HP3 := Lib.hid (HP2.out.below hb3); clear hb3)
        | (with_reducible refine wpList_store_row rfl _ _ rfl rfl rfl HP3.out.row (by kernel_rfl) (by simp [Tok.row]) (by simp [Value.oneCell']) ?_))
      have hset := setRow_only w3 gp #[.int .i64 t.trip, .int .i64 t.acct, .int .i64 t.stop, .int .i64 t.iss, .int .i64 t.til, .int .i64 t.ep]
      have hp4 : TAt (w3.setRow gp #[.int .i64 t.trip, .int .i64 t.acct, .int .i64 t.stop, .int .i64 t.iss, .int .i64 t.til, .int .i64 t.ep]) gp t := ⟨setRow_heap w3 gp _ _ _ _ HP3.out.row⟩
      obtain ⟨W4, hW4⟩ : ∃ X, w3.setRow gp #[.int .i64 t.trip, .int .i64 t.acct, .int .i64 t.stop, .int .i64 t.iss, .int .i64 t.til, .int .i64 t.ep] = X := ⟨_, rfl⟩
      rw [hW4] at hset hp4 ⊢
      have HB4 : Hid (Below w.heap.size w W4) := HB3.out.trans (hset.below (fun k hk => by have := HG.out; omega) HB3.out.size)
      have hr3 := (HB23.out.block g (heap_lt HR2.out)).trans HR2.out
      have HR4 : Hid (W4.heap[g]? = some (.cells #[.int .i64 keep, .slice va n vc] 24 (0, 0))) := (hset.block g (heap_lt hr3) (by have := HG.out; omega)).trans hr3
      have hk3 := HK2.out.below HB23.out
      have HK4 : Hid (TAt W4 gq tz) := ⟨(hset.block gq (heap_lt hk3.row) (by have := HG.out; omega)).trans hk3.row⟩
      have HP4 := Lib.hid hp4
      clear hset hp4 hW4 hr3 hk3 r0 r1 HB23 HB3 HP3 HR2 HK2 HP2 HB2 HVER
      by_cases he : er = 0
      · subst he
        have hwh := fwhole_any 6 6 rfl (.slice aa an ac) a W4 (HYA.out.below HB4.out) HLA.out
        unfold WholePost at hwh
        rw [HFW.out] at hwh
        simp only at hwh
        have HWH := Lib.hid hwh
        have hlen := fwhole_le 6 a
        rw [HFW.out] at hlen
        have HLN := Lib.hid hlen
        clear hwh hlen
        go_upto_region 10 with (go_at_call 42; refine HWH.out.mono ?_; rintro e w5 ⟨cv, rfl, hcv, hb5⟩; obtain ⟨ca, cc, hcs⟩ := hcv.shape; subst hcs; have HCV := Lib.hid hcv; have HB45 := Lib.hid hb5; have HB5 := Lib.hid (bel_tr HB4.out hb5); clear hcv hb5)
        by_cases hf : f = 0
        · subst hf
          go_upto_region 12 with (go_at_call 43; refine (read_any _ c _ HCV.out).mono ?_; rintro e w6 ⟨rfl, hr6, hb6⟩; have HB46 := Lib.hid (bel_tr HB45.out hb6); have HB6 := Lib.hid (bel_tr HB5.out hb6); have HRD6 := Lib.hid hr6; clear hr6 hb6)
          obtain ⟨p, hp⟩ : ∃ p, w5.heap.size = p := ⟨_, rfl⟩
          have HP : Hid (gp < p ∧ W4.heap.size ≤ p) := ⟨by have := heap_lt HP4.out.row; have := HB45.out.size; omega, by have := HB45.out.size; omega⟩
          rw [hp] at HRD6 ⊢
          clear hp
          obtain ⟨n1, p1, b1, hv1⟩ : ∃ n p b, rnum 1099511627776 c 0 0 = (n, p, b) := ⟨_, _, _, rfl⟩
          obtain ⟨tg, p2, b2, hv2⟩ : ∃ n p b, rbytes 32 c p1 b1 = (n, p, b) := ⟨_, _, _, rfl⟩
          have hn1 := (rnum_most 1099511627776 c 0 0).1
          rw [hv1] at hn1
          dsimp only at hn1
          have hcl : c.length ≤ 140737488355328 := by have h1 := HLN.out; have h2 := HLA.out; omega
          have C1 := fun w h => rnumber_rd 1099511627776 p (.slice ca c.length cc) c 0 0 w h
          have C2 := fun w h => rbytes_rd 32 p (.slice ca c.length cc) c p1 b1 w h hcl
          unfold NumPost at C1
          unfold BytesPost at C2
          rw [hv1] at C1
          rw [hv2] at C2
          simp only at C1 C2
          have H1 := Lib.hid C1
          have H2 := Lib.hid C2
          have HCC := Lib.hid (cck_r HM.out HTV.out HFW.out hv1 hv2)
          clear C1 C2 hv1 hv2 hcl
          go_upto_region 13 with (go_at_call 44; refine (H1.out _ HRD6.out).mono ?_; rintro e w7 ⟨rfl, h7, ho7⟩; have HRD7 := Lib.hid h7; have HO7 := Lib.hid (Only.of_below (F := fun k => k = p) HB46.out |>.trans ho7); clear h7 ho7)
          go_upto_region 14 with (go_at_call 58; refine (H2.out _ HRD7.out).mono ?_; rintro e w8 ⟨tv, rfl, hot, h8, ho8⟩; obtain ⟨ta, tc, hts⟩ := hot.shape; subst hts; have HTVV := Lib.hid hot.bs; have HRD8 := Lib.hid h8; have HO8 := Lib.hid (HO7.out.trans ho8); clear h8 ho8 hot)
          obtain ⟨d, hd⟩ : ∃ d, rdone c p2 b2 = d := ⟨_, rfl⟩
          have hdd := rdone_any p _ c p2 b2 w8 HRD8.out
          rw [hd] at hdd HCC
          have HDD := Lib.hid hdd
          have HB8 : Hid (Below W4.heap.size W4 w8) := HO8.out.below (fun k hk => by have := HP.out; omega) (Nat.le_refl _)
          obtain ⟨tm, htm⟩ : ∃ m, tg.length = m := ⟨_, rfl⟩
          rw [htm] at HTVV ⊢
          clear hd hdd htm
          go_upto_region 15 with (go_at_call 59; refine HDD.out.mono ?_; rintro e w9 ⟨rfl, hb9⟩; have HB9 := Lib.hid (bel_tr HB8.out hb9); have HTV9 := Lib.hid (HTVV.out.below hb9); clear hb9)
          clear HDD HRD8 HO8 HO7 HRD7 HRD6 HB46 HB6 HTVV HB8
          by_cases hd : d = 0
          · subst hd
            have hnow := (cmay_iff q now).1 HM.out.1
            have hs1 : IntKind.i64.wrap ((n1 : Int) - now) = (n1 : Int) - now := IntWalk.i64_in _ (by omega)
            have hs2 : IntKind.i64.wrap (now - (n1 : Int)) = now - (n1 : Int) := IntWalk.i64_in _ (by omega)
            have HK9 := Lib.hid (HK4.out.below HB9.out)
            have HBW9 := Lib.hid (bel_tr HB4.out HB9.out)
            have HP9 := Lib.hid (HP4.out.below HB9.out)
            have r0 : w9.cell? ⟨g, 0, none⟩ = some (.int .i64 keep) := cell_of_row w9 _ _ _ _ _ ((HB9.out.block g (heap_lt HR4.out)).trans HR4.out)
            have r1 : w9.cell? ⟨g, 1, none⟩ = some (.slice va n vc) := cell_of_row w9 _ _ _ _ _ ((HB9.out.block g (heap_lt HR4.out)).trans HR4.out)
            clear HB45 HB5 HCV HR4 HK4 HP4
            by_cases hfar : slack < (n1 : Int) - now ∨ slack < now - n1
            · have HTF : Hid (ccheck l b q a now slack = (tz, 22)) := Lib.hid (by rw [HCC.out, if_neg (by omega), if_pos hfar])
              obtain ⟨mx, hmx⟩ : ∃ x, (if (n1 : Int) - now < now - n1 then now - (n1 : Int) else (n1 : Int) - now) = x := ⟨_, rfl⟩
              have hgt : slack < mx := by rw [← hmx]; split <;> omega
              clear hfar hnow
              go_upto_region 16 with fail
              go_wp2_with fail
              go_step3
              exact ⟨rfl, 22, _, _, _, _, _, _, _, _, _, _, _, _, _, _, _, _, _, _, _, _, _, _, _, _, _, _, _, _, _, _, _, _, _, _, _, _, _, _, _, _, _, _, _, _, _, _, _, _, _, _, _, _, _, _, _, _, _, _, _, _, _, _, _, _, _, _, _, _, _, _, _, _, _, _, _, _, _, _, _, _, rfl, HTF, HBW9, HK9⟩
            · obtain ⟨mx, hmx⟩ : ∃ x, (if (n1 : Int) - now < now - n1 then now - (n1 : Int) else (n1 : Int) - now) = x := ⟨_, rfl⟩
              have hgt : ¬ slack < mx := by rw [← hmx]; split <;> omega
              have HCC2 : Hid (ccheck l b q a now slack = if (tg == ctag (cdev l b).1 q n1) = false then (tz, 21) else (t, 0)) := Lib.hid (by rw [HCC.out, if_neg (by omega), if_neg hfar])
              clear hfar hnow HCC
              have hdev := chdevice_anyL keep (.slice va n vc) l (.slice ba bn bc) b w9 (H.out.below HBW9.out) (HY.out.below HBW9.out) HL.out HS.out (HT.out.below HBW9.out)
              have hdl := cdev_len l b
              unfold DevPost at hdev
              obtain ⟨dk, de, hdk⟩ : ∃ k e, cdev l b = (k, e) := ⟨_, _, rfl⟩
              rw [hdk] at hdev HCC2 hdl
              simp only at hdev HCC2 hdl
              have HDEV := Lib.hid hdev
              have HDL := Lib.hid hdl
              clear hdev hdk hdl
              go_upto_region 19 with (go_at_call 26; refine HDEV.out.mono ?_; rintro e w10 ⟨kv, rfl, hkv, hb10⟩; have HKV := Lib.hid hkv; have HB10 := Lib.hid hb10; clear hkv hb10)
              clear hgt hmx hs1 hs2 r0 r1 HDEV
              have HK10 := Lib.hid (HK9.out.below HB10.out)
              have HBW10 := Lib.hid (bel_tr HBW9.out HB10.out)
              have HP10 := Lib.hid (HP9.out.below HB10.out)
              have HTV10 := Lib.hid (HTV9.out.below HB10.out)
              have HN1 : Hid (W64 (n1 : Int)) := by show W64 _; unfold W64; omega
              obtain ⟨bs, hbs⟩ : ∃ x, (tg == ctag dk q n1) = x := ⟨_, rfl⟩
              have HBS := Lib.hid hbs
              have HTG : Hid (hderive dk answS.data.toList (q ++ fnum (n1 : Int)) = ctag dk q n1) := rfl
              have HFL := Lib.hid (fnum_len HN1.out)
              have HQ16 : Hid (q.length = 16) := ((cmay_iff q now).1 HM.out.1).1
              have TD : Hid (∀ X a, Below w10.heap.size w10 X → X.cell? ⟨a, 0, none⟩ = some (.slice qa qn qc) → ∀ x, X.cell? ⟨a, 1, none⟩ = some x → Bs X x (fnum (n1 : Int)) → Calls Tryz.prog 61 #[kv, .string answS, .slice (some ⟨a, 0, none⟩) 2 2] X fun e w' => ∃ v, e = .returned v ∧ Ob w' X.heap.size 5 v (ctag dk q n1) ∧ Below X.heap.size X w') := fun X a hX h1 x h2 hx =>
                derive2_any _ _ _ dk q (fnum (n1 : Int)) answS a X (HKV.out.below hX) h1 h2 (HYQ.out.below (bel_tr HBW10.out hX)) hx (by have := HDL.out; omega) (by have : answS.size = 6 := rfl; have := HFL.out; have := HQ16.out; omega) (HT.out.below (bel_tr HBW10.out hX))
              have TSM : Hid (∀ X (a : Value), Below w10.heap.size w10 X → Bs X a (ctag dk q n1) → Calls Tryz.prog 60 #[.slice ta tm tc, a] X fun e w' => e = .returned (.bool bs) ∧ Below X.heap.size X w') := fun X a hX ha => by
                have := shasame_any _ a tg (ctag dk q n1) X (HTV10.out.below hX) ha
                rw [hbs] at this
                exact this
              clear hbs
              rcases bs with _ | _
              · have HTF : Hid (ccheck l b q a now slack = (tz, 21)) := Lib.hid (by rw [HCC2.out, if_pos HBS.out])
                go_wp2_with (first
                  | (go_at_call 62; refine (chtime_any (n1 : Int) HN1.out w10).mono ?_; rintro e w11 ⟨v11, rfl, ho11, hb11⟩; obtain ⟨b11, d11, rfl⟩ := ho11.shape; have HO11 := Lib.hid ho11; have HB11 := Lib.hid hb11; clear ho11 hb11)
                  | (go_at_call 61; refine (TD.out _ w11.heap.size (bel_al HB11.out _) (cell_of_row _ _ 0 _ _ _ (heap_alloc_new w11 _)) _ (cell_of_row _ _ 1 _ _ _ (heap_alloc_new w11 _)) (HO11.out.bs.alloc _)).mono ?_; rintro e w12 ⟨v12, rfl, ho12, hb12⟩; have HO12 := Lib.hid ho12; have h12 := bel_tr (w := w10) (bel_al HB11.out _) hb12; have HB12 := Lib.hid h12; clear ho12 hb12 h12)
                  | (go_at_call 60; refine (TSM.out _ _ HB12.out HO12.out.bs).mono ?_; rintro e w13 ⟨rfl, hb13⟩; have h13 := bel_tr HB12.out hb13; have HB13 := Lib.hid (bel_tr HBW10.out h13); have HK13 := Lib.hid (HK10.out.below h13); clear hb13 h13))
                go_step3
                exact ⟨rfl, 21, _, _, _, _, _, _, _, _, _, _, _, _, _, _, _, _, _, _, _, _, _, _, _, _, _, _, _, _, _, _, _, _, _, _, _, _, _, _, _, _, _, _, _, _, _, _, _, _, _, _, _, _, _, _, _, _, _, _, _, _, _, _, _, _, _, _, _, _, _, _, _, _, _, _, _, _, _, _, _, _, rfl, HTF, HB13, HK13⟩
              · have HTF : Hid (ccheck l b q a now slack = (t, 0)) := Lib.hid (by rw [HCC2.out, if_neg (by rw [HBS.out]; simp)])
                go_upto_region 21 with (first
                  | (go_at_call 62; refine (chtime_any (n1 : Int) HN1.out w10).mono ?_; rintro e w11 ⟨v11, rfl, ho11, hb11⟩; obtain ⟨b11, d11, rfl⟩ := ho11.shape; have HO11 := Lib.hid ho11; have HB11 := Lib.hid hb11; clear ho11 hb11)
                  | (go_at_call 61; refine (TD.out _ w11.heap.size (bel_al HB11.out _) (cell_of_row _ _ 0 _ _ _ (heap_alloc_new w11 _)) _ (cell_of_row _ _ 1 _ _ _ (heap_alloc_new w11 _)) (HO11.out.bs.alloc _)).mono ?_; rintro e w12 ⟨v12, rfl, ho12, hb12⟩; have HO12 := Lib.hid ho12; have h12 := bel_tr (w := w10) (bel_al HB11.out _) hb12; have HB12 := Lib.hid h12; clear ho12 hb12 h12)
                  | (go_at_call 60; refine (TSM.out _ _ HB12.out HO12.out.bs).mono ?_; rintro e w13 ⟨rfl, hb13⟩; have h13 := bel_tr HB12.out hb13; have HB13 := Lib.hid (bel_tr HBW10.out h13); have HK13 := Lib.hid (HK10.out.below h13); have HP13 := Lib.hid (HP10.out.below h13); clear hb13 h13))
                obtain ⟨c0, c1, c2, c3, c4, c5⟩ := HP13.out.cells
                go_wp2_with (with_reducible refine wpList_store_row rfl _ _ rfl rfl rfl HK13.out.row (by kernel_rfl) (by simp [Tok.row]) (by simp [Value.oneCell']) ?_)
                clear c0 c1 c2 c3 c4 c5
                obtain ⟨hpo, hta⟩ := cck_end (by have := HG.out; omega) HTF.out HB13.out HK13.out
                obtain ⟨c0, c1, c2, c3, c4, c5⟩ := hta.cells
                clear hta
                unfold Tok.row at hpo c0 c1 c2 c3 c4 c5
                simp only [Exit.jump]
                refine bodyPost_ret (v := .tuple #[.agg #[.int .i64 t.trip, .int .i64 t.acct, .int .i64 t.stop, .int .i64 t.iss, .int .i64 t.til, .int .i64 t.ep], .int .i64 ((0 : Nat) : Int)]) ?_ rfl hpo
                simp [results, Tryz.results24, go_sem, c0, c1, c2, c3, c4, c5]
          · have hdi : ((d : Int) != 0) = true := by simp; omega
            have HTF : Hid (ccheck l b q a now slack = (tz, d)) := Lib.hid (by rw [HCC.out, if_pos hd])
            clear hd
            have HK9 := Lib.hid (HK4.out.below HB9.out)
            have HBW9 := Lib.hid (bel_tr HB4.out HB9.out)
            go_wp2_with fail
            go_step3
            exact ⟨rfl, d, _, _, _, _, _, _, _, _, _, _, _, _, _, _, _, _, _, _, _, _, _, _, _, _, _, _, _, _, _, _, _, _, _, _, _, _, _, _, _, _, _, _, _, _, _, _, _, _, _, _, _, _, _, _, _, _, _, _, _, _, _, _, _, _, _, _, _, _, _, _, _, _, _, _, _, _, _, _, _, _, rfl, HTF, HBW9, HK9⟩
        · have hfi : ((f : Int) != 0) = true := by simp; omega
          have HTF : Hid (ccheck l b q a now slack = (tz, f)) := Lib.hid (cck_f HM.out HTV.out HFW.out hf)
          have HK5 := Lib.hid (HK4.out.below HB45.out)
          clear hf
          go_wp2_with fail
          go_step3
          exact ⟨rfl, f, _, _, _, _, _, _, _, _, _, _, _, _, _, _, _, _, _, _, _, _, _, _, _, _, _, _, _, _, _, _, _, _, _, _, _, _, _, _, _, _, _, _, _, _, _, _, _, _, _, _, _, _, _, _, _, _, _, _, _, _, _, _, _, _, _, _, _, _, _, _, _, _, _, _, _, _, _, _, _, _, rfl, HTF, HB5, HK5⟩
      · have hei : ((er : Int) != 0) = true := by simp; omega
        have HTF : Hid (ccheck l b q a now slack = (tz, er)) := Lib.hid (cck_v HM.out HTV.out he)
        clear he
        go_wp2_with fail
        go_step3
        exact ⟨rfl, er, _, _, _, _, _, _, _, _, _, _, _, _, _, _, _, _, _, _, _, _, _, _, _, _, _, _, _, _, _, _, _, _, _, _, _, _, _, _, _, _, _, _, _, _, _, _, _, _, _, _, _, _, _, _, _, _, _, _, _, _, _, _, _, _, _, _, _, _, _, _, _, _, _, _, _, _, _, _, _, _, rfl, HTF, HB4, HK4⟩
    · have HTF : Hid (ccheck l b q a now slack = (tz, 2)) := Lib.hid (cck_bad hm)
      rcases hmb : cmay q now with _ | _
      · rw [hmb] at HGD
        clear hmb hm
        go_wp2_with (go_at_call 56; refine (HGD.out _ HB2.out).mono ?_; rintro e w3 ⟨rfl, rfl⟩)
        go_step3
        exact ⟨rfl, 2, _, _, _, _, _, _, _, _, _, _, _, _, _, _, _, _, _, _, _, _, _, _, _, _, _, _, _, _, _, _, _, _, _, _, _, _, _, _, _, _, _, _, _, _, _, _, _, _, _, _, _, _, _, _, _, _, _, _, _, _, _, _, _, _, _, _, _, _, _, _, _, _, _, _, _, _, _, _, _, _, rfl, HTF, HB2, HK2⟩
      · have hneg : slack < 0 := by
          rw [hmb] at hm
          simp at hm
          exact hm
        rw [hmb] at HGD
        clear hmb hm
        go_wp2_with (go_at_call 56; refine (HGD.out _ HB2.out).mono ?_; rintro e w3 ⟨rfl, rfl⟩)
        go_step3
        exact ⟨rfl, 2, _, _, _, _, _, _, _, _, _, _, _, _, _, _, _, _, _, _, _, _, _, _, _, _, _, _, _, _, _, _, _, _, _, _, _, _, _, _, _, _, _, _, _, _, _, _, _, _, _, _, _, _, _, _, _, _, _, _, _, _, _, _, _, _, _, _, _, _, _, _, _, _, _, _, _, _, _, _, _, _, rfl, HTF, HB2, HK2⟩
  · rintro a' wr ⟨e, u0, u1, u2, u3, u4, u5, u6, u7, u8, u9, u10, u11, u13, u14, u15, u16, u17, u18, u19, u21, u22, u23, u24, u25, u26, u27, u28, u29, u30, u31, u32, u33, u34, u35, u36, u37, u38, u39, u40, u41, u42, u43, u44, u45, u46, u47, u48, u49, u50, u51, u52, u53, u54, u55, u56, u57, u58, u59, u60, u61, u62, u63, u64, u65, u66, u67, u68, u69, u70, u71, u72, u73, u74, u75, u76, u77, u78, u79, u80, u81, rfl, HTF, HBR, HKR⟩
    clear HWW HW2 HGG HB2 HP2 HR2 HK2
    go_wp2_with (with_reducible refine wpList_store_row rfl _ _ rfl rfl rfl HKR.out.row (by kernel_rfl) (by simp [Tok.row]) (by simp [Value.oneCell']) ?_)
    obtain ⟨hpo, hta⟩ := cck_end (by have := HG.out; omega) HTF.out HBR.out HKR.out
    obtain ⟨c0, c1, c2, c3, c4, c5⟩ := hta.cells
    clear hta
    unfold Tok.row tz at hpo c0 c1 c2 c3 c4 c5
    simp only [Exit.jump]
    refine bodyPost_ret (v := .tuple #[.agg #[.int .i64 0, .int .i64 0, .int .i64 0, .int .i64 0, .int .i64 0, .int .i64 0], .int .i64 ((e : Nat) : Int)]) ?_ rfl hpo
    simp [results, Tryz.results24, go_sem, c0, c1, c2, c3, c4, c5]

theorem chcheck_any (keep : Int) (v : Value) (l : List RK) (y yq ya : Value) (b q a : List UInt8) (now slack : Int) (w : World) (h : Ks w v l) (hy : Bs w y b) (hyq : Bs w yq q) (hya : Bs w ya a) (hl : b.length ≤ 1048576) (hla : a.length ≤ 1048576) (hsm : ∀ k ∈ l, k.b.length ≤ 1000000)
    (_hw : W64 slack) (hT : Tabbed w) :
    Calls Tryz.prog 24 #[.agg #[.int .i64 keep, v], y, yq, ya, .int .i64 now, .int .i64 slack] w (CheckPost l b q a now slack w) :=
  chcheck_anyL keep v l y yq ya b q a now slack w h hy hyq hya hl hla (fun k hk => Nat.le_trans (hsm k hk) (by decide)) _hw hT

end Go.Proofs.YtjnbdeopoohnmaaGreatDoor
