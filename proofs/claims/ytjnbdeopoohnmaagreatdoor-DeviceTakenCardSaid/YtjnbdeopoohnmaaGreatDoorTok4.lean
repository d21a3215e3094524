/- Tok4: Tok3, Tok4 as one text. -/
import Derived.Test.YtjnbdeopoohnmaaGreatDoorTok
import Derived.Test.YtjnbdeopoohnmaaGreatDoorFrameWhole
import Derived.Test.YtjnbdeopoohnmaaGreatDoorReader
import Derived.Test.YtjnbdeopoohnmaaGreatDoorRReader
import Derived.Deep.RegionHeld3
import Derived.Deep.CutBlock
import Derived.Deep.DeepCutAuto
/- Layer 10 (token): Open, plain; the walk of token.Open. -/
set_option linter.unusedSimpArgs false
namespace Go.Proofs.YtjnbdeopoohnmaaGreatDoor
open Go.RowKit Go.Sort

def tz : Tok := ⟨0, 0, 0, 0, 0, 0⟩
def topen (b : List UInt8) : Tok × List UInt8 × Nat :=
  match fwhole 2 b with
  | (c, f) => if f ≠ 0 then (tz, [], f) else
    match rnum 2147483648 c 0 0 with
    | (n1, p1, b1) => match rnum 2147483648 c p1 b1 with
    | (n2, p2, b2) => match rnum 4095 c p2 b2 with
    | (n3, p3, b3) => match rnum 1099511627776 c p3 b3 with
    | (n4, p4, b4) => match rnum 1099511627776 c p4 b4 with
    | (n5, p5, b5) => match rnum 1048576 c p5 b5 with
    | (n6, p6, b6) => match rbytes 32 c p6 b6 with
    | (tg, p, q) => if rdone c p q ≠ 0 then (tz, [], rdone c p q) else
      if tmay ⟨n1, n2, n3, n4, n5, n6⟩ = true ∧ tg.length = 32 then (⟨n1, n2, n3, n4, n5, n6⟩, tg, 0) else (tz, [], 2)
theorem topen_f {b c : List UInt8} {f : Nat} (h : fwhole 2 b = (c, f)) (hf : f ≠ 0) : topen b = (tz, [], f) := by
  unfold topen; rw [h]; dsimp only; rw [if_pos hf]
theorem topen_r {b c tg : List UInt8} {n1 n2 n3 n4 n5 n6 p1 p2 p3 p4 p5 p6 b1 b2 b3 b4 b5 b6 p q : Nat} (h : fwhole 2 b = (c, 0)) (h1 : rnum 2147483648 c 0 0 = (n1, p1, b1)) (h2 : rnum 2147483648 c p1 b1 = (n2, p2, b2))
    (h3 : rnum 4095 c p2 b2 = (n3, p3, b3)) (h4 : rnum 1099511627776 c p3 b3 = (n4, p4, b4)) (h5 : rnum 1099511627776 c p4 b4 = (n5, p5, b5)) (h6 : rnum 1048576 c p5 b5 = (n6, p6, b6)) (h7 : rbytes 32 c p6 b6 = (tg, p, q)) :
    topen b = if rdone c p q ≠ 0 then (tz, [], rdone c p q) else
      if tmay ⟨n1, n2, n3, n4, n5, n6⟩ = true ∧ tg.length = 32 then (⟨n1, n2, n3, n4, n5, n6⟩, tg, 0) else (tz, [], 2) := by
  unfold topen; rw [h]; dsimp only; rw [if_neg (by omega), h1]; dsimp only; rw [h2]; dsimp only; rw [h3]; dsimp only; rw [h4]; dsimp only; rw [h5]; dsimp only; rw [h6]; dsimp only; rw [h7]
theorem fwhole_le (k : UInt8) (l : List UInt8) : (fwhole k l).1.length ≤ l.length := by
  have h : (ftake l).2.1.length ≤ l.length := by
    unfold ftake
    repeat' split
    all_goals simp
    all_goals omega
  unfold fwhole
  repeat' split
  all_goals simp
  exact h
/-- bytes are no token -/
theorem Bs.ne_tok {w : World} {v : Value} {l : List UInt8} {g : Nat} {t : Tok} (h : Bs w v l) (hg : TAt w g t) (hl : l ≠ []) : v.ownBlock ≠ some g := by
  obtain ⟨h1, a, c, rfl, h2, h3, h4, h5⟩ := h
  rcases h5 with h5 | ⟨b, off, rfl, hlt, h6⟩
  · exact absurd (List.eq_nil_of_length_eq_zero h5) hl
  · intro e
    simp only [Value.ownBlock, Option.some.injEq] at e
    subst e
    obtain ⟨x, r, rfl⟩ : ∃ x r, l = x :: r := by cases l with | nil => exact absurd rfl hl | cons x r => exact ⟨x, r, rfl⟩
    have h7 := h6 0 (bv x) (by simp)
    have h8 := hg.row
    simp only [World.cell?, h8] at h7
    unfold Tok.row bv at h7
    rcases (show off + 0 = 0 ∨ off + 0 = 1 ∨ off + 0 = 2 ∨ off + 0 = 3 ∨ off + 0 = 4 ∨ off + 0 = 5 ∨ 6 ≤ off + 0 by omega) with e | e | e | e | e | e | e
    all_goals simp_all

def OpenPost (b : List UInt8) (w : World) (e : Ending) (w' : World) : Prop :=
  ∃ v, e = .returned (.tuple #[.agg (topen b).1.row, v, .int .i64 ((topen b).2.2 : Nat)]) ∧ Bs w' v (topen b).2.1 ∧ Below w.heap.size w w'
/-- the end: the result variable's block is stored and handed out -/
theorem open_end {w W : World} {b : List UInt8} {t t0 : Tok} {e : Nat} {vt : Value} {tag : List UInt8} (ht : topen b = (t, tag, e)) (hv : Bs W vt tag) (hb : Below w.heap.size w W) (hg : TAt W w.heap.size t0) :
    OpenPost b w (.returned (.tuple #[.agg t.row, vt, .int .i64 (e : Int)])) (W.setRow w.heap.size t.row) ∧ TAt (W.setRow w.heap.size t.row) w.heap.size t := by
  have h1 : Only (fun i => i = w.heap.size) W (W.setRow w.heap.size t.row) := setRow_only _ _ _
  refine ⟨⟨vt, by rw [ht], ?_, hb.trans (h1.below (fun k hk => by omega) hb.size)⟩, ⟨setRow_heap W w.heap.size _ t.row _ _ hg.row⟩⟩
  rw [ht]
  exact hv.only' h1 (fun hl k hk e => hv.ne_tok hg hl (by rw [hk, e]))

set_option maxRecDepth 100000 in
set_option maxHeartbeats 6400000 in
theorem open_any (y : Value) (b : List UInt8) (w : World) (hy : Bs w y b) (hl : b.length ≤ 1048576) :
    Calls Tryz.prog 64 #[y] w (OpenPost b w) := by
  obtain ⟨ya, yc, hs⟩ := hy.shape
  subst hs
  obtain ⟨w1, hw1⟩ : ∃ W, w.alloc (.cells #[.int .i64 0, .int .i64 0, .int .i64 0, .int .i64 0, .int .i64 0, .int .i64 0] 62) = W := ⟨_, rfl⟩
  have hb1 : Below w.heap.size w w1 := by rw [← hw1]; exact bel_al (Below.refl _ _) _
  have k0 : TAt w1 w.heap.size tz := ⟨by rw [← hw1]; exact heap_alloc_new _ _⟩
  have HWW := Lib.hid hw1
  have hF := Lib.hid (fwhole_any 2 2 rfl _ b w1 (hy.below hb1) hl)
  have hlen := fwhole_le 2 b
  obtain ⟨c, f, hfw⟩ : ∃ c f, fwhole 2 b = (c, f) := ⟨_, _, rfl⟩
  unfold WholePost at hF
  rw [hfw] at hF hlen
  simp only at hF hlen
  obtain ⟨g, hg⟩ : ∃ g, w.heap.size = g := ⟨_, rfl⟩
  have HG := Lib.hid hg
  rw [hg] at k0
  have HFW := Lib.hid hfw
  have HK0 := Lib.hid k0
  have HB1 := Lib.hid hb1
  clear hw1 hfw k0 hg hb1 hy
  go_enter Tryz.func64, Tryz.ntmps64
  go_upto_region 1 with fail
  rw [HWW.out, HG.out]
  go_upto_region 2 with (go_at_call 42; refine hF.out.mono ?_; rintro e w2 ⟨cv, rfl, hcv, hb2⟩; obtain ⟨ca, cc, hcs⟩ := hcv.shape; subst hcs; have HCV := Lib.hid hcv; have HB2 := Lib.hid (bel_tr HB1.out hb2); have HK2 := Lib.hid (HK0.out.below hb2); clear hcv hb2)
  by_cases hf : f = 0
  · subst hf
    go_upto_region 5 with (go_at_call 43; refine (read_any _ c _ HCV.out).mono ?_; rintro e w3 ⟨rfl, hr3, hb3⟩; have HB3 := Lib.hid (bel_tr HB2.out hb3); have HK3 := Lib.hid (HK2.out.below hb3); have HR3 := Lib.hid hr3; clear hr3 hb3)
    have hgp : g < w2.heap.size := heap_lt HK2.out.row
    obtain ⟨p, hp⟩ : ∃ p, w2.heap.size = p := ⟨_, rfl⟩
    rw [hp] at HR3 hgp ⊢
    have HP2 := Lib.hid hp
    clear hp
    obtain ⟨n1, p1, b1, hv1⟩ : ∃ n p b, rnum 2147483648 c 0 0 = (n, p, b) := ⟨_, _, _, rfl⟩
    obtain ⟨n2, p2, b2, hv2⟩ : ∃ n p b, rnum 2147483648 c p1 b1 = (n, p, b) := ⟨_, _, _, rfl⟩
    obtain ⟨n3, p3, b3, hv3⟩ : ∃ n p b, rnum 4095 c p2 b2 = (n, p, b) := ⟨_, _, _, rfl⟩
    obtain ⟨n4, p4, b4, hv4⟩ : ∃ n p b, rnum 1099511627776 c p3 b3 = (n, p, b) := ⟨_, _, _, rfl⟩
    obtain ⟨n5, p5, b5, hv5⟩ : ∃ n p b, rnum 1099511627776 c p4 b4 = (n, p, b) := ⟨_, _, _, rfl⟩
    obtain ⟨n6, p6, b6, hv6⟩ : ∃ n p b, rnum 1048576 c p5 b5 = (n, p, b) := ⟨_, _, _, rfl⟩
    obtain ⟨tg, p7, b7, hv7⟩ : ∃ n p b, rbytes 32 c p6 b6 = (n, p, b) := ⟨_, _, _, rfl⟩
    have HTO := Lib.hid (topen_r HFW.out hv1 hv2 hv3 hv4 hv5 hv6 hv7)
    have hcl : c.length ≤ 140737488355328 := by omega
    have C1 := fun w h => rnumber_rd 2147483648 p (.slice ca c.length cc) c 0 0 w h
    have C2 := fun w h => rnumber_rd 2147483648 p (.slice ca c.length cc) c p1 b1 w h
    have C3 := fun w h => rnumber_rd 4095 p (.slice ca c.length cc) c p2 b2 w h
    have C4 := fun w h => rnumber_rd 1099511627776 p (.slice ca c.length cc) c p3 b3 w h
    have C5 := fun w h => rnumber_rd 1099511627776 p (.slice ca c.length cc) c p4 b4 w h
    have C6 := fun w h => rnumber_rd 1048576 p (.slice ca c.length cc) c p5 b5 w h
    have C7 := fun w h => rbytes_rd 32 p (.slice ca c.length cc) c p6 b6 w h hcl
    unfold NumPost at C1 C2 C3 C4 C5 C6
    unfold BytesPost at C7
    rw [hv1] at C1
    rw [hv2] at C2
    rw [hv3] at C3
    rw [hv4] at C4
    rw [hv5] at C5
    rw [hv6] at C6
    rw [hv7] at C7
    simp only at C1 C2 C3 C4 C5 C6 C7
    have H1 := Lib.hid C1
    have H2 := Lib.hid C2
    have H3 := Lib.hid C3
    have H4 := Lib.hid C4
    have H5 := Lib.hid C5
    have H6 := Lib.hid C6
    have H7 := Lib.hid C7
    clear C1 C2 C3 C4 C5 C6 C7 hv1 hv2 hv3 hv4 hv5 hv6 hv7 HK0 HK2
    go_upto_region 6 with (first
      | (go_at_call 44; with_reducible refine (H1.out _ HR3.out).mono ?_; rintro e w4 ⟨rfl, h4, ho4⟩; have HR4 := Lib.hid h4; have HO4 := Lib.hid ho4; clear h4 ho4)
      | (go_at_call 44; with_reducible refine (H2.out _ HR4.out).mono ?_; rintro e w5 ⟨rfl, h4, ho4⟩; have HR5 := Lib.hid h4; have HO5 := Lib.hid (HO4.out.trans ho4); clear h4 ho4)
      | (go_at_call 44; with_reducible refine (H3.out _ HR5.out).mono ?_; rintro e w6 ⟨rfl, h4, ho4⟩; have HR6 := Lib.hid h4; have HO6 := Lib.hid (HO5.out.trans ho4); clear h4 ho4)
      | (go_at_call 44; with_reducible refine (H4.out _ HR6.out).mono ?_; rintro e w7 ⟨rfl, h4, ho4⟩; have HR7 := Lib.hid h4; have HO7 := Lib.hid (HO6.out.trans ho4); clear h4 ho4)
      | (go_at_call 44; with_reducible refine (H5.out _ HR7.out).mono ?_; rintro e w8 ⟨rfl, h4, ho4⟩; have HR8 := Lib.hid h4; have HO8 := Lib.hid (HO7.out.trans ho4); clear h4 ho4)
      | (go_at_call 44; with_reducible refine (H6.out _ HR8.out).mono ?_; rintro e w9 ⟨rfl, h4, ho4⟩; have HR9 := Lib.hid h4; have HO9 := Lib.hid (HO8.out.trans ho4); have hk9 : TAt w9 g tz := ⟨(HO9.out.block g (heap_lt HK3.out.row) (by omega)).trans HK3.out.row⟩; have HK9 := Lib.hid hk9; clear h4 ho4 hk9)
      | (with_reducible refine wpList_store_row rfl _ _ rfl rfl rfl HK9.out.row (by kernel_rfl) (by simp [Tok.row]) (by simp [Value.oneCell']) ?_))
    have hset := setRow_only w9 g #[.int .i64 (n1 : Int), .int .i64 (n2 : Int), .int .i64 (n3 : Int), .int .i64 (n4 : Int), .int .i64 (n5 : Int), .int .i64 (n6 : Int)]
    have hk10 : TAt (w9.setRow g #[.int .i64 (n1 : Int), .int .i64 (n2 : Int), .int .i64 (n3 : Int), .int .i64 (n4 : Int), .int .i64 (n5 : Int), .int .i64 (n6 : Int)]) g ⟨n1, n2, n3, n4, n5, n6⟩ := ⟨setRow_heap w9 g _ _ _ _ HK9.out.row⟩
    obtain ⟨W, hW⟩ : ∃ X, w9.setRow g #[.int .i64 (n1 : Int), .int .i64 (n2 : Int), .int .i64 (n3 : Int), .int .i64 (n4 : Int), .int .i64 (n5 : Int), .int .i64 (n6 : Int)] = X := ⟨_, rfl⟩
    rw [hW] at hset hk10 ⊢
    have hr10 := HR9.out.only hset (by omega) (fun hl k hk e => HR9.out.src.ne_tok HK9.out hl (by rw [hk, e]))
    have hb9 := HB3.out.trans (HO9.out.below (fun k hk => by have := HP2.out; have := HB2.out.size; omega) HB3.out.size)
    have HBW := Lib.hid (hb9.trans (hset.below (fun k hk => by have := HG.out; omega) hb9.size))
    have HRW := Lib.hid hr10
    have HKW := Lib.hid hk10
    clear hset hk10 hW hr10 hb9 HR3 HR4 HR5 HR6 HR7 HR8 HR9 HO4 HO5 HO6 HO7 HO8 HO9 HK9 HK3 HB3 HB2 HCV H1 H2 H3 H4 H5 H6
    go_upto_region 7 with (go_at_call 58; refine (H7.out _ HRW.out).mono ?_; rintro e w11 ⟨tv, rfl, hot, h4, ho4⟩; have HR11 := Lib.hid h4; have HB11 := Lib.hid (HBW.out.trans (ho4.below (fun k hk => by have := HG.out; omega) HBW.out.size)); have hk11 : TAt w11 g ⟨n1, n2, n3, n4, n5, n6⟩ := ⟨(ho4.block g (heap_lt HKW.out.row) (by omega)).trans HKW.out.row⟩; have HK11 := Lib.hid hk11; have HTV := Lib.hid hot.bs; clear h4 ho4 hk11 hot)
    obtain ⟨d, hd⟩ : ∃ d, rdone c p7 b7 = d := ⟨_, rfl⟩
    have hdd := rdone_any p _ c p7 b7 w11 HR11.out
    rw [hd] at hdd HTO
    have HDD := Lib.hid hdd
    clear hd hdd HKW HRW HBW H7
    obtain ⟨ta, tc, htv⟩ := HTV.out.shape
    subst htv
    obtain ⟨m, hm⟩ : ∃ m, tg.length = m := ⟨_, rfl⟩
    have HM := Lib.hid hm
    rw [hm]
    clear hm
    have hTV := HTV.out
    rw [HM.out] at hTV
    have HTV2 := Lib.hid hTV
    clear hTV HTV
    go_upto_region 8 with (go_at_call 59; refine HDD.out.mono ?_; rintro e w12 ⟨rfl, hb12⟩; have HB12 := Lib.hid (bel_tr HB11.out hb12); have HK12 := Lib.hid (HK11.out.below hb12); have HTV := Lib.hid (HTV2.out.below hb12); clear hb12)
    clear HDD HR11 HTV2 HK11 HB11
    by_cases hd : d = 0
    · subst hd
      have hmay := tmay_any ⟨n1, n2, n3, n4, n5, n6⟩ w12
      obtain ⟨bm, hbm⟩ : ∃ x, tmay ⟨n1, n2, n3, n4, n5, n6⟩ = x := ⟨_, rfl⟩
      rw [hbm] at hmay
      have HTO2 : Hid (topen b = if bm = true ∧ m = 32 then (⟨n1, n2, n3, n4, n5, n6⟩, tg, 0) else (tz, [], 2)) := Lib.hid (by rw [HTO.out, if_neg (by omega), hbm, HM.out])
      unfold Tok.row at hmay
      have HMAY := Lib.hid hmay
      obtain ⟨c0, c1, c2, c3, c4, c5⟩ := HK12.out.cells
      dsimp only at c0 c1 c2 c3 c4 c5
      clear hmay hbm HTO
      rcases bm with _ | _
      · have HTF : Hid (topen b = (tz, [], 2)) := Lib.hid (by rw [HTO2.out, if_neg (by simp)])
        go_upto_region 11 with (go_at_call 93; refine HMAY.out.mono ?_; rintro e w13 ⟨rfl, hb13⟩; have HB13 := Lib.hid (bel_tr HB12.out hb13); have HK13 := Lib.hid (HK12.out.below hb13); clear hb13)
        clear c0 c1 c2 c3 c4 c5
        go_wp2_with (with_reducible refine wpList_store_row rfl _ _ rfl rfl rfl HK13.out.row (by kernel_rfl) (by simp [Tok.row]) (by simp [Value.oneCell']) ?_)
        have hk2 := HK13.out
        rw [← HG.out] at hk2 ⊢
        obtain ⟨hpo, hta⟩ := open_end HTF.out (Ob.nil w13 0 5).bs HB13.out hk2
        obtain ⟨c0, c1, c2, c3, c4, c5⟩ := hta.cells
        clear hta
        unfold Tok.row tz at hpo c0 c1 c2 c3 c4 c5
        refine bodyPost_ret (v := .tuple #[.agg #[.int .i64 0, .int .i64 0, .int .i64 0, .int .i64 0, .int .i64 0, .int .i64 0], .slice none 0 0, .int .i64 ((2 : Nat) : Int)]) ?_ rfl hpo
        simp [results, Tryz.results64, go_sem, c0, c1, c2, c3, c4, c5]
      · by_cases h32 : m = 32
        · have HTF : Hid (topen b = (⟨n1, n2, n3, n4, n5, n6⟩, tg, 0)) := Lib.hid (by rw [HTO2.out, if_pos ⟨rfl, h32⟩])
          subst h32
          go_upto_region 12 with (go_at_call 93; refine HMAY.out.mono ?_; rintro e w13 ⟨rfl, hb13⟩; have HB13 := Lib.hid (bel_tr HB12.out hb13); have HK13 := Lib.hid (HK12.out.below hb13); have HTV3 := Lib.hid (HTV.out.below hb13); clear hb13)
          clear c0 c1 c2 c3 c4 c5
          obtain ⟨c0, c1, c2, c3, c4, c5⟩ := HK13.out.cells
          dsimp only at c0 c1 c2 c3 c4 c5
          go_wp2_with (with_reducible refine wpList_store_row rfl _ _ rfl rfl rfl HK13.out.row (by kernel_rfl) (by simp [Tok.row]) (by simp [Value.oneCell']) ?_)
          have hk2 := HK13.out
          rw [← HG.out] at hk2 ⊢
          clear c0 c1 c2 c3 c4 c5
          obtain ⟨hpo, hta⟩ := open_end HTF.out HTV3.out HB13.out hk2
          obtain ⟨c0, c1, c2, c3, c4, c5⟩ := hta.cells
          clear hta
          unfold Tok.row at hpo c0 c1 c2 c3 c4 c5
          dsimp only at hpo c0 c1 c2 c3 c4 c5
          refine bodyPost_ret (v := .tuple #[.agg #[.int .i64 n1, .int .i64 n2, .int .i64 n3, .int .i64 n4, .int .i64 n5, .int .i64 n6], .slice ta 32 tc, .int .i64 ((0 : Nat) : Int)]) ?_ rfl hpo
          simp [results, Tryz.results64, go_sem, c0, c1, c2, c3, c4, c5]
        · have hne : ((m : Int) != 32) = true := by simp; omega
          have HTF : Hid (topen b = (tz, [], 2)) := Lib.hid (by rw [HTO2.out, if_neg (by simp [h32])])
          clear h32
          go_upto_region 11 with (go_at_call 93; refine HMAY.out.mono ?_; rintro e w13 ⟨rfl, hb13⟩; have HB13 := Lib.hid (bel_tr HB12.out hb13); have HK13 := Lib.hid (HK12.out.below hb13); clear hb13)
          clear c0 c1 c2 c3 c4 c5
          go_wp2_with (with_reducible refine wpList_store_row rfl _ _ rfl rfl rfl HK13.out.row (by kernel_rfl) (by simp [Tok.row]) (by simp [Value.oneCell']) ?_)
          have hk2 := HK13.out
          rw [← HG.out] at hk2 ⊢
          obtain ⟨hpo, hta⟩ := open_end HTF.out (Ob.nil w13 0 5).bs HB13.out hk2
          obtain ⟨c0, c1, c2, c3, c4, c5⟩ := hta.cells
          clear hta
          unfold Tok.row tz at hpo c0 c1 c2 c3 c4 c5
          refine bodyPost_ret (v := .tuple #[.agg #[.int .i64 0, .int .i64 0, .int .i64 0, .int .i64 0, .int .i64 0, .int .i64 0], .slice none 0 0, .int .i64 ((2 : Nat) : Int)]) ?_ rfl hpo
          simp [results, Tryz.results64, go_sem, c0, c1, c2, c3, c4, c5]
    · have hdi : ((d : Int) != 0) = true := by simp; omega
      have HTF : Hid (topen b = (tz, [], d)) := Lib.hid (by rw [HTO.out, if_pos hd])
      clear hd
      go_wp2_with (with_reducible refine wpList_store_row rfl _ _ rfl rfl rfl HK12.out.row (by kernel_rfl) (by simp [Tok.row]) (by simp [Value.oneCell']) ?_)
      have hk2 := HK12.out
      rw [← HG.out] at hk2 ⊢
      obtain ⟨hpo, hta⟩ := open_end HTF.out (Ob.nil w12 0 5).bs HB12.out hk2
      obtain ⟨c0, c1, c2, c3, c4, c5⟩ := hta.cells
      clear hta
      unfold Tok.row tz at hpo c0 c1 c2 c3 c4 c5
      refine bodyPost_ret (v := .tuple #[.agg #[.int .i64 0, .int .i64 0, .int .i64 0, .int .i64 0, .int .i64 0, .int .i64 0], .slice none 0 0, .int .i64 ((d : Nat) : Int)]) ?_ rfl hpo
      simp [results, Tryz.results64, go_sem, c0, c1, c2, c3, c4, c5]
  · have hfi : ((f : Int) != 0) = true := by simp; omega
    have HTF := Lib.hid (topen_f HFW.out hf)
    clear hf
    go_wp2_with (with_reducible refine wpList_store_row rfl _ _ rfl rfl rfl HK2.out.row (by kernel_rfl) (by simp [Tok.row]) (by simp [Value.oneCell']) ?_)
    have hk2 := HK2.out
    rw [← HG.out] at hk2 ⊢
    obtain ⟨hpo, hta⟩ := open_end HTF.out (Ob.nil w2 0 5).bs HB2.out hk2
    obtain ⟨c0, c1, c2, c3, c4, c5⟩ := hta.cells
    clear hta
    unfold Tok.row tz at hpo c0 c1 c2 c3 c4 c5
    refine bodyPost_ret (v := .tuple #[.agg #[.int .i64 0, .int .i64 0, .int .i64 0, .int .i64 0, .int .i64 0, .int .i64 0], .slice none 0 0, .int .i64 ((f : Nat) : Int)]) ?_ rfl hpo
    simp [results, Tryz.results64, go_sem, c0, c1, c2, c3, c4, c5]
end Go.Proofs.YtjnbdeopoohnmaaGreatDoor
/- Layer 10 (token): the walk of the reference's Open. -/
set_option linter.unusedSimpArgs false
namespace Go.Proofs.YtjnbdeopoohnmaaGreatDoor
open Go.RowKit Go.Sort

theorem TAt.set {w : World} {g : Nat} {t t2 : Tok} (h : TAt w g t) (i : Nat) (u : Value) (hr : t.row.setIfInBounds i u = t2.row) : TAt (w.setCell ⟨g, i, none⟩ u) g t2 := ⟨by rw [row_setCell h.row i u, hr]⟩
/-- the reference reads a token: the result variable's block, the reader's, the token's -/
structure UO (w W : World) (g p q : Nat) (y : Value) (c : List UInt8) (pos bad : Nat) (t : Tok) : Prop where
  bel : Below w.heap.size w W
  res : TAt W g tz
  rd : RRd W p y c pos bad
  tok : TAt W q t
  l1 : w.heap.size = g
  l2 : g < p
  l3 : p < q
  yl : c ≠ [] → ∀ k, y.ownBlock = some k → k < p
theorem UO.read {w W W2 : World} {g p q : Nat} {y : Value} {c : List UInt8} {pos bad pos2 bad2 : Nat} {t : Tok} (h : UO w W g p q y c pos bad t) (ho : Only (fun k => k = p) W W2) (hr : RRd W2 p y c pos2 bad2) : UO w W2 g p q y c pos2 bad2 t :=
  ⟨h.bel.trans (ho.below (fun k hk => by have := h.l1; have := h.l2; omega) h.bel.size), ⟨(ho.block g (heap_lt h.res.row) (by have := h.l2; omega)).trans h.res.row⟩, hr, ⟨(ho.block q (heap_lt h.tok.row) (by have := h.l3; omega)).trans h.tok.row⟩, h.l1, h.l2, h.l3, h.yl⟩
theorem UO.set {w W : World} {g p q : Nat} {y : Value} {c : List UInt8} {pos bad : Nat} {t t2 : Tok} (h : UO w W g p q y c pos bad t) (i : Nat) (u : Value) (hr : t.row.setIfInBounds i u = t2.row) : UO w (W.setCell ⟨q, i, none⟩ u) g p q y c pos bad t2 := by
  have ho := set_only W q i u
  exact ⟨h.bel.trans (ho.below (fun k hk => by have := h.l1; have := h.l2; have := h.l3; omega) h.bel.size), ⟨(ho.block g (heap_lt h.res.row) (by have := h.l2; have := h.l3; omega)).trans h.res.row⟩,
    h.rd.only ho (by have := h.l3; omega) (fun hl k hk e => by have := h.yl hl k hk; have := h.l3; omega), h.tok.set i u hr, h.l1, h.l2, h.l3, h.yl⟩

set_option maxRecDepth 100000 in
set_option maxHeartbeats 6400000 in
theorem uopen_any (y : Value) (b : List UInt8) (w : World) (hy : Bs w y b) (hl : b.length ≤ 1048576) :
    Calls Tryz.prog 23 #[y] w (OpenPost b w) := by
  obtain ⟨ya, yc, hs⟩ := hy.shape
  subst hs
  obtain ⟨w1, hw1⟩ : ∃ W, w.alloc (.cells #[.int .i64 0, .int .i64 0, .int .i64 0, .int .i64 0, .int .i64 0, .int .i64 0] 62) = W := ⟨_, rfl⟩
  have hb1 : Below w.heap.size w w1 := by rw [← hw1]; exact bel_al (Below.refl _ _) _
  have k0 : TAt w1 w.heap.size tz := ⟨by rw [← hw1]; exact heap_alloc_new _ _⟩
  have HWW := Lib.hid hw1
  have hF := Lib.hid (rfwhole_any 2 2 rfl _ b w1 (hy.below hb1) hl)
  have hlen := fwhole_le 2 b
  obtain ⟨c, f, hfw⟩ : ∃ c f, fwhole 2 b = (c, f) := ⟨_, _, rfl⟩
  unfold WholePost at hF
  rw [hfw] at hF hlen
  simp only at hF hlen
  obtain ⟨g, hg⟩ : ∃ g, w.heap.size = g := ⟨_, rfl⟩
  have HG := Lib.hid hg
  rw [hg] at k0
  have HFW := Lib.hid hfw
  have HK0 := Lib.hid k0
  have HB1 := Lib.hid hb1
  clear hw1 hfw k0 hg hb1 hy
  go_enter Tryz.func23, Tryz.ntmps23
  go_upto_region 1 with fail
  rw [HWW.out, HG.out]
  go_upto_region 2 with (go_at_call 50; refine hF.out.mono ?_; rintro e w2 ⟨cv, rfl, hcv, hb2⟩; obtain ⟨ca, cc, hcs⟩ := hcv.shape; subst hcs; have HCV := Lib.hid hcv; have HB2 := Lib.hid (bel_tr HB1.out hb2); have HK2 := Lib.hid (HK0.out.below hb2); clear hcv hb2)
  by_cases hf : f = 0
  · subst hf
    go_upto_region 5 with (go_at_call 51; refine (rread_any _ c _ HCV.out).mono ?_; rintro e w3 ⟨rfl, hr3, hb3⟩; have HB3 := Lib.hid (bel_tr HB2.out hb3); have HK3 := Lib.hid (HK2.out.below hb3); have HR3 := Lib.hid hr3; clear hr3 hb3)
    have hgp : g < w2.heap.size := heap_lt HK2.out.row
    have YL : Hid (c ≠ [] → ∀ k, (Value.slice ca c.length cc).ownBlock = some k → k < w2.heap.size) := fun hl => HCV.out.lt hl
    obtain ⟨p, hp⟩ : ∃ p, w2.heap.size = p := ⟨_, rfl⟩
    rw [hp] at HR3 hgp YL ⊢
    clear hp
    obtain ⟨n1, p1, b1, hv1⟩ : ∃ n p b, rnum 2147483648 c 0 0 = (n, p, b) := ⟨_, _, _, rfl⟩
    obtain ⟨n2, p2, b2, hv2⟩ : ∃ n p b, rnum 2147483648 c p1 b1 = (n, p, b) := ⟨_, _, _, rfl⟩
    obtain ⟨n3, p3, b3, hv3⟩ : ∃ n p b, rnum 4095 c p2 b2 = (n, p, b) := ⟨_, _, _, rfl⟩
    obtain ⟨n4, p4, b4, hv4⟩ : ∃ n p b, rnum 1099511627776 c p3 b3 = (n, p, b) := ⟨_, _, _, rfl⟩
    obtain ⟨n5, p5, b5, hv5⟩ : ∃ n p b, rnum 1099511627776 c p4 b4 = (n, p, b) := ⟨_, _, _, rfl⟩
    obtain ⟨n6, p6, b6, hv6⟩ : ∃ n p b, rnum 1048576 c p5 b5 = (n, p, b) := ⟨_, _, _, rfl⟩
    obtain ⟨tg, p7, b7, hv7⟩ : ∃ n p b, rbytes 32 c p6 b6 = (n, p, b) := ⟨_, _, _, rfl⟩
    have HTO := Lib.hid (topen_r HFW.out hv1 hv2 hv3 hv4 hv5 hv6 hv7)
    have hcl : c.length ≤ 140737488355328 := by omega
    have C1 := fun w h => rrnumber_rd 2147483648 (by omega) p (.slice ca c.length cc) c 0 0 w h
    have C2 := fun w h => rrnumber_rd 2147483648 (by omega) p (.slice ca c.length cc) c p1 b1 w h
    have C3 := fun w h => rrnumber_rd 4095 (by omega) p (.slice ca c.length cc) c p2 b2 w h
    have C4 := fun w h => rrnumber_rd 1099511627776 (by omega) p (.slice ca c.length cc) c p3 b3 w h
    have C5 := fun w h => rrnumber_rd 1099511627776 (by omega) p (.slice ca c.length cc) c p4 b4 w h
    have C6 := fun w h => rrnumber_rd 1048576 (by omega) p (.slice ca c.length cc) c p5 b5 w h
    have C7 := fun w h => rrbytes_rd 32 (by omega) p (.slice ca c.length cc) c p6 b6 w h hcl
    unfold RNumPost at C1 C2 C3 C4 C5 C6
    unfold RBytesPost at C7
    rw [hv1] at C1
    rw [hv2] at C2
    rw [hv3] at C3
    rw [hv4] at C4
    rw [hv5] at C5
    rw [hv6] at C6
    rw [hv7] at C7
    simp only at C1 C2 C3 C4 C5 C6 C7
    have H1 := Lib.hid C1
    have H2 := Lib.hid C2
    have H3 := Lib.hid C3
    have H4 := Lib.hid C4
    have H5 := Lib.hid C5
    have H6 := Lib.hid C6
    have H7 := Lib.hid C7
    clear C1 C2 C3 C4 C5 C6 C7 hv1 hv2 hv3 hv4 hv5 hv6 hv7 HK0 HK2
    go_upto_region 6 with (first
      | (go_at_call 52; refine (H1.out _ HR3.out).mono ?_; rintro e w4 ⟨rfl, h4, ho4⟩; have HR4 := Lib.hid h4; have HO4 := Lib.hid ho4; clear h4 ho4)
      | (with_reducible refine wpList_store_new rfl _ _ rfl rfl rfl (by kernel_rfl) (by simp) (by simp [Value.oneCell']) ?_))
    have hnb := (Below.refl w4.heap.size w4).alloc (Nat.le_refl _) (.cells #[.int .i64 (n1 : Int), .int .i64 0, .int .i64 0, .int .i64 0, .int .i64 0, .int .i64 0] 62)
    have hb4 : Below w.heap.size w w4 := HB3.out.trans (HO4.out.below (fun k hk => by have := HG.out; omega) HB3.out.size)
    have hk4 : TAt w4 g tz := ⟨(HO4.out.block g (heap_lt HK3.out.row) (by omega)).trans HK3.out.row⟩
    have htk : TAt (w4.alloc (.cells #[.int .i64 (n1 : Int), .int .i64 0, .int .i64 0, .int .i64 0, .int .i64 0, .int .i64 0] 62)) w4.heap.size ⟨n1, 0, 0, 0, 0, 0⟩ := ⟨heap_alloc_new _ _⟩
    have huo : UO w (w4.alloc (.cells #[.int .i64 (n1 : Int), .int .i64 0, .int .i64 0, .int .i64 0, .int .i64 0, .int .i64 0] 62)) g p w4.heap.size (.slice ca c.length cc) c p1 b1 ⟨n1, 0, 0, 0, 0, 0⟩ :=
      ⟨hb4.trans (hnb.mono hb4.size), hk4.below hnb, HR4.out.below hnb, htk, HG.out, hgp, HR4.out.lt, YL.out⟩
    obtain ⟨W1, hW1⟩ : ∃ X, w4.alloc (.cells #[.int .i64 (n1 : Int), .int .i64 0, .int .i64 0, .int .i64 0, .int .i64 0, .int .i64 0] 62) = X := ⟨_, rfl⟩
    obtain ⟨q, hq⟩ : ∃ q, w4.heap.size = q := ⟨_, rfl⟩
    rw [hW1, hq] at huo ⊢
    have U1 := Lib.hid huo
    clear hnb hb4 hk4 htk huo hW1 hq HR4 HO4 HR3 HK3 HB3 HB2 HCV
    go_upto_region 7 with (go_at_call 52; refine (H2.out _ U1.out.rd).mono ?_; rintro e x2 ⟨rfl, h4, ho4⟩; have V2 := Lib.hid (U1.out.read ho4 h4); have f2 := row_free V2.out.tok.row 1; obtain ⟨d1, d2, d3, d4, d5, d6⟩ := V2.out.tok.cells; clear h4 ho4)
    have huo : UO w (x2.setCell ⟨q, 1, none⟩ (.int .i64 (n2 : Int))) g p q (.slice ca c.length cc) c p2 b2 ⟨n1, n2, 0, 0, 0, 0⟩ := V2.out.set 1 _ rfl
    obtain ⟨W2, hW⟩ : ∃ X, x2.setCell ⟨q, 1, none⟩ (.int .i64 (n2 : Int)) = X := ⟨_, rfl⟩
    rw [hW] at huo ⊢
    have U2 := Lib.hid huo
    clear huo hW f2 d1 d2 d3 d4 d5 d6 V2 U1
    go_upto_region 8 with (go_at_call 52; refine (H3.out _ U2.out.rd).mono ?_; rintro e x3 ⟨rfl, h4, ho4⟩; have V3 := Lib.hid (U2.out.read ho4 h4); have f3 := row_free V3.out.tok.row 2; obtain ⟨d1, d2, d3, d4, d5, d6⟩ := V3.out.tok.cells; clear h4 ho4)
    have huo : UO w (x3.setCell ⟨q, 2, none⟩ (.int .i64 (n3 : Int))) g p q (.slice ca c.length cc) c p3 b3 ⟨n1, n2, n3, 0, 0, 0⟩ := V3.out.set 2 _ rfl
    obtain ⟨W3, hW⟩ : ∃ X, x3.setCell ⟨q, 2, none⟩ (.int .i64 (n3 : Int)) = X := ⟨_, rfl⟩
    rw [hW] at huo ⊢
    have U3 := Lib.hid huo
    clear huo hW f3 d1 d2 d3 d4 d5 d6 V3 U2
    go_upto_region 9 with (go_at_call 52; refine (H4.out _ U3.out.rd).mono ?_; rintro e x4 ⟨rfl, h4, ho4⟩; have V4 := Lib.hid (U3.out.read ho4 h4); have f4 := row_free V4.out.tok.row 3; obtain ⟨d1, d2, d3, d4, d5, d6⟩ := V4.out.tok.cells; clear h4 ho4)
    have huo : UO w (x4.setCell ⟨q, 3, none⟩ (.int .i64 (n4 : Int))) g p q (.slice ca c.length cc) c p4 b4 ⟨n1, n2, n3, n4, 0, 0⟩ := V4.out.set 3 _ rfl
    obtain ⟨W4, hW⟩ : ∃ X, x4.setCell ⟨q, 3, none⟩ (.int .i64 (n4 : Int)) = X := ⟨_, rfl⟩
    rw [hW] at huo ⊢
    have U4 := Lib.hid huo
    clear huo hW f4 d1 d2 d3 d4 d5 d6 V4 U3
    go_upto_region 10 with (go_at_call 52; refine (H5.out _ U4.out.rd).mono ?_; rintro e x5 ⟨rfl, h4, ho4⟩; have V5 := Lib.hid (U4.out.read ho4 h4); have f5 := row_free V5.out.tok.row 4; obtain ⟨d1, d2, d3, d4, d5, d6⟩ := V5.out.tok.cells; clear h4 ho4)
    have huo : UO w (x5.setCell ⟨q, 4, none⟩ (.int .i64 (n5 : Int))) g p q (.slice ca c.length cc) c p5 b5 ⟨n1, n2, n3, n4, n5, 0⟩ := V5.out.set 4 _ rfl
    obtain ⟨W5, hW⟩ : ∃ X, x5.setCell ⟨q, 4, none⟩ (.int .i64 (n5 : Int)) = X := ⟨_, rfl⟩
    rw [hW] at huo ⊢
    have U5 := Lib.hid huo
    clear huo hW f5 d1 d2 d3 d4 d5 d6 V5 U4
    go_upto_region 11 with (go_at_call 52; refine (H6.out _ U5.out.rd).mono ?_; rintro e x6 ⟨rfl, h4, ho4⟩; have V6 := Lib.hid (U5.out.read ho4 h4); have f6 := row_free V6.out.tok.row 5; obtain ⟨d1, d2, d3, d4, d5, d6⟩ := V6.out.tok.cells; clear h4 ho4)
    have huo : UO w (x6.setCell ⟨q, 5, none⟩ (.int .i64 (n6 : Int))) g p q (.slice ca c.length cc) c p6 b6 ⟨n1, n2, n3, n4, n5, n6⟩ := V6.out.set 5 _ rfl
    obtain ⟨W6, hW⟩ : ∃ X, x6.setCell ⟨q, 5, none⟩ (.int .i64 (n6 : Int)) = X := ⟨_, rfl⟩
    rw [hW] at huo ⊢
    have U6 := Lib.hid huo
    clear huo hW f6 d1 d2 d3 d4 d5 d6 V6 U5
    go_upto_region 12 with (go_at_call 53; refine (H7.out _ U6.out.rd).mono ?_; rintro e w11 ⟨tv, rfl, hot, h4, ho4⟩; have U7 := Lib.hid (U6.out.read ho4 h4); have HTV := Lib.hid hot.bs; clear h4 ho4 hot)
    obtain ⟨d, hd⟩ : ∃ d, rdone c p7 b7 = d := ⟨_, rfl⟩
    have hdd := rrdone_any p _ c p7 b7 w11 U7.out.rd
    rw [hd] at hdd HTO
    have HDD := Lib.hid hdd
    have HDN := Lib.hid hd
    clear hd hdd U6 H1 H2 H3 H4 H5 H6 H7
    obtain ⟨ta, tc, htv⟩ := HTV.out.shape
    subst htv
    obtain ⟨m, hm⟩ : ∃ m, tg.length = m := ⟨_, rfl⟩
    have HM := Lib.hid hm
    rw [hm]
    clear hm
    have hTV := HTV.out
    rw [HM.out] at hTV
    have HTV2 := Lib.hid hTV
    clear hTV HTV
    by_cases hd : d = 0
    · subst hd
      go_upto_region 14 with (go_at_call 54; refine HDD.out.mono ?_; rintro e w12 ⟨rfl, hb12⟩; have HB12 := Lib.hid (bel_tr U7.out.bel hb12); have HK12 := Lib.hid (U7.out.res.below hb12); have HQ12 := Lib.hid (U7.out.tok.below hb12); have HTV := Lib.hid (HTV2.out.below hb12); clear hb12)
      clear HDD U7 HTV2 HDN
      have hmay := umay_any ⟨n1, n2, n3, n4, n5, n6⟩ w12
      obtain ⟨bm, hbm⟩ : ∃ x, tmay ⟨n1, n2, n3, n4, n5, n6⟩ = x := ⟨_, rfl⟩
      rw [hbm] at hmay
      have HTO2 : Hid (topen b = if bm = true ∧ m = 32 then (⟨n1, n2, n3, n4, n5, n6⟩, tg, 0) else (tz, [], 2)) := Lib.hid (by rw [HTO.out, if_neg (by omega), hbm, HM.out])
      unfold Tok.row at hmay
      have HMAY := Lib.hid hmay
      obtain ⟨c0, c1, c2, c3, c4, c5⟩ := HQ12.out.cells
      dsimp only at c0 c1 c2 c3 c4 c5
      clear hmay hbm HTO
      rcases bm with _ | _
      · have HTF : Hid (topen b = (tz, [], 2)) := Lib.hid (by rw [HTO2.out, if_neg (by simp)])
        go_upto_region 15 with (go_at_call 55; refine HMAY.out.mono ?_; rintro e w13 ⟨rfl, hb13⟩; have HB13 := Lib.hid (bel_tr HB12.out hb13); have HK13 := Lib.hid (HK12.out.below hb13); clear hb13)
        clear c0 c1 c2 c3 c4 c5
        go_wp2_with (with_reducible refine wpList_store_row rfl _ _ rfl rfl rfl HK13.out.row (by kernel_rfl) (by simp [Tok.row]) (by simp [Value.oneCell']) ?_)
        have hk2 := HK13.out
        rw [← HG.out] at hk2 ⊢
        obtain ⟨hpo, hta⟩ := open_end HTF.out (Ob.nil w13 0 5).bs HB13.out hk2
        obtain ⟨c0, c1, c2, c3, c4, c5⟩ := hta.cells
        clear hta
        unfold Tok.row tz at hpo c0 c1 c2 c3 c4 c5
        refine bodyPost_ret (v := .tuple #[.agg #[.int .i64 0, .int .i64 0, .int .i64 0, .int .i64 0, .int .i64 0, .int .i64 0], .slice none 0 0, .int .i64 ((2 : Nat) : Int)]) ?_ rfl hpo
        simp [results, Tryz.results23, go_sem, c0, c1, c2, c3, c4, c5]
      · by_cases h32 : m = 32
        · have HTF : Hid (topen b = (⟨n1, n2, n3, n4, n5, n6⟩, tg, 0)) := Lib.hid (by rw [HTO2.out, if_pos ⟨rfl, h32⟩])
          subst h32
          go_upto_region 16 with (go_at_call 55; refine HMAY.out.mono ?_; rintro e w13 ⟨rfl, hb13⟩; have HB13 := Lib.hid (bel_tr HB12.out hb13); have HK13 := Lib.hid (HK12.out.below hb13); have HQ13 := Lib.hid (HQ12.out.below hb13); have HTV3 := Lib.hid (HTV.out.below hb13); clear hb13)
          clear c0 c1 c2 c3 c4 c5
          obtain ⟨c0, c1, c2, c3, c4, c5⟩ := HQ13.out.cells
          dsimp only at c0 c1 c2 c3 c4 c5
          go_wp2_with (with_reducible refine wpList_store_row rfl _ _ rfl rfl rfl HK13.out.row (by kernel_rfl) (by simp [Tok.row]) (by simp [Value.oneCell']) ?_)
          have hk2 := HK13.out
          rw [← HG.out] at hk2 ⊢
          clear c0 c1 c2 c3 c4 c5
          obtain ⟨hpo, hta⟩ := open_end HTF.out HTV3.out HB13.out hk2
          obtain ⟨c0, c1, c2, c3, c4, c5⟩ := hta.cells
          clear hta
          unfold Tok.row at hpo c0 c1 c2 c3 c4 c5
          dsimp only at hpo c0 c1 c2 c3 c4 c5
          refine bodyPost_ret (v := .tuple #[.agg #[.int .i64 n1, .int .i64 n2, .int .i64 n3, .int .i64 n4, .int .i64 n5, .int .i64 n6], .slice ta 32 tc, .int .i64 ((0 : Nat) : Int)]) ?_ rfl hpo
          simp [results, Tryz.results23, go_sem, c0, c1, c2, c3, c4, c5]
        · have hne : ((m : Int) != 32) = true := by simp; omega
          have HTF : Hid (topen b = (tz, [], 2)) := Lib.hid (by rw [HTO2.out, if_neg (by simp [h32])])
          clear h32
          go_upto_region 15 with (go_at_call 55; refine HMAY.out.mono ?_; rintro e w13 ⟨rfl, hb13⟩; have HB13 := Lib.hid (bel_tr HB12.out hb13); have HK13 := Lib.hid (HK12.out.below hb13); clear hb13)
          clear c0 c1 c2 c3 c4 c5
          go_wp2_with (with_reducible refine wpList_store_row rfl _ _ rfl rfl rfl HK13.out.row (by kernel_rfl) (by simp [Tok.row]) (by simp [Value.oneCell']) ?_)
          have hk2 := HK13.out
          rw [← HG.out] at hk2 ⊢
          obtain ⟨hpo, hta⟩ := open_end HTF.out (Ob.nil w13 0 5).bs HB13.out hk2
          obtain ⟨c0, c1, c2, c3, c4, c5⟩ := hta.cells
          clear hta
          unfold Tok.row tz at hpo c0 c1 c2 c3 c4 c5
          refine bodyPost_ret (v := .tuple #[.agg #[.int .i64 0, .int .i64 0, .int .i64 0, .int .i64 0, .int .i64 0, .int .i64 0], .slice none 0 0, .int .i64 ((2 : Nat) : Int)]) ?_ rfl hpo
          simp [results, Tryz.results23, go_sem, c0, c1, c2, c3, c4, c5]
    · have hdi : ((d : Int) != 0) = true := by simp; omega
      have HTF : Hid (topen b = (tz, [], d)) := Lib.hid (by rw [HTO.out, if_pos hd])
      clear hd
      have HD2 : Hid (∀ W, Below w11.heap.size w11 W → Calls Tryz.prog 54 #[.pointer (some ⟨p, 0, none⟩)] W fun e w' => e = .returned (.int .i64 d) ∧ Below W.heap.size W w') := by
        intro W hW
        have := rrdone_any p _ c p7 b7 W (U7.out.rd.below hW)
        rw [HDN.out] at this
        exact this
      go_wp2_with (first
        | (go_at_call 54; with_reducible refine HDD.out.mono ?_; rintro e w12 ⟨rfl, hb12⟩; have HB12 := Lib.hid hb12; clear hb12)
        | (go_at_call 54; with_reducible refine (HD2.out _ HB12.out).mono ?_; rintro e w13 ⟨rfl, hb13⟩; have HB13 := Lib.hid (bel_tr U7.out.bel (bel_tr HB12.out hb13)); have HK13 := Lib.hid (U7.out.res.below (bel_tr HB12.out hb13)); clear hb13)
        | (with_reducible refine wpList_store_row rfl _ _ rfl rfl rfl HK13.out.row (by kernel_rfl) (by simp [Tok.row]) (by simp [Value.oneCell']) ?_))
      have hk2 := HK13.out
      rw [← HG.out] at hk2 ⊢
      obtain ⟨hpo, hta⟩ := open_end HTF.out (Ob.nil w13 0 5).bs HB13.out hk2
      obtain ⟨c0, c1, c2, c3, c4, c5⟩ := hta.cells
      clear hta
      unfold Tok.row tz at hpo c0 c1 c2 c3 c4 c5
      refine bodyPost_ret (v := .tuple #[.agg #[.int .i64 0, .int .i64 0, .int .i64 0, .int .i64 0, .int .i64 0, .int .i64 0], .slice none 0 0, .int .i64 ((d : Nat) : Int)]) ?_ rfl hpo
      simp [results, Tryz.results23, go_sem, c0, c1, c2, c3, c4, c5]
  · have hfi : ((f : Int) != 0) = true := by simp; omega
    have HTF := Lib.hid (topen_f HFW.out hf)
    clear hf
    go_wp2_with (with_reducible refine wpList_store_row rfl _ _ rfl rfl rfl HK2.out.row (by kernel_rfl) (by simp [Tok.row]) (by simp [Value.oneCell']) ?_)
    have hk2 := HK2.out
    rw [← HG.out] at hk2 ⊢
    obtain ⟨hpo, hta⟩ := open_end HTF.out (Ob.nil w2 0 5).bs HB2.out hk2
    obtain ⟨c0, c1, c2, c3, c4, c5⟩ := hta.cells
    clear hta
    unfold Tok.row tz at hpo c0 c1 c2 c3 c4 c5
    refine bodyPost_ret (v := .tuple #[.agg #[.int .i64 0, .int .i64 0, .int .i64 0, .int .i64 0, .int .i64 0, .int .i64 0], .slice none 0 0, .int .i64 ((f : Nat) : Int)]) ?_ rfl hpo
    simp [results, Tryz.results23, go_sem, c0, c1, c2, c3, c4, c5]
end Go.Proofs.YtjnbdeopoohnmaaGreatDoor
