/- Layer 9 (ring): the walk of the statement RingTells. -/
import Derived.Test.YtmhgdddnjnichaaDoorRingR
import Derived.Test.YtmhgdddnjnichaaDoorRingQ
import Derived.Test.YtmhgdddnjnichaaDoorRingS
import Derived.Deep.RegionHeld3
import Derived.Deep.CutBlock
import Derived.Deep.DeepCutAuto
set_option linter.unusedSimpArgs false
namespace Go.Proofs.YtmhgdddnjnichaaDoor
open Go.RowKit Go.Sort

set_option maxRecDepth 100000 in
set_option maxHeartbeats 6400000 in
theorem ringtells_walk (keep n0 n1 : Int) (v vd : Value) (l : List RK) (draw : List UInt8) (w : World) (h : Ks w v l) (hw : -9223372036854775808 ≤ keep ∧ keep ≤ 9223372036854775807) (hd : Bs w vd draw) (hT : Tabbed w) :
    Calls Tryd.prog 7 #[.agg #[.int .i64 keep, v], vd, .agg #[.int .i64 n0, .int .i64 n1]] w fun e w' => e = .returned (.bool true) ∧ Below w.heap.size w w' := by
  obtain ⟨da, dc, rfl⟩ := hd.shape
  obtain ⟨M, hM⟩ : ∃ M, draw.length = M := ⟨_, rfl⟩
  rw [hM]
  rw [hM] at hd
  have hA := bel_al (bel_al (Below.refl w.heap.size w) (Obj.cells #[.int .i64 keep, v] 39)) (Obj.cells #[.int .i64 n0, .int .i64 n1] 40)
  have hr1 : ((w.alloc (.cells #[.int .i64 keep, v] 39)).alloc (.cells #[.int .i64 n0, .int .i64 n1] 40)).heap[w.heap.size]? = some (.cells #[.int .i64 keep, v] 39 (0, 0)) := by rw [alloc_get, if_neg (by simp)]; exact heap_alloc_new _ _
  have hr2 : ((w.alloc (.cells #[.int .i64 keep, v] 39)).alloc (.cells #[.int .i64 n0, .int .i64 n1] 40)).heap[w.heap.size + 1]? = some (.cells #[.int .i64 n0, .int .i64 n1] 40 (0, 0)) := by rw [alloc_get, if_pos (by simp)]
  have H := Lib.hid h
  have HW := Lib.hid hw
  have HD := Lib.hid hd
  have HT := Lib.hid hT
  have HA := Lib.hid hA
  have HR1 := Lib.hid hr1
  have HR2 := Lib.hid hr2
  have HM := Lib.hid hM
  clear h hw hd hT hA hr1 hr2 hM
  go_enter Tryd.func7, Tryd.ntmps7
  go_wp2_with fail
  refine (awake9 _ (HT.out.below HA.out)).mono ?_
  rintro e w1 ⟨rfl, hb1⟩
  have HB1 := Lib.hid (bel_tr HA.out hb1)
  have HQ1 : Hid (w1.heap[w.heap.size]? = some (.cells #[.int .i64 keep, v] 39 (0, 0))) := (hb1.block _ (heap_lt HR1.out)).trans HR1.out
  have HQ2 : Hid (w1.heap[w.heap.size + 1]? = some (.cells #[.int .i64 n0, .int .i64 n1] 40 (0, 0))) := (hb1.block _ (heap_lt HR2.out)).trans HR2.out
  have c0 : w1.cell? ⟨w.heap.size, 0, none⟩ = some (.int .i64 keep) := cell_of_row w1 _ _ _ _ _ HQ1.out
  have c1 : w1.cell? ⟨w.heap.size, 1, none⟩ = some v := cell_of_row w1 _ _ _ _ _ HQ1.out
  clear hb1 HR1 HR2 HA
  go_wp2_with fail
  refine (few9_any keep v l _ (H.out.below HB1.out)).mono ?_
  rintro e w2 ⟨rfl, hb2⟩
  have HB2 := Lib.hid (bel_tr HB1.out hb2)
  have HP1 : Hid (w2.heap[w.heap.size]? = some (.cells #[.int .i64 keep, v] 39 (0, 0))) := (hb2.block _ (heap_lt HQ1.out)).trans HQ1.out
  have HP2 : Hid (w2.heap[w.heap.size + 1]? = some (.cells #[.int .i64 n0, .int .i64 n1] 40 (0, 0))) := (hb2.block _ (heap_lt HQ2.out)).trans HQ2.out
  have HCR : Hid (∀ W, Below w2.heap.size w2 W → W.cell? ⟨w.heap.size, 0, none⟩ = some (.int .i64 keep) ∧ W.cell? ⟨w.heap.size, 1, none⟩ = some v ∧ W.cell? ⟨w.heap.size + 1, 0, none⟩ = some (.int .i64 n0) ∧ W.cell? ⟨w.heap.size + 1, 1, none⟩ = some (.int .i64 n1)) := by
    intro W hW
    have h1 := (hW.block _ (heap_lt HP1.out)).trans HP1.out
    have h2 := (hW.block _ (heap_lt HP2.out)).trans HP2.out
    exact ⟨cell_of_row W _ _ _ _ _ h1, cell_of_row W _ _ _ _ _ h1, cell_of_row W _ _ _ _ _ h2, cell_of_row W _ _ _ _ _ h2⟩
  clear hb2 HQ1 HQ2 c0 c1
  by_cases hfew : RFew l
  · rw [rfew_yes hfew]
    by_cases hm : M ≤ 200
    · have e1 : ¬ (200 : Int) < M := by omega
      have hm2 : (0 : Int) ≤ M ∧ (M : Int) ≤ 200 := by omega
      have hl30 : l.length ≤ 30 := hfew.1
      have HFEW := Lib.hid hfew
      clear hfew
      go_upto_region 5 with fail
      clear e1
      obtain ⟨c0, c1, _, _⟩ := HCR.out w2 (Below.refl _ _)
      have q0 := fun d os => cell_regrown c0 d os
      have q1 := fun d os => cell_regrown c1 d os
      have S1 : Hid (∀ d os, Calls Tryd.prog 29 #[.agg #[.int .i64 keep, v]] (grow (redrawn w2 d) os) fun e w'' => e = .returned (.bool (kok keep l)) ∧ ∃ p : Regrown, w'' = grow (redrawn w2 p.d) p.os) := fun d os =>
        Calls.regrown_of (right_any keep v l _ (H.out.below (bel_tr HB2.out (below_regrown w2 d os))) HW.out)
      have S2 : Hid (∀ d os, Calls Tryd.prog 30 #[.agg #[.int .i64 keep, v]] (grow (redrawn w2 d) os) fun e w'' => e = .returned (.bool (kok keep l)) ∧ ∃ p : Regrown, w'' = grow (redrawn w2 p.d) p.os) := fun d os =>
        Calls.regrown_of (rrright_any keep v l _ (H.out.below (bel_tr HB2.out (below_regrown w2 d os))) HW.out)
      obtain ⟨rk, hrk⟩ : ∃ b, kok keep l = b := ⟨_, rfl⟩
      rw [hrk] at S1 S2
      have hne : (rk != rk) = false := by cases rk <;> rfl
      have HRK := Lib.hid hrk
      clear c0 c1 hrk
      refine wp_region_quiet_below (by kernel_rfl) (by kernel_rfl) ?_
      repeat (go_big_quiet_step ((first | (go_at_call 29; with_reducible exact S1.out _ _) | (go_at_call 30; with_reducible exact S2.out _ _))))
      refine wpQuiet_nil ?_
      intro _ hw'
      obtain ⟨⟨dq, osq⟩, hw''⟩ := hw'
      subst hw''
      have hb3 := below_regrown w2 dq osq
      obtain ⟨w3, hwq⟩ : ∃ x, x = grow (redrawn w2 dq) osq := ⟨_, rfl⟩
      rw [← hwq] at hb3 ⊢
      clear hwq
      have HB3 := Lib.hid hb3
      clear q0 q1 S1 S2 hb3
      obtain ⟨c0, c1, c2, c3⟩ := HCR.out w3 HB3.out
      go_upto_region 7 with fail
      clear hne
      go_upto_region 8 with (first
        | (go_at_call 31; refine (new_all n0 _ draw _ (HD.out.below (bel_tr HB2.out HB3.out)) (HT.out.below (bel_tr HB2.out HB3.out))).mono ?_; rintro e w4 ⟨kp, na, nn, nc, er, l2, rfl, HK4, hb4, HS4⟩; have HB4 := Lib.hid (bel_tr HB3.out hb4.out); clear hb4 c0 c1 c2 c3)
        | (with_reducible refine wpList_store_new rfl _ _ rfl rfl rfl (by kernel_rfl) (by simp) (by simp [Value.oneCell']) ?_))
      have hb5 : Below w2.heap.size w2 (w4.alloc (.cells #[.int .i64 kp, .slice na nn nc] 39)) := bel_al HB4.out _
      have HK5 : Hid (Ks (w4.alloc (.cells #[.int .i64 kp, .slice na nn nc] 39)) (.slice na nn nc) l2) := HK4.out.below ((Below.refl _ _).alloc (Nat.le_refl _) _)
      have HR5 : Hid ((w4.alloc (.cells #[.int .i64 kp, .slice na nn nc] 39)).heap[w4.heap.size]? = some (.cells #[.int .i64 kp, .slice na nn nc] 39 (0, 0))) := heap_alloc_new _ _
      obtain ⟨W5, hW5⟩ : ∃ W, w4.alloc (.cells #[.int .i64 kp, .slice na nn nc] 39) = W := ⟨_, rfl⟩
      rw [hW5] at hb5 HK5 HR5 ⊢
      obtain ⟨g, hg⟩ : ∃ g, w4.heap.size = g := ⟨_, rfl⟩
      rw [hg] at HR5 ⊢
      have HB5 := Lib.hid hb5
      clear hW5 hb5 hg HK4 HB4
      obtain ⟨c0, c1, c2, c3⟩ := HCR.out W5 HB5.out
      have HML := HM
      obtain ⟨nb, hnb⟩ : ∃ nb : Bool, (nb = true ↔ NewBad n0 draw) := ⟨@decide _ (Classical.propDecidable _), by rw [@decide_eq_true_iff _ (Classical.propDecidable _)]⟩
      have HNB := Lib.hid hnb
      clear hnb
      go_cut [52] (fun c wx => c = .bool nb ∧ wx = W5)
      case first =>
        by_cases h1 : n0 < 1
        · obtain rfl : nb = true := HNB.out.2 (.inl h1)
          go_wp2
          go_meet
          case rel => exact ⟨rfl, rfl⟩
        · by_cases h2 : 16 < n0
          · obtain rfl : nb = true := HNB.out.2 (.inr (.inl h2))
            go_wp2
            go_meet
            case rel => exact ⟨rfl, rfl⟩
          · by_cases h3 : M = 32
            · have h4 : ((M : Int) != 32) = false := by simp; omega
              obtain rfl : nb = false := by
                cases nb with
                | false => rfl
                | true => have := HNB.out.1 rfl; unfold NewBad at this; have := HML.out; omega
              clear h3
              go_wp2
              go_meet
              case rel => exact ⟨rfl, rfl⟩
            · have h4 : ((M : Int) != 32) = true := by simp; omega
              obtain rfl : nb = true := HNB.out.2 (.inr (.inr (by rw [HML.out]; exact h3)))
              clear h3
              go_wp2
              go_meet
              case rel => exact ⟨rfl, rfl⟩
      case rest =>
        obtain ⟨rfl, hwc⟩ := hcut
        rw [hwc]
        clear hwc
        go_upto_if 52 with fail
        go_cut [] (fun wx => Hid (Below w2.heap.size w2 wx))
        case first =>
          have j0 : W5.cell? ⟨g, 0, none⟩ = some (.int .i64 kp) := cell_of_row W5 _ _ _ _ _ HR5.out
          have j1 : W5.cell? ⟨g, 1, none⟩ = some (.slice na nn nc) := cell_of_row W5 _ _ _ _ _ HR5.out
          rcases HS4.out with ⟨hbad, rfl, rfl, rfl, rfl⟩ | ⟨hgood, rfl, rfl, rfl, xa, xc, rfl⟩
          · obtain rfl : nb = true := HNB.out.2 hbad
            clear hbad
            go_wp2
            go_meet
            case rel => exact HB5
          · obtain rfl : nb = false := by
              cases nb with
              | false => rfl
              | true => exact absurd (HNB.out.1 rfl) hgood
            have h32 : M = 32 := by unfold NewBad at hgood; rw [HML.out] at hgood; omega
            subst h32
            have TK : Hid (∀ W, Below W5.heap.size W5 W → Calls Tryd.prog 33 #[.slice da 32 dc, .int .i64 1] W fun e w' => ∃ a c, e = .returned (.slice a 32 c) ∧ Hid (Bs w' (.slice a 32 c) (rkey draw 1)) ∧ Below W.heap.size W w') := by
              intro W hW
              have hq : (Calls Tryd.prog 33 #[.slice da 32 dc, .int .i64 ((1 : Nat) : Int)] W _) := rrkey_any (.slice da 32 dc) draw 1 W ((HD.out.below HB2.out).below ((bel_tr HB5.out hW).mono (Nat.le_refl _))) (by rw [HML.out]; omega) (by omega)
              refine Calls.mono hq ?_
              rintro e w' ⟨y, rfl, hy, hb⟩
              obtain ⟨ay, cy, rfl⟩ := hy.shape
              rw [rkey_len] at hy ⊢
              exact ⟨ay, cy, rfl, Lib.hid hy.bs, hb⟩
            have TS : Hid (∀ W ak ck, Below W5.heap.size W5 W → Bs W (.slice ak 32 ck) (rkey draw 1) → Calls Tryd.prog 32 #[.agg #[.int .i64 kp, .slice na 1 nc], .agg #[.int .i64 kp, .slice (some ⟨W.heap.size, 0, none⟩) 1 1]] (W.alloc (.cells #[.int .i64 1, .slice ak 32 ck] 48)) fun e w' => e = .returned (.bool true) ∧ Below W5.heap.size W5 w') := by
              intro W ak ck hW hb
              have hal : Below W.heap.size W (W.alloc (.cells #[.int .i64 1, .slice ak 32 ck] 48)) := (Below.refl _ _).alloc (Nat.le_refl _) _
              have hg : Gs 2 RK.cells (W.alloc (.cells #[.int .i64 1, .slice ak 32 ck] 48)) (.slice (some ⟨W.heap.size, 0, none⟩) 1 1) [⟨1, ak, ck, rkey draw 1⟩] :=
                (gw_lit layK W 48 #[.int .i64 1, .slice ak 32 ck] [⟨1, ak, ck, rkey draw 1⟩] 1 rfl (by decide) (by simp [gcells, RK.cells, RK.v, rkey_len])).gs
              refine (rrsame_yes kp _ _ _ [⟨1, ak, ck, rkey draw 1⟩] _ ((HK5.out.below hW).below hal) (ks_one hg (by unfold RK.v; rw [rkey_len]; exact hb.below hal) (And.intro (show (-9223372036854775808 : Int) ≤ 1 by omega) (show (1 : Int) ≤ 9223372036854775807 by omega))) rfl).mono ?_
              rintro e w' ⟨rfl, hb'⟩
              exact ⟨rfl, bel_tr (bel_al hW _) hb'⟩
            have HJ : Hid (∀ W, Below W5.heap.size W5 W → W.cell? ⟨g, 0, none⟩ = some (.int .i64 kp) ∧ W.cell? ⟨g, 1, none⟩ = some (.slice na 1 nc) ∧ W.cell? ⟨w.heap.size + 1, 0, none⟩ = some (.int .i64 kp)) := by
              intro W hW
              have h1 := (hW.block _ (heap_lt HR5.out)).trans HR5.out
              exact ⟨cell_of_row W _ _ _ _ _ h1, cell_of_row W _ _ _ _ _ h1, (HCR.out W (bel_tr HB5.out hW)).2.2.1⟩
            have HB0 : Below W5.heap.size W5 W5 := Below.refl _ _
            have HJ0 := HJ.out W5 HB0
            clear hgood j0 j1 c0 c1 c2 c3
            go_upto_region 11 with fail
            go_region_held3 (fun W => W.cell? ⟨g, 0, none⟩ = some (.int .i64 kp) ∧ W.cell? ⟨g, 1, none⟩ = some (.slice na 1 nc) ∧ W.cell? ⟨w.heap.size + 1, 0, none⟩ = some (.int .i64 kp)) (first | exact HJ0 | with_reducible exact HJ.out _ hbs | with_reducible exact HJ.out _ (bel_al HBK _) | with_reducible exact HJ.out _ HBK) (first
              | (go_at_call 33; with_reducible refine (TK.out _ (by repeat (first | assumption | refine bel_dr ?_ | refine bel_al ?_ _))).mono ?_; rintro e wk ⟨ak, ck, rfl, hok, hbk⟩; have HBK := bel_tr (w := W5) (by repeat (first | assumption | refine bel_dr ?_ | refine bel_al ?_ _)) hbk)
              | (go_at_call 32; with_reducible refine (TS.out _ _ _ HBK hok.out).mono ?_; rintro e ws ⟨rfl, hbs⟩))
            all_goals
              go_wp2
              go_meet
              case rel => exact Lib.hid (bel_tr HB5.out hbs)
        case rest =>
          clear HS4 HR5 HK5 HNB HB5 c0 c1 c2 c3
          have HSM : Hid (∀ k ∈ l, k.b.length ≤ 1000000) := by
            show ∀ k ∈ l, _
            intro k hk
            obtain ⟨i, hi, hix⟩ := List.getElem_of_mem hk
            have := HFEW.out.2 i k (by rw [List.getElem?_eq_getElem hi, hix])
            omega
          obtain ⟨fs, hfs⟩ : ∃ b, (kf n1 l).isSome = b := ⟨_, rfl⟩
          obtain ⟨fb, hfb⟩ : ∃ b, (kf n1 l).getD [] = b := ⟨_, rfl⟩
          have hwc := hcut.out
          obtain ⟨p0, p1, p2, p3⟩ := HCR.out wc hwc
          have F1 : Hid (∀ W, Below w2.heap.size w2 W → Calls Tryd.prog 34 #[.agg #[.int .i64 keep, v], .int .i64 n1] W fun e w' => ∃ a n c, e = .returned (.tuple #[.slice a n c, .bool fs]) ∧ Hid (Bs w' (.slice a n c) fb) ∧ Hid (Below w2.heap.size w2 w')) := by
            intro W hW
            refine (find_any keep v l n1 W (H.out.below (bel_tr HB2.out hW)) HSM.out).mono ?_
            rintro e w' ⟨y, rfl, hb, hbl⟩
            rw [hfb] at hb
            obtain ⟨a, c, rfl⟩ := hb.shape
            exact ⟨a, _, c, by rw [hfs], Lib.hid hb, Lib.hid (bel_tr hW hbl)⟩
          have F2 : Hid (∀ W, Below w2.heap.size w2 W → Calls Tryd.prog 35 #[.agg #[.int .i64 keep, v], .int .i64 n1] W fun e w' => ∃ a n c, e = .returned (.tuple #[.slice a n c, .bool fs]) ∧ Hid (Bs w' (.slice a n c) fb) ∧ Hid (Below w2.heap.size w2 w') ∧ Hid (Below W.heap.size W w')) := by
            intro W hW
            refine (rrfind_any keep v l n1 W (H.out.below (bel_tr HB2.out hW))).mono ?_
            rintro e w' ⟨y, rfl, hb, hbl⟩
            rw [hfb] at hb
            obtain ⟨a, c, rfl⟩ := hb.shape
            exact ⟨a, _, c, by rw [hfs], Lib.hid hb, Lib.hid (bel_tr hW hbl), Lib.hid hbl⟩
          clear hfs hfb hwc
          go_upto_region 14 with (go_at_call 34; refine (F1.out _ hcut.out).mono ?_; rintro e w6 ⟨f1a, f1n, f1c, rfl, FB1, HB6⟩)
          obtain ⟨p0, p1, p2, p3⟩ := HCR.out w6 HB6.out
          go_upto_region 16 with (go_at_call 35; refine (F2.out _ HB6.out).mono ?_; rintro e w7 ⟨f2a, f2n, f2c, rfl, FB2, HB7, HB67⟩)
          have FB1' := Lib.hid (FB1.out.below HB67.out)
          obtain ⟨p0, p1, p2, p3⟩ := HCR.out w7 HB7.out
          obtain ⟨n, hn⟩ : ∃ n, l.length = n := ⟨_, rfl⟩
          have hko := (H.out.below (bel_tr HB2.out HB7.out))
          obtain ⟨ka, kc, kb, ko, rfl, h2, h3, hi, hc⟩ := hko.open_ n hn
          have HI := Lib.hid hi
          have HC := Lib.hid hc
          have HN := Lib.hid hn
          have hn30 : n ≤ 30 := by omega
          clear hko hi hc hl30 hn
          go_wp2_with fail
          go_loopw [13, 92] (fun v13 vi wr => ∃ i : Nat, i ≤ n ∧ vi = .int .i64 i ∧ v13 = .int .i64 (epl (l.take i)) ∧ Hid (Below w7.heap.size w7 wr)) (fun _ vi _ => n - (intOf vi).toNat)
          case atStart => exact ⟨0, by omega, rfl, rfl, Lib.hid (Below.refl _ _)⟩
          case round =>
            obtain ⟨i, hin, rfl, rfl, hb⟩ := hrel
            by_cases hlt : i < n
            · have e1 : (i : Int) < n := by omega
              obtain ⟨k, hk⟩ : ∃ k, l[i]? = some k := ⟨_, List.getElem?_eq_getElem (by rw [HN.out]; exact hlt)⟩
              obtain ⟨d0, d1⟩ := HC.out _ hb.out i k hk
              have x0 := fun W => HI.out W i hlt
              have hst : epl (l.take (i + 1)) = k.ep := epl_get _ _ (by rw [List.length_take, HN.out, show min (i + 1) n - 1 = i by omega, List.getElem?_take, if_pos (by omega)]; exact hk)
              obtain ⟨ep, hep⟩ : ∃ ep, k.ep = ep := ⟨_, rfl⟩
              obtain ⟨kva, kvn, kvc, hkv⟩ : ∃ a n c, k.v = .slice a n c := ⟨_, _, _, rfl⟩
              rw [hep] at d0 hst
              rw [hkv] at d1
              have HST := Lib.hid hst
              clear hk hep hkv hst
              obtain ⟨epi, hepi⟩ : ∃ x, epl (l.take i) = x := ⟨_, rfl⟩
              rw [hepi]
              go_wp2_with (with_reducible refine wpList_store_new rfl _ _ rfl rfl rfl (by kernel_rfl) (by simp) (by simp [Value.oneCell']) ?_)
              go_roundw
              case rel => exact ⟨i + 1, by omega, by go_num, by rw [HST.out], Lib.hid (hb.out.alloc hb.out.size _)⟩
              case measure => simp [intOf]; omega
            · have e1 : ¬ (i : Int) < n := by omega
              obtain rfl : i = n := by omega
              rw [List.take_of_length_le (by rw [HN.out]; omega)]
              have HB8 := Lib.hid (bel_tr HB7.out hb.out)
              have FBA := Lib.hid (FB1'.out.below hb.out)
              have FBB := Lib.hid (FB2.out.below hb.out)
              clear hb
              have hff : (fs != fs) = false := by cases fs <;> rfl
              have hee : (epl l != epl l) = false := by simp
              obtain ⟨q0, q1, q2, q3⟩ := HCR.out wr HB8.out
              have N1 : Hid (∀ W, Below w2.heap.size w2 W → Calls Tryd.prog 36 #[.agg #[.int .i64 keep, .slice ka i kc]] W fun e w' => e = .returned (.int .i64 (epl l)) ∧ Below W.heap.size W w') := fun W hW => now_any keep _ l W (H.out.below (bel_tr HB2.out hW))
              obtain ⟨ee, hee2⟩ : ∃ x, epl l = x := ⟨_, rfl⟩
              rw [hee2] at N1 hee ⊢
              have HEE := Lib.hid hee2
              have HEE' := Lib.hid hee
              clear hee2 hee
              clear p0 p1 p2 p3
              go_upto_region 23 with (first
                | (go_at_call 17; refine (same_any _ _ _ _ _ FBA.out FBB.out).mono ?_; rw [beq_self_true]; rintro e w9 ⟨rfl, hb9⟩; have HB9 := Lib.hid (bel_tr HB8.out hb9); obtain ⟨r0, r1, r2, r3⟩ := HCR.out w9 HB9.out; clear hb9 q0 q1 q2 q3)
                | (go_at_call 36; refine (N1.out _ HB9.out).mono ?_; rintro e w10 ⟨rfl, hb10⟩; have HB10 := Lib.hid (bel_tr HB9.out hb10); obtain ⟨p0, p1, p2, p3⟩ := HCR.out w10 HB10.out; have hee := HEE'.out; clear hb10 r0 r1 r2 r3))
              clear hff hee
              go_upto_region 25 with (first
                | (go_at_call 37; refine (rotate_all keep _ _ l draw _ (H.out.below (bel_tr HB2.out HB10.out)) HW.out (HD.out.below (bel_tr HB2.out HB10.out)) (HT.out.below (bel_tr HB2.out HB10.out))).mono ?_; rintro e w11 ⟨kp2, ra, rn, rc, er2, l3, rfl, HK11, hb11, HE11, HS11⟩; have HB11 := Lib.hid (bel_tr HB10.out hb11.out); clear hb11 p0 p1 p2 p3)
                | (with_reducible refine wpList_store_new rfl _ _ rfl rfl rfl (by kernel_rfl) (by simp) (by simp [Value.oneCell']) ?_))
              have hb12 : Below w2.heap.size w2 (w11.alloc (.cells #[.int .i64 kp2, .slice ra rn rc] 39)) := bel_al HB11.out _
              have HK12 : Hid (Ks (w11.alloc (.cells #[.int .i64 kp2, .slice ra rn rc] 39)) (.slice ra rn rc) l3) := HK11.out.below ((Below.refl _ _).alloc (Nat.le_refl _) _)
              have HR12 : Hid ((w11.alloc (.cells #[.int .i64 kp2, .slice ra rn rc] 39)).heap[w11.heap.size]? = some (.cells #[.int .i64 kp2, .slice ra rn rc] 39 (0, 0))) := heap_alloc_new _ _
              obtain ⟨W12, hW12⟩ : ∃ W, w11.alloc (.cells #[.int .i64 kp2, .slice ra rn rc] 39) = W := ⟨_, rfl⟩
              rw [hW12] at hb12 HK12 HR12 ⊢
              obtain ⟨g2, hg2⟩ : ∃ g, w11.heap.size = g := ⟨_, rfl⟩
              rw [hg2] at HR12 ⊢
              have HB12 := Lib.hid hb12
              clear hW12 hb12 hg2 HK11 HB11
              obtain ⟨q0, q1, q2, q3⟩ := HCR.out W12 HB12.out
              have RR : Hid (Calls Tryd.prog 30 #[.agg #[.int .i64 keep, .slice ka i kc]] W12 fun e w' => e = .returned (.bool rk) ∧ Below W12.heap.size W12 w') := by
                have := rrright_any keep _ l W12 (H.out.below (bel_tr HB2.out HB12.out)) HW.out
                rw [HRK.out] at this
                exact this
              have HJ : Hid (∀ W, Below W12.heap.size W12 W → W.cell? ⟨g2, 0, none⟩ = some (.int .i64 kp2) ∧ W.cell? ⟨g2, 1, none⟩ = some (.slice ra rn rc)) := by
                intro W hW
                have h1 := (hW.block _ (heap_lt HR12.out)).trans HR12.out
                exact ⟨cell_of_row W _ _ _ _ _ h1, cell_of_row W _ _ _ _ _ h1⟩
              have hEc : (er2 = 2 ∧ rk = false) ∨ (er2 = 2 ∧ rk = true ∧ M ≠ 32) ∨ (er2 = 3 ∧ rk = true ∧ M = 32 ∧ ee = 1048576) ∨ (er2 = 0 ∧ rk = true ∧ M = 32 ∧ ee ≠ 1048576 ∧ RP keep l) := by
                have hM := HM.out
                have hE := HEE.out
                have hrk := HRK.out
                rcases HE11.out with ⟨h1, h2⟩ | ⟨h1, h2, h3, h4⟩ | ⟨h1, h2, h3, h4⟩
                · by_cases hr : RP keep l
                  · rw [kok_yes hr] at hrk
                    rcases h2 with h2 | h2
                    · exact absurd hr h2
                    · exact .inr (.inl ⟨h1, hrk.symm, by omega⟩)
                  · rw [kok_no hr] at hrk
                    exact .inl ⟨h1, hrk.symm⟩
                · rw [kok_yes h2] at hrk
                  exact .inr (.inr (.inl ⟨h1, hrk.symm, by omega, by omega⟩))
                · rw [kok_yes h2] at hrk
                  exact .inr (.inr (.inr ⟨h1, hrk.symm, by omega, by omega, h2⟩))
              rcases hEc with ⟨rfl, rfl⟩ | ⟨rfl, rfl, hM2⟩ | ⟨rfl, rfl, rfl, rfl⟩ | ⟨rfl, rfl, rfl, hee, hrp⟩
              · obtain ⟨rfl, rfl, rfl⟩ := HS11.out.1 (by decide)
                go_wp2_with (go_at_call 30; refine RR.out.mono ?_; rintro e w13 ⟨rfl, hb13⟩; obtain ⟨r0, r1⟩ := HJ.out w13 hb13; have HB13 := Lib.hid (bel_tr HB12.out hb13); clear hb13)
                go_ret
                exact ⟨rfl, bel_tr HB2.out HB13.out⟩
              · obtain ⟨rfl, rfl, rfl⟩ := HS11.out.1 (by decide)
                have h4 : ((M : Int) != 32) = true := by simp; omega
                clear hM2
                go_wp2_with (go_at_call 30; refine RR.out.mono ?_; rintro e w13 ⟨rfl, hb13⟩; obtain ⟨r0, r1⟩ := HJ.out w13 hb13; have HB13 := Lib.hid (bel_tr HB12.out hb13); clear hb13)
                go_ret
                exact ⟨rfl, bel_tr HB2.out HB13.out⟩
              · obtain ⟨rfl, rfl, rfl⟩ := HS11.out.1 (by decide)
                go_wp2_with (go_at_call 30; refine RR.out.mono ?_; rintro e w13 ⟨rfl, hb13⟩; obtain ⟨r0, r1⟩ := HJ.out w13 hb13; have HB13 := Lib.hid (bel_tr HB12.out hb13); clear hb13)
                go_ret
                exact ⟨rfl, bel_tr HB2.out HB13.out⟩
              · obtain ⟨rfl, ⟨xa, xc, rfl⟩, _⟩ := HS11.out.2 rfl
                have h5 : (ee == 1048576) = false := by simp; exact hee
                have HX := Lib.hid (And.intro hrp hee)
                clear hrp hee
                go_upto_region 24 with (go_at_call 30; refine RR.out.mono ?_; rintro e w13 ⟨rfl, hb13⟩; obtain ⟨r0, r1⟩ := HJ.out w13 hb13; have HB1213 := Lib.hid hb13; have HB13 := Lib.hid (bel_tr HB12.out hb13); clear hb13)
                clear h5 q0 q1 q2 q3 r0 r1
                have HK13 := Lib.hid (HK12.out.below HB1213.out)
                have HJ2 : Hid (∀ W, Below w13.heap.size w13 W → W.cell? ⟨g2, 0, none⟩ = some (.int .i64 kp2) ∧ W.cell? ⟨g2, 1, none⟩ = some (.slice ra rn rc) ∧ W.cell? ⟨w.heap.size, 0, none⟩ = some (.int .i64 kp2) ∧ W.cell? ⟨w.heap.size, 1, none⟩ = some (.slice ka i kc)) := by
                  intro W hW
                  obtain ⟨h1, h2⟩ := HJ.out W (bel_tr HB1213.out hW)
                  obtain ⟨h3, h4, _, _⟩ := HCR.out W (bel_tr HB13.out hW)
                  exact ⟨h1, h2, h3, h4⟩
                have TR : Hid (∀ W, Below w13.heap.size w13 W → Calls Tryd.prog 38 #[.agg #[.int .i64 kp2, .slice ka i kc], .slice da 32 dc] W fun e w' => ∃ a n c l4, e = .returned (.agg #[.int .i64 kp2, .slice a n c]) ∧ Hid (Ks w' (.slice a n c) l4 ∧ (rotl kp2 l ⟨epl l + 1, xa, xc, rkey draw (epl l + 1).toNat⟩).map (fun k => (k.ep, k.b)) = l4.map (fun k => (k.ep, k.b))) ∧ Below W.heap.size W w') := by
                  intro W hW
                  have hb := bel_tr (bel_tr HB2.out HB13.out) hW
                  refine (rrrotate_ok kp2 _ _ l draw W (H.out.below hb) (HD.out.below hb) HX.out.1 HM.out (by rw [HEE.out]; exact HX.out.2)).mono ?_
                  rintro e w' ⟨y, a, c, rfl, hk, hb'⟩
                  obtain ⟨a2, c2, rfl⟩ := hk.g.shape
                  refine ⟨a2, _, c2, _, rfl, ⟨hk, ?_⟩, hb'⟩
                  unfold rotl
                  simp
                have TS : Hid (∀ W a n c l4, Below w13.heap.size w13 W → Hid (Ks W (.slice a n c) l4 ∧ (rotl kp2 l ⟨epl l + 1, xa, xc, rkey draw (epl l + 1).toNat⟩).map (fun k => (k.ep, k.b)) = l4.map (fun k => (k.ep, k.b))) → Calls Tryd.prog 32 #[.agg #[.int .i64 kp2, .slice ra rn rc], .agg #[.int .i64 kp2, .slice a n c]] W fun e w' => e = .returned (.bool true) ∧ Below w13.heap.size w13 w') := by
                  intro W a n c l4 hW h4
                  refine (rrsame_yes kp2 _ _ _ l4 _ (HK13.out.below hW) h4.out.1 h4.out.2).mono ?_
                  rintro e w' ⟨rfl, hb'⟩
                  exact ⟨rfl, bel_tr hW hb'⟩
                have HB0 : Below w13.heap.size w13 w13 := Below.refl _ _
                have HJ0 := HJ2.out w13 HB0
                go_region_held3 (fun W => W.cell? ⟨g2, 0, none⟩ = some (.int .i64 kp2) ∧ W.cell? ⟨g2, 1, none⟩ = some (.slice ra rn rc) ∧ W.cell? ⟨w.heap.size, 0, none⟩ = some (.int .i64 kp2) ∧ W.cell? ⟨w.heap.size, 1, none⟩ = some (.slice ka i kc)) (first | exact HJ0 | with_reducible exact HJ2.out _ hbs | with_reducible exact HJ2.out _ HBK) (first
                  | (go_at_call 38; with_reducible refine (TR.out _ (by repeat (first | assumption | refine bel_dr ?_ | refine bel_al ?_ _))).mono ?_; rintro e wk ⟨a4, n4, c4, l4, rfl, hok, hbk⟩; have HBK := bel_tr (w := w13) (by repeat (first | assumption | refine bel_dr ?_ | refine bel_al ?_ _)) hbk)
                  | (go_at_call 32; with_reducible refine (TS.out _ _ _ _ _ HBK hok).mono ?_; rintro e ws ⟨rfl, hbs⟩))
                all_goals
                  go_wp2
                  go_ret
                  exact ⟨rfl, bel_tr (bel_tr HB2.out HB13.out) hbs⟩
    · have e1 : (200 : Int) < M := by omega
      go_wp2
      go_ret
      exact ⟨rfl, HB2.out⟩
  · rw [rfew_no hfew]
    clear hfew
    go_wp2
    go_ret
    exact ⟨rfl, HB2.out⟩

end Go.Proofs.YtmhgdddnjnichaaDoor
