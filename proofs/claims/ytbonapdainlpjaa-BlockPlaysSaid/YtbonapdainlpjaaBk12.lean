/- Layer 34 (block): the walk of the statement BlockPlays. -/
import Derived.Test.YtbonapdainlpjaaBk11
import Derived.Deep.DeepCutAuto
import Derived.Deep.RegionHeld3
import Derived.Deep.CutBlock
set_option linter.unusedSimpArgs false
namespace Go.Proofs.Ytbonapdainlpjaa
open Go.RowKit Go.Sort

theorem Duo.img {w W : World} {g gb r rb : Nat} {s t : BSt} (h : Duo w g gb r rb s t W) :
    Calls Try.prog 39 #[.pointer (some ⟨g, 0, none⟩)] W fun e w' => ∃ v, e = .returned v ∧ Bs w' v (bimg s) ∧ Hid (Duo w g gb r rb s t w') := by
  obtain ⟨fo, h1⟩ := h.st
  refine (bImage_any g gb fo s _ W h1).mono ?_
  rintro e w' ⟨v, h2, h3, h4⟩
  exact ⟨v, h2, h3.bs, h.below h4⟩

theorem bk_tr {w W W' : World} (h : Below w.heap.size w W) (k : Below W.heap.size W W') : Below w.heap.size w W' := h.trans (k.mono h.size)
theorem bmayE_cases (s : BSt) (i : Int) : bmayE s i = 50 ∨ bmayE s i = 0 ∨ bmayE s i = 2 := by
  unfold bmayE
  split
  · exact .inl rfl
  · split
    · exact .inr (.inl rfl)
    · exact .inr (.inr rfl)
theorem bpow_cnt (s : BSt) : (bpow s).cnt = s.cnt := by unfold bpow; split <;> rfl
theorem bset_cnt (s : BSt) (a b : Int) : (bset s a b).cnt = s.cnt := by unfold bset; split <;> rfl
theorem bwrS_cnt (s : BSt) (i : Int) (l : List UInt8) : s.cnt ≤ (bwrS s i l).cnt ∧ (bwrS s i l).cnt ≤ s.cnt + 1 := by
  unfold bwrS
  split
  · split
    · exact ⟨Int.le_add_of_nonneg_right (by decide), Int.le_refl _⟩
    · split <;> exact ⟨Int.le_add_of_nonneg_right (by decide), Int.le_refl _⟩
  · omega

def PLoop (w : World) (g gb r rb k : Nat) (W : World) : Prop := ∃ s, Duo w g gb r rb s s W ∧ 0 ≤ s.cnt ∧ s.cnt ≤ (k : Int)

set_option maxRecDepth 100000 in
set_option maxHeartbeats 1600000 in
theorem blockplays_walk (z : Int) (vl : Value) (l : List BOp) (w : World) (hl : Bos w vl l) :
    Calls Try.prog 5 #[.int .i64 z, vl] w fun e w' => e = .returned (.bool true) ∧ Below w.heap.size w w' := by
  obtain ⟨n, hn⟩ : ∃ n, l.length = n := ⟨_, rfl⟩
  obtain ⟨a, ca, b1, o1, hva, ha1, ha2, ha3, ha4, ha5⟩ := Bos.open_n hl n hn
  subst hva
  have HN := Lib.hid hn
  have HL := Lib.hid hl
  clear hn hl
  go_enter Try.func5, Try.ntmps5
  go_wp2_with fail
  refine (bawake_any w).mono ?_
  rintro e w1 ⟨rfl, hb1⟩
  have HB1 := Lib.hid hb1
  clear hb1
  by_cases hbad : z < 1 ∨ 32768 < z
  · go_wp2_with fail
    refine (bNew_bad z hbad w1).mono ?_
    rintro e w2 ⟨rfl, rfl⟩
    rcases hbad with h | h
    · go_wp2
      go_ret
      exact ⟨rfl, HB1.out⟩
    · have h1 : ¬ z < 1 := by omega
      go_wp2
      go_ret
      exact ⟨rfl, HB1.out⟩
  · obtain ⟨nb, rfl⟩ : ∃ nb : Nat, z = nb := ⟨z.toNat, by omega⟩
    have z1 : 1 ≤ nb := by omega
    have z2 : nb ≤ 32768 := by omega
    clear hbad
    go_wp2_with fail
    refine (bNew_any nb z1 z2 w1).mono ?_
    rintro e w2 ⟨rfl, hb2, hs2⟩
    have HB2 := Lib.hid (HB1.out.trans (hb2.mono HB1.out.size))
    have HS2 := Lib.hid hs2
    have HSZ1 := Lib.hid HB1.out.size
    clear hb2 hs2
    have e1 : ¬ (nb : Int) < 1 := by omega
    have e2 : ¬ (32768 : Int) < nb := by omega
    by_cases h20 : 20 < (nb : Int)
    · go_wp2
      go_ret
      exact ⟨rfl, HB2.out⟩
    by_cases h60 : 60 < (n : Int)
    · go_wp2
      go_ret
      exact ⟨rfl, HB2.out⟩
    go_wp2_with fail
    refine (rbNew_any nb z1 z2 w2).mono ?_
    rintro e w3 ⟨rfl, hb3, hr3⟩
    have HB3 := Lib.hid (HB2.out.trans (hb3.mono HB2.out.size))
    have HS3 := Lib.hid (HS2.out.below hb3)
    have hsz := HB2.out.size
    have HD3 : Hid (PLoop w (w1.heap.size + 1) w1.heap.size (w2.heap.size + 1) w2.heap.size 0 w3) := by
      have k1 := HS3.out
      have h1 := HSZ1.out
      refine ⟨bzero nb, ⟨⟨none, ?_⟩, ⟨0, ?_⟩, HB3.out⟩, Int.le_refl 0, Int.le_refl 0⟩
      · exact ⟨by omega, by omega, k1.n1, k1.n2, k1.row, k1.blk, .inl ⟨rfl, rfl⟩⟩
      · exact ⟨by omega, by omega, hr3.n1, hr3.n2, hr3.row, hr3.blk, hr3.fup, hr3.fur⟩
    clear hb3 hr3 hsz
    go_wp2_with fail
    refine (bLen_any _ _ _ _ _ w3 HS3.out).mono ?_
    rintro e w4 ⟨he, rfl⟩
    obtain rfl : e = .returned (.int .i64 (nb : Int)) := he
    obtain ⟨g, hg⟩ : ∃ g, w1.heap.size + 1 = g := ⟨_, rfl⟩
    obtain ⟨gb, hgb⟩ : ∃ g, w1.heap.size = g := ⟨_, rfl⟩
    obtain ⟨r, hr⟩ : ∃ g, w2.heap.size + 1 = g := ⟨_, rfl⟩
    obtain ⟨rb, hrb⟩ : ∃ g, w2.heap.size = g := ⟨_, rfl⟩
    rw [hg, hgb, hr, hrb] at HD3
    have HG := Lib.hid hg
    have HR := Lib.hid hr
    clear HS3 HS2 HB2 HB1 hgb hrb hg hr HSZ1
    go_wp2
    rw [HG.out, HR.out]
    go_loopw [51] (fun i wr => ∃ k : Nat, k ≤ n ∧ i = .int .i64 k ∧ Hid (PLoop w g gb r rb k wr)) (fun i _ => n - (intOf i).toNat)
    case atStart => exact ⟨0, by omega, rfl, HD3⟩
    case round =>
      obtain ⟨k, hk, rfl, HP⟩ := hrel
      by_cases hlt : k < n
      · obtain ⟨o, ho⟩ : ∃ o, l[k]? = some o := ⟨_, List.getElem?_eq_getElem (by have := HN.out; omega)⟩
        obtain ⟨s, hd, hc0, hc1⟩ := HP.out
        obtain ⟨p0, p1, p2, p3⟩ := ha5 k o ho
        have hbb := ha4 k hlt
        have hwr := hd.bel
        rw [← hwr.cell (by exact hbb)] at p0 p1 p2 p3
        have hbs := (HL.out.2 k o ho).1
        have hwf := (HL.out.2 k o ho).2
        obtain ⟨c, i, m, v, lb⟩ := o
        obtain ⟨av, cv, hv⟩ := hbs.shape
        simp only at hv p0 p1 p2 p3 hbs
        subst hv
        unfold BoWf at hwf
        obtain ⟨-, ⟨i1, i2⟩, ⟨m1, m2⟩⟩ := hwf
        simp only at i1 i2 m1 m2
        obtain ⟨bn, hbn⟩ : ∃ bn, lb.length = bn := ⟨_, rfl⟩
        rw [hbn] at p3 hbs
        have HBN := Lib.hid hbn
        have HBS := Lib.hid hbs
        have HDK := Lib.hid hd
        have HC := Lib.hid (And.intro hc0 hc1)
        obtain ⟨wa, hwa⟩ : ∃ wa, wr.alloc (.cells #[.int .i64 c, .int .i64 i, .int .i64 m, .slice av bn cv] 45) = wa := ⟨_, rfl⟩
        have hM : Mid w g gb r rb wr.heap.size c i m (.slice av bn cv) s s wa := by
          rw [← hwa]
          exact ⟨hd.below ((Below.refl _ _).alloc (Nat.le_refl _) _), heap_alloc_new _ _⟩
        have HWW := Lib.hid hwa
        have HM := Lib.hid hM
        have HHK := Lib.hid hk
        clear ha4 ha5 ho hbn hbs hd hwr hc0 hc1 hwa hM hk
        by_cases h300 : 300 < (bn : Int)
        · have HBa : Hid (Below w.heap.size w (wr.alloc (.cells #[.int .i64 c, .int .i64 i, .int .i64 m, .slice av bn cv] 45))) := by rw [HWW.out]; exact HM.out.duo.bel
          go_wp2
          go_ret
          exact ⟨rfl, HBa.out⟩
        · go_upto_block 2 with fail
          go_cut [] (fun wx => Hid (PLoop w g gb r rb (k + 1) wx))
          case first =>
            by_cases e1 : c = 1
            · have q1 : (c == 1) = true := by simpa using e1
              clear e1
--<1
              have C1 := Lib.hid HM.out.read
              have C2 := Lib.hid (fun W (h : Mid w g gb r rb wr.heap.size c i m (.slice av bn cv) s s W) => h.may)
              have hfin : ∀ W W', Mid w g gb r rb wr.heap.size c i m (.slice av bn cv) s s W → Below W.heap.size W W' → Hid (PLoop w g gb r rb (k + 1) W') := fun W W' h hb => by
                obtain ⟨h1, h2⟩ := HC.out
                exact ⟨s, (h.below hb).duo, h1, by omega⟩
              have HFIN := Lib.hid hfin
              clear hfin
              by_cases hE0 : bmayE s i = 0
              · obtain ⟨_, i3, i4⟩ := bgood hE0
                obtain ⟨qi, rfl⟩ : ∃ qi : Nat, i = qi := ⟨i.toNat, by omega⟩
                have hqi : qi < s.n := by omega
                have hbr : bread s (qi : Int) = bblk s qi := by
                  unfold bread
                  rw [if_pos hE0, Int.toNat_natCast]
                have hbl : (bblk s qi).length = 64 := by simp [bblk]
                rw [hE0, hbr] at C1
                rw [hE0] at C2
                have HQ := Lib.hid hqi
                have HBL := Lib.hid hbl
                clear hE0 hbr hqi hbl i3 i4
                go_wp2_with fail
                rw [HWW.out]
                refine C1.out.mono ?_
                rintro e w5 ⟨v5, rfl, hb5, HM5⟩
                have HB5 := Lib.hid hb5
                obtain ⟨a5, c5, hv5⟩ := hb5.shape
                rw [HBL.out] at hv5
                subst hv5
                clear hb5
                have d5 := HM5.out.c1
                go_wp2_with fail
                refine (C2.out _ HM5.out).mono ?_
                rintro e w6 ⟨rfl, rfl⟩
                obtain ⟨p, hrf⟩ := HM5.out.duo.rf
                have n2 := hrf.n2
                have hqi := HQ.out
                have r0 : w6.cell? ⟨r, 0, none⟩ = some (.slice (some ⟨rb, 0, none⟩) (s.n * 64) (s.n * 64)) := by rw [cell_of_row w6 r 0 _ _ _ hrf.row]; rfl
                obtain ⟨Y, hY1, hY2⟩ := rb_piece hrf qi hqi
                have w1 : IntKind.i64.wrap (64 * (qi : Int)) = 64 * qi := by rw [IntKind.wrap_i64]; omega
                have w2' : IntKind.i64.wrap (64 * (qi : Int) + 64) = 64 * qi + 64 := by rw [IntKind.wrap_i64]; omega
                have HS : Hid (∀ d os, Calls Try.prog 30 #[.slice a5 64 c5, Y] (grow (redrawn w6 d) os) fun e w'' => e = .returned (.bool true) ∧ ∃ p : Regrown, w'' = grow (redrawn w6 p.d) p.os) := fun d os => by
                  refine Calls.regrown_of ?_
                  have hg : Below w6.heap.size w6 (grow (redrawn w6 d) os) := below_regrown w6 d os
                  have := same_any _ Y _ _ _ (HB5.out.below hg) (hY2.below hg)
                  rwa [beq_self_true] at this
                obtain ⟨N, hN⟩ : ∃ N, s.n * 64 = N := ⟨_, rfl⟩
                rw [hN] at r0 hY1
                have q5 := fun d os => cell_regrown d5 d os
                have q0 := fun d os => cell_regrown r0 d os
                clear hrf hY2 hN n2 hqi
                go_upto_region 20 with fail
                clear d5 r0
                refine wp_region_quiet_below (by kernel_rfl) (by kernel_rfl) ?_
                repeat (go_big_quiet_step ((go_at_call 30; with_reducible exact HS.out _ _)))
                refine wpQuiet_nil ?_
                intro _ hw'
                obtain ⟨⟨dq, osq⟩, hw''⟩ := hw'
                subst hw''
                have HB2 := below_regrown w6 dq osq
                obtain ⟨W2, hwq⟩ : ∃ x, x = grow (redrawn w6 dq) osq := ⟨_, rfl⟩
                rw [← hwq] at HB2 ⊢
                clear hwq
                have hf := HFIN.out _ _ HM5.out HB2
                clear HB2 q5 q0
                go_wp2
                go_meet
                case rel => exact hf
              · have hbr : bread s i = [] := by unfold bread; rw [if_neg hE0]
                have hE : bmayE s i = 50 ∨ bmayE s i = 2 := by
                  rcases bmayE_cases s i with h | h | h
                  · exact .inl h
                  · exact absurd h hE0
                  · exact .inr h
                rw [hbr] at C1
                clear hE0 hbr
                rcases hE with hE | hE
                all_goals
                  rw [hE] at C1 C2
                  clear hE
                  go_wp2_with fail
                  rw [HWW.out]
                  refine C1.out.mono ?_
                  rintro e w5 ⟨v5, rfl, hb5, HM5⟩
                  obtain ⟨a5, c5, hv5⟩ := hb5.shape
                  rw [List.length_nil] at hv5
                  subst hv5
                  clear hb5
                  have d5 := HM5.out.c1
                  go_wp2_with fail
                  refine (C2.out _ HM5.out).mono ?_
                  rintro e w6 ⟨rfl, rfl⟩
                  go_wp2_with fail
                  go_quiet (fail)
                  have hf := HFIN.out _ _ HM5.out (below_drewN (Below.refl _ _) nq)
                  go_wp2
                  go_meet
                  case rel => exact hf
-->1
            · have q1 : (c == 1) = false := by simpa using e1
              by_cases e2 : c = 2
              · have q2 : (c == 2) = true := by simpa using e2
                clear e1 e2
--<2
                have hcb : 0 ≤ s.cnt ∧ s.cnt ≤ 4611686018427387904 := by
                  have h1 := HC.out
                  have h2 : (n : Int) ≤ 60 := by omega
                  omega
                have C1 := Lib.hid (HM.out.drew.wr1 HBS.out hcb.1 hcb.2)
                have C2 := Lib.hid (fun W (h : Mid w g gb r rb wr.heap.size c i m (.slice av bn cv) (bwrS s i lb) s W) => h.wr2 HBS.out hcb.1 hcb.2)
                obtain ⟨E, hE⟩ : ∃ E, bwrE s i lb = E := ⟨_, rfl⟩
                rw [hE] at C1 C2
                have d1 := HM.out.c1
                have d3 := HM.out.c3
                clear hE hcb
                go_wp2_with fail
                rw [HWW.out]
                go_region_held3 (fun X => X.cell? ⟨wr.heap.size, 1, none⟩ = some (.int .i64 i) ∧ X.cell? ⟨wr.heap.size, 3, none⟩ = some (.slice av bn cv))
                  (first | with_reducible exact ⟨d1, d3⟩ | with_reducible exact ⟨HM5.out.c1, HM5.out.c3⟩ | with_reducible exact ⟨HM6.out.c1, HM6.out.c3⟩ | go_keep)
                  (first | (go_at_call 31; (with_reducible refine C1.out.mono ?_); rintro e w5 ⟨rfl, HM5⟩) | (go_at_call 32; (with_reducible refine (C2.out _ HM5.out).mono ?_); rintro e w6 ⟨rfl, HM6⟩))
                have hfin : Hid (PLoop w g gb r rb (k + 1) w6) := by
                  obtain ⟨h1, h2⟩ := HC.out
                  have h3 := bwrS_cnt s i lb
                  exact ⟨bwrS s i lb, HM6.out.duo, by omega, by omega⟩
                go_wp2
                go_meet
                case rel => exact hfin
-->2
              · have q2 : (c == 2) = false := by simpa using e2
                by_cases e3 : c = 3
                · have q3 : (c == 3) = true := by simpa using e3
                  clear e1 e2 e3
--<3
                  have C1 := Lib.hid (HM.out.drew.set1 i2 m2)
                  have C2 := Lib.hid (fun W (h : Mid w g gb r rb wr.heap.size c i m (.slice av bn cv) (bset s i m) s W) => h.set2 i2 m2)
                  obtain ⟨E, hE⟩ : ∃ E, bsetE i m = E := ⟨_, rfl⟩
                  rw [hE] at C1 C2
                  have d1 := HM.out.c1
                  have d2 := HM.out.c2
                  clear hE
                  go_wp2_with fail
                  rw [HWW.out]
                  go_region_held3 (fun X => X.cell? ⟨wr.heap.size, 1, none⟩ = some (.int .i64 i) ∧ X.cell? ⟨wr.heap.size, 2, none⟩ = some (.int .i64 m))
                    (first | with_reducible exact ⟨d1, d2⟩ | with_reducible exact ⟨HM5.out.c1, HM5.out.c2⟩ | with_reducible exact ⟨HM6.out.c1, HM6.out.c2⟩ | go_keep)
                    (first | (go_at_call 33; (with_reducible refine C1.out.mono ?_); rintro e w5 ⟨rfl, HM5⟩) | (go_at_call 34; (with_reducible refine (C2.out _ HM5.out).mono ?_); rintro e w6 ⟨rfl, HM6⟩))
                  have hfin : Hid (PLoop w g gb r rb (k + 1) w6) := by
                    obtain ⟨h1, h2⟩ := HC.out
                    exact ⟨bset s i m, HM6.out.duo, by rw [bset_cnt]; exact h1, by rw [bset_cnt]; omega⟩
                  go_wp2
                  go_meet
                  case rel => exact hfin
-->3
                · have q3 : (c == 3) = false := by simpa using e3
                  by_cases e4 : c = 4
                  · have q4 : (c == 4) = true := by simpa using e4
                    clear e1 e2 e3 e4
--<4
                    go_wp2_with fail
                    rw [HWW.out]
                    refine HM.out.pw1.mono ?_
                    rintro e w5 ⟨rfl, HM5⟩
                    go_wp2_with fail
                    refine HM5.out.pw2.mono ?_
                    rintro e w6 ⟨rfl, HM6⟩
                    have hfin : Hid (PLoop w g gb r rb (k + 1) w6) := by
                      obtain ⟨h1, h2⟩ := HC.out
                      exact ⟨bpow s, HM6.out.duo, by rw [bpow_cnt]; exact h1, by rw [bpow_cnt]; omega⟩
                    go_wp2
                    go_meet
                    case rel => exact hfin
-->4
                  · have q4 : (c == 4) = false := by simpa using e4
                    clear e1 e2 e3 e4
--<5
                    have hfin : Hid (PLoop w g gb r rb (k + 1) (wr.alloc (.cells #[.int .i64 c, .int .i64 i, .int .i64 m, .slice av bn cv] 45))) := by
                      obtain ⟨h1, h2⟩ := HC.out
                      rw [HWW.out]
                      exact ⟨s, HM.out.duo, h1, by omega⟩
                    go_wp2
                    go_meet
                    case rel => exact hfin
-->5
          case rest =>
--<6
            obtain ⟨s', hd, hc0, hc1⟩ := hcut.out
            obtain ⟨fo, hst⟩ := hd.st
            obtain ⟨p, hrf⟩ := hd.rf
            have n2 := hrf.n2
            have r0 : wc.cell? ⟨r, 0, none⟩ = some (.slice (some ⟨rb, 0, none⟩) (s'.n * 64) (s'.n * 64)) := by rw [cell_of_row wc r 0 _ _ _ hrf.row]; rfl
            have r1 : wc.cell? ⟨r, 1, none⟩ = some (.bool s'.off) := by rw [cell_of_row wc r 1 _ _ _ hrf.row]; rfl
            have r4 : wc.cell? ⟨r, 4, none⟩ = some (.int .i64 s'.cnt) := by rw [cell_of_row wc r 4 _ _ _ hrf.row]; rfl
            have hwh : Bs wc (.slice (some ⟨rb, 0, none⟩) (s'.n * 64) (s'.n * 64)) (bimg s') := by
              have := bs_rowc hrf.blk 0 (s'.n * 64) (s'.n * 64) (by omega) (by omega) (by simp [maxLen]; omega)
              unfold bimg
              simpa using this
            have hdd := hd.below (Below.refl _ _).drew
            have C1 := Lib.hid (bOn_any g gb fo s' _ _ (hst.below (Below.refl _ _).drew))
            have C2 := Lib.hid (bWrites_any g gb fo s' _ _ (hst.below (Below.refl _ _).drew))
            have C3 : Hid (Calls Try.prog 39 #[.pointer (some ⟨g, 0, none⟩)] wc.drew fun e w' => ∃ v, e = .returned v ∧ Bs w' v (bimg s') ∧ Hid (Below wc.drew.heap.size wc.drew w')) := by
              refine (bImage_any g gb fo s' _ _ (hst.below (Below.refl _ _).drew)).mono ?_
              rintro e w' ⟨v, h2, h3, h4⟩
              exact ⟨v, h2, h3.bs, h4⟩
            have hkeep : ∀ X, Below wc.drew.heap.size wc.drew X → X.cell? ⟨r, 0, none⟩ = some (.slice (some ⟨rb, 0, none⟩) (s'.n * 64) (s'.n * 64)) ∧ X.cell? ⟨r, 1, none⟩ = some (.bool s'.off) ∧ X.cell? ⟨r, 4, none⟩ = some (.int .i64 s'.cnt) := fun X hX => by
              have h2 := (hrf.below (Below.refl _ _).drew).below hX
              exact ⟨by rw [cell_of_row X r 0 _ _ _ h2.row]; rfl, by rw [cell_of_row X r 1 _ _ _ h2.row]; rfl, by rw [cell_of_row X r 4 _ _ _ h2.row]; rfl⟩
            obtain ⟨N, hN⟩ : ∃ N, s'.n * 64 = N := ⟨_, rfl⟩
            obtain ⟨ob, hob⟩ : ∃ ob, s'.off = ob := ⟨_, rfl⟩
            obtain ⟨ct, hct⟩ : ∃ ct, s'.cnt = ct := ⟨_, rfl⟩
            rw [hN] at r0 hwh hkeep
            rw [hob] at r1 C1 hkeep
            rw [hct] at r4 C2 hkeep
            have HK := Lib.hid hkeep
            clear hkeep
            have HWH := Lib.hid hwh
            have HD := Lib.hid hdd
            have HCC := Lib.hid (And.intro hc0 hc1)
            clear hwh hdd hst hrf hN hob hct hd n2 hc0 hc1
            go_wp2_with fail
            go_region_held3 (fun X => X.cell? ⟨r, 0, none⟩ = some (.slice (some ⟨rb, 0, none⟩) N N) ∧ X.cell? ⟨r, 1, none⟩ = some (.bool ob) ∧ X.cell? ⟨r, 4, none⟩ = some (.int .i64 ct))
              (first | with_reducible exact ⟨r0, r1, r4⟩ | with_reducible exact HK.out _ HB5.out | with_reducible exact HK.out _ (bk_tr HB5.out hb7) | go_keep)
              (first | (go_at_call 37; (with_reducible refine C1.out.mono ?_); rintro e w2 ⟨rfl, rfl⟩) | (go_at_call 38; (with_reducible refine C2.out.mono ?_); rintro e w2 ⟨rfl, rfl⟩) | (go_at_call 39; (with_reducible refine C3.out.mono ?_); rintro e w5 ⟨v5, rfl, hb5, HB5⟩) | (go_at_call 30; (with_reducible refine (same_any _ _ _ _ _ hb5 (HWH.out.drew.below HB5.out)).mono ?_); rintro e w7 ⟨rfl, hb7⟩))
            have hf : Hid (PLoop w g gb r rb (k + 1) w7) := by
              obtain ⟨h1, h2⟩ := HCC.out
              exact ⟨s', (HD.out.below HB5.out).below hb7, by omega, by omega⟩
            clear hb7 hb5 r0 r1 r4
            go_wp2
            go_roundw
            case rel => exact ⟨k + 1, by have := HHK.out; omega, by go_num, hf⟩
            case measure => simp [intOf]; omega
-->6
      · obtain rfl : k = n := by omega
        have HBk : Hid (Below w.heap.size w wr) := by obtain ⟨s, h, _⟩ := HP.out; exact h.bel
        go_wp2
        go_ret
        exact ⟨rfl, HBk.out⟩

end Go.Proofs.Ytbonapdainlpjaa
