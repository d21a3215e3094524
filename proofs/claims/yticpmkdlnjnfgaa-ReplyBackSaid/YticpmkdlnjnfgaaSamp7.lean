/- The walk of Take of layer 5's reference. -/
import Derived.Test.YticpmkdlnjnfgaaSamp5
import Derived.Test.YticpmkdlnjnfgaaRReader2
namespace Go.Proofs.Yticpmkdlnjnfgaa
open Go.RowKit Go.Sort

theorem rstake_out {l : List UInt8} {n : Int} (h : n < 0 ∨ 2048 < n) : stake l n = ([], 0, 3) := by unfold stake; rw [if_pos h]
theorem rstake_in {l : List UInt8} {n : Int} (h : ¬ (n < 0 ∨ 2048 < n)) : stake l n = sgo l n.toNat 0 szero 0 [] := by unfold stake; rw [if_neg h]

theorem rrd_abide {g A : Nat} {y : Value} {l : List UInt8} {B : Nat} (hg : g < A) (hB : B ≤ A) (hy : l ≠ [] → ∀ k, y.ownBlock = some k → k < B) : Abide A (fun pos W => RRd W g y l pos 0) := fun pos W W' h hb =>
  h.only (F := fun k => A ≤ k) ⟨hb.os, hb.tape, hb.output, hb.size, fun k _ hk => hb.block k (by omega)⟩ (by omega) (fun hl k hk e => by have := hy hl k hk; omega)

set_option maxRecDepth 100000 in
set_option maxHeartbeats 3200000 in
theorem rstake_any (y : Value) (l : List UInt8) (n : Int) (hn : -9223372036854775808 ≤ n ∧ n ≤ 9223372036854775807) (w : World) (hy : Bs w y l) : Calls Try.prog 20 #[y, .int .i64 n] w (STakePost l n w) := by
  obtain ⟨a, c, hs⟩ := hy.shape
  subst hs
  by_cases hno : n < 0 ∨ 2048 < n
  · have HN := Lib.hid hno
    rcases (show n < 0 ∨ (0 ≤ n ∧ 2048 < n) by omega) with h | ⟨h, h'⟩
    all_goals
     clear hno
     go_enter Try.func20, Try.ntmps20
     go_wp2
     go_ret3
     refine ⟨.slice none 0 0, ?_, ?_, Below.refl _ _⟩
     · rw [rstake_out HN.out]; rfl
     · rw [rstake_out HN.out]; exact Rd.nil _ _
  · obtain ⟨N, rfl⟩ : ∃ N : Nat, n = N := ⟨n.toNat, by omega⟩
    have hN : N ≤ 2048 := by omega
    have HST := Lib.hid (rstake_in (l := l) hno)
    clear hno hn
    have hylt := hy.lt
    go_enter Try.func20, Try.ntmps20
    go_wp2_with fail
    refine (rread_any _ l _ hy).mono ?_
    rintro e w1 ⟨rfl, hr1, hb1⟩
    have hlt1 := hr1.lt
    have hR := Lib.hid (rrd_abide (g := w.heap.size) (A := w1.heap.size) (y := .slice a l.length c) (l := l) (B := w.heap.size) hlt1 hb1.size hylt)
    have hsz1 := hb1.size
    go_wp2
    go_loopw [8, 10] (fun v i wr => ∃ (k pos : Nat) (p : Smp) (out : List Smp), k ≤ N ∧ i = .int .i64 k ∧ Hid (sgo l (N - k) k p pos out = sgo l N 0 szero 0 []) ∧ out.length = k ∧ Hid (p = szero ∨ SMay p) ∧
        TK w w1.heap.size (fun pos W => RRd W w.heap.size (.slice a l.length c) l pos 0) pos p v out wr) (fun _ i _ => N - (intOf i).toNat)
    case atStart =>
      refine ⟨0, 0, szero, [], by omega, rfl, rfl, rfl, .inl rfl, hb1.size, hR.out _ _ _ hr1 ((Below.refl _ _).alloc (Nat.le_refl _) _), heap_alloc_new w1 _, Os.nil _ _ _, hb1.alloc hb1.size _⟩
    case round =>
      obtain ⟨k, pos, p, out, hk, rfl, HG, hol, HP, hT⟩ := hrel
      have hlow := hT.low
      have hwr := hT.bel
      have hszr := hwr.size
      by_cases hlt : k < N
      · obtain ⟨m, hm⟩ : ∃ m, N - k = m + 1 := ⟨N - k - 1, by omega⟩
        rw [hm] at HG
        obtain ⟨n1, p1, b1, hv1⟩ : ∃ n p b, rnum 1099511627776 l pos 0 = (n, p, b) := ⟨_, _, _, rfl⟩
        obtain ⟨n2, p2, b2, hv2⟩ : ∃ n p b, rsig 67108864 l p1 b1 = (n, p, b) := ⟨_, _, _, rfl⟩
        obtain ⟨n3, p3, b3, hv3⟩ : ∃ n p b, rsig 67108864 l p2 b2 = (n, p, b) := ⟨_, _, _, rfl⟩
        have hG := HG.out
        rw [sgo_bad hv1 hv2 hv3] at hG
        have HG2 := Lib.hid hG
        have R1 := rrnumber_rd 1099511627776 (by omega) _ _ l pos 0 wr hT.rd
        unfold RNumPost at R1
        rw [hv1] at R1
        have R2 := fun w1 h => rrsigned_rd 67108864 (by omega) w.heap.size (.slice a l.length c) l p1 b1 w1 h
        unfold RSigPost at R2
        rw [hv2] at R2
        have R3 := fun w1 h => rrsigned_rd 67108864 (by omega) w.heap.size (.slice a l.length c) l p2 b2 w1 h
        unfold RSigPost at R3
        rw [hv3] at R3
        have H3 := Lib.hid (fun h => three_ok hv1 hv2 hv3 h)
        have HR1 := Lib.hid R1
        have HR2 := Lib.hid R2
        have HR3 := Lib.hid R3
        have HM := Lib.hid hm
        have hn2 : n2 < 18446744073709551616 := by
          have := (rraw_le (mayS 67108864) l p1 b1 (by have := (rraw_le (mayN 1099511627776) l pos 0 hT.rd.le).1; unfold rnum at hv1; rw [hv1] at this; exact this)).2
          unfold rsig at hv2
          rwa [hv2] at this
        have hn3 : n3 < 18446744073709551616 := by
          have h1 := (rraw_le (mayS 67108864) l p1 b1 (by have := (rraw_le (mayN 1099511627776) l pos 0 hT.rd.le).1; unfold rnum at hv1; rw [hv1] at this; exact this)).1
          unfold rsig at hv2 hv3
          rw [hv2] at h1
          have := (rraw_le (mayS 67108864) l p2 b2 h1).2
          rwa [hv3] at this
        clear hG R1 R2 R3 hv1 hv2 hv3 hm HG
        have HT := Lib.hid hT
        clear hT
        have e1 : (k : Int) < N := by omega
        go_wp2_with fail
        refine HR1.out.mono ?_
        rintro e w2 ⟨rfl, h2, ho2⟩
        go_wp2_with fail
        refine (HR2.out _ h2).mono ?_
        rintro e w3 ⟨rfl, h3, ho3⟩
        go_wp2_with fail
        refine (HR3.out _ h3).mono ?_
        rintro e w4 ⟨rfl, h4, ho4⟩
        have d2 := h4.c2
        by_cases hb3 : b3 = 0
        · subst hb3
          obtain ⟨rfl, rfl, k1, k2, k3, m1, m2, m3⟩ := H3.out rfl
          have hT4 := HT.out.read hlt1 (Nat.le_refl _) h4 ((ho2.trans ho3).trans ho4)
          have hKK := Lib.hid (And.intro k1 (And.intro k2 k3))
          have hvl1 := vput_len10 n1 (by omega)
          have hvl2 := vput_len10 n2 (by omega)
          have hvl3 := vput_len10 n3 (by omega)
          have hpl := h4.le
          clear k1 k2 k3 H3 HR1 HR2 HR3 h2 h3 ho2 ho3 ho4
          have c0 := hT4.c0
          have c1 := hT4.c1
          have c2 := hT4.c2
          have hpr : (0 ≤ p.t ∧ p.t ≤ 1099511627776) ∧ (0 ≤ p.x ∧ p.x < 67108864) ∧ (0 ≤ p.y ∧ p.y < 67108864) := by
            rcases HP.out with e | e
            · rw [e]; simp [szero]
            · unfold SMay at e; omega
          obtain ⟨s, hs⟩ : ∃ s, snext p n1 (vback n2) (vback n3) = s := ⟨_, rfl⟩
          have hst : s.t = p.t + n1 := by rw [← hs]; rfl
          have hsx : s.x = p.x + vback n2 := by rw [← hs]; rfl
          have hsy : s.y = p.y + vback n3 := by rw [← hs]; rfl
          have hG := HG2.out
          rw [hs, if_neg (by simp)] at hG
          have HG3 := Lib.hid hG
          obtain ⟨b, hb⟩ : ∃ b, mayB s = b := ⟨_, rfl⟩
          have HB := Lib.hid hb
          have HT4 := Lib.hid hT4
          clear HG2 hG hT4 hs hb h4
          have hsz4 := HT4.out.bel.size
          have hlt4 := HT4.out.lt
          have hmk := rmay_is s b HB.out
          rw [hst, hsx, hsy] at hmk
          have HMK := Lib.hid hmk
          have HST2 := Lib.hid (And.intro hst (And.intro hsx hsy))
          clear hmk hst hsx hsy
          have f0 := HT4.out.free 0
          have f1 := HT4.out.free 1
          have f2 := HT4.out.free 2
          have hT5 := HT4.out.set hR.out s
          rw [HST2.out.1, HST2.out.2.1, HST2.out.2.2] at hT5
          have x0 := hT5.c0
          have x1 := hT5.c1
          have x2 := hT5.c2
          have HT5 := Lib.hid hT5
          clear hT5 x0 x1 x2
          go_wp2_with fail
          refine (HMK.out _).mono ?_
          rintro e w6 ⟨rfl, hb6⟩
          have hT6 := HT5.out.below hR.out hb6
          have x0 := hT6.c0
          have x1 := hT6.c1
          have x2 := hT6.c2
          rw [HST2.out.1] at x0
          rw [HST2.out.2.1] at x1
          rw [HST2.out.2.2] at x2
          have hsT := hT6.bel.size
          have hlt6 := hT6.lt
          have HT6 := Lib.hid hT6
          clear hT6 HMK
          by_cases hbad : b = false ∨ (0 < k ∧ n1 = 0)
          · have HE : Hid (stake l N = ([], 0, 2)) := by
              have h1 := HST.out
              have h2 := HG3.out
              rw [HB.out, if_pos hbad] at h2
              show _ = _
              rw [h1, Int.toNat_natCast, ← h2]
            rcases hbad with rfl | ⟨h0, h1⟩
            · go_wp2
              go_ret3
              refine ⟨.slice none 0 0, ?_, ?_, HT6.out.bel⟩
              · rw [HE.out]; rfl
              · rw [HE.out]; exact Rd.nil _ _
            · have hd : decide (0 < k) = true := by simp; omega
              have hz : ((n1 : Int) == 0) = true := by simp; omega
              clear h0 h1
              cases b
              · go_wp2
                go_ret3
                refine ⟨.slice none 0 0, ?_, ?_, HT6.out.bel⟩
                · rw [HE.out]; rfl
                · rw [HE.out]; exact Rd.nil _ _
              · go_wp2
                go_ret3
                refine ⟨.slice none 0 0, ?_, ?_, HT6.out.bel⟩
                · rw [HE.out]; rfl
                · rw [HE.out]; exact Rd.nil _ _
          · have hb1' : b = true := by cases b <;> simp_all
            subst hb1'
            have hG := HG3.out
            rw [HB.out, if_neg hbad] at hG
            have HG4 := Lib.hid hG
            have hsm : SMay s := (mayB_iff s).1 HB.out
            have HSM := Lib.hid hsm
            have hol2 : out.length ≤ 2048 := by omega
            have HOL := Lib.hid hol
            have hdd : decide (0 < k) = false ∨ (decide (0 < k) = true ∧ ((n1 : Int) == 0) = false) := by
              rcases Nat.eq_zero_or_pos k with h | h
              · left; simp; omega
              · right; constructor <;> simp <;> omega
            clear hG hsm hbad HG3 hol
            rcases hdd with hd | ⟨hd, hd2⟩
            all_goals
              go_wp2_with (at_builtin; go_must (refine wpList_append_smp HT6.out.os s elS (by omega) (by omega) (by omega) ?_ _ _ rfl rfl _ _ _ rfl rfl (by rw [HST2.out.1]) (by rw [HST2.out.2.1]) (by rw [HST2.out.2.2])); intro v9 w9 ho9 hg9 hb9; have hT9 := HT6.out.app hR.out ho9 hb9; have HT9 := Lib.hid hT9; clear ho9 hg9 hb9 hT9)
              go_roundw
              case rel =>
                refine ⟨k + 1, p3, s, out ++ [s], by omega, by go_num, ?_, by simp [HOL.out], .inr HSM.out, ?_⟩
                · show _ = _
                  rw [show N - (k + 1) = m by have := HM.out; omega]
                  exact HG4.out
                · exact HT9.out
              case measure => simp [intOf]; omega
        · have HB3 := Lib.hid hb3
          have hb4 : Below w.heap.size w w4 := HT.out.bel.trans (((ho2.trans ho3).trans ho4).below (fun k hk => by omega) HT.out.bel.size)
          have HE : Hid (stake l N = ([], 0, b3)) := by
            have h1 := HST.out
            have h2 := HG2.out
            rw [if_pos hb3] at h2
            show _ = _
            rw [h1, Int.toNat_natCast, ← h2]
          have hd : ((b3 : Int) != 0) = true := by simp; omega
          clear hb3
          go_wp2_with fail
          go_quiet (fail)
          go_wp2
          go_ret3
          refine ⟨.slice none 0 0, ?_, ?_, below_drewN hb4 _⟩
          · rw [HE.out]; rfl
          · rw [HE.out]; exact Rd.nil _ _
      · have hkN : k = N := by omega
        have HE : Hid (stake l N = (out, pos, 0)) := by
          have h1 := HST.out
          have h2 := HG.out
          rw [hkN, Nat.sub_self, sgo] at h2
          show _ = _
          rw [h1, Int.toNat_natCast, ← h2]
        clear hkN
        have d1 := hT.rd.c1
        have HT := Lib.hid hT
        clear hT
        go_wp2_with fail
        go_quiet (fail)
        go_wp2
        go_ret3
        refine ⟨u8, ?_, ?_, below_drewN HT.out.bel _⟩
        · rw [HE.out]; rfl
        · rw [HE.out]; exact Rd.drewN HT.out.os.ss _

end Go.Proofs.Yticpmkdlnjnfgaa
