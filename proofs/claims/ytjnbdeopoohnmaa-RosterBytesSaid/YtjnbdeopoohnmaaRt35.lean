/- Layer 56 (roster): Take of the document. -/
import Derived.Test.YtjnbdeopoohnmaaRt34
import Derived.Test.YtjnbdeopoohnmaaRt3
import Derived.Test.YtjnbdeopoohnmaaRReader
import Derived.Deep.RegionLaw
import Derived.Deep.DeepCutAuto
import Derived.Deep.CutBlock
import Derived.Lib.QuietBelow
set_option linter.unusedSimpArgs false
namespace Go.Proofs.Ytjnbdeopoohnmaa
open Go.RowKit Go.Sort

theorem rdK_rrd {w : World} {g : Nat} {y : Value} {c : List UInt8} (hg : w.heap.size ≤ g) (hs : c ≠ [] → ∀ x, y.ownBlock = some x → x < w.heap.size) : RdK w g (fun st W => RRd W g y c st.1 st.2) :=
  ⟨fun h => ⟨_, _, h.cell, by decide, by decide⟩, fun h hb => h.below hb, fun h ho hg hF => h.only ho hg fun hc k hk hf => by have := hs hc k hk; have := hF k hf; omega, hg⟩
/-- a spell made aside is changed -/
theorem TI.other {w : World} {g : Nat} {RD : RSt → World → Prop} {vo cv : Value} {L : List AcX} {p q : Nat} {id bl : Int} {S : List SpT} {st : RSt} {W W' : World} {A : Array Value} (k : RdK w g RD) (h : TI w RD vo L p id bl cv S st W) (hq : W.heap[q]? = some (.cells A 49 (0, 0))) (hpq : p < q) (hc : cv.ownBlock ≠ some q) (ho : Only (fun t => t = q) W W') : TI w RD vo L p id bl cv S st W' := by
  obtain ⟨A', T, hr, h2, h3⟩ := k.cell h.tr.rd
  have hgq : ¬ g = q := fun e => by rw [← e, hr] at hq; simp at hq; exact h3 hq.2
  exact ⟨⟨k.only h.tr.rd ho hgq (fun t ht => by have := h.lp; omega), h.tr.out.onlyR ho (fun t ht e => by have := h.fo t ht; omega), fun x hx => (h.tr.sps x hx).onlyR ho (fun t ht e => by have := h.fs x hx t ht; omega), h.tr.iw, h.tr.bel.trans (ho.below (fun t ht => by have := h.lp; omega) h.tr.bel.size)⟩,
    (ho.block p (heap_lt h.row) (fun e => by omega)).trans h.row, h.own.onlyR ho (fun t ht e => hc (by rw [ht, e])), h.iws, h.lp, h.fo, h.fs⟩
theorem RdK.keep {w : World} {g : Nat} {RD : RSt → World → Prop} {st : RSt} {W W' : World} {q : Nat} {A : Array Value} (k : RdK w g RD) (h : RD st W) (hq : W.heap[q]? = some (.cells A 49 (0, 0))) (ho : Only (fun t => t = g) W W') : W'.heap[q]? = some (.cells A 49 (0, 0)) := by
  obtain ⟨A', T, hr, h2, h3⟩ := k.cell h
  refine (ho.block q (heap_lt hq) fun e => ?_).trans hq
  rw [e, hr] at hq
  simp at hq
  exact h3 hq.2

set_option maxRecDepth 100000 in
set_option maxHeartbeats 1600000 in
theorem rrtTake_any (v : Value) (b : List UInt8) (w : World) (hb : Bs w v b) : Calls Try.prog 39 #[v] w (RosPost w (rtk b) (rtE b)) := by
  unfold RosPost
  obtain ⟨g, hg⟩ : ∃ g, w.heap.size = g := ⟨_, rfl⟩
  have CR := Lib.hid (rread_any v b w hb)
  have hK := rdK_rrd (w := w) (g := g) (y := v) (c := b) (by omega) (fun hc x hx => hb.lt hc x hx)
  obtain ⟨RD, hRD⟩ : ∃ RD : RSt → World → Prop, (fun (st : RSt) W => RRd W g v b st.1 st.2) = RD := ⟨_, rfl⟩
  have HN : Hid (∀ (most : Int), -9223372036854775808 ≤ most ∧ most ≤ 9223372036854775807 → ∀ (W : World) (st : RSt), RD st W → Calls Try.prog 75 #[.pointer (some ⟨g, 0, none⟩), .int .i64 most] W fun e w' => e = .returned (.int .i64 ((rnum most b st.1 st.2).1 : Int)) ∧ RD (rnum most b st.1 st.2).2 w' ∧ Only (fun k => k = g) W w') := fun most hmo W st h => by
    rw [← hRD] at h ⊢
    exact rrnumber_rd most hmo g v b st.1 st.2 W h
  have HS : Hid (∀ (most : Int), -9223372036854775808 ≤ most ∧ most ≤ 9223372036854775807 → ∀ (W : World) (st : RSt), RD st W → Calls Try.prog 76 #[.pointer (some ⟨g, 0, none⟩), .int .i64 most] W fun e w' => e = .returned (.int .i64 (vback (rsig most b st.1 st.2).1)) ∧ RD (rsig most b st.1 st.2).2 w' ∧ Only (fun k => k = g) W w') := fun most hmo W st h => by
    rw [← hRD] at h ⊢
    exact rrsigned_rd most hmo g v b st.1 st.2 W h
  have HD : Hid (∀ (W : World) (st : RSt), RD st W → Calls Try.prog 77 #[.pointer (some ⟨g, 0, none⟩)] W fun e w' => e = .returned (.int .i64 (rdone b st.1 st.2)) ∧ Below W.heap.size W w') := fun W st h => by
    rw [← hRD] at h
    exact rrdone_any g v b st.1 st.2 W h
  have HST : Hid (∀ W, RRd W g v b 0 0 → RD (0, 0) W) := fun W h => by rw [← hRD]; exact h
  rw [hRD] at hK
  have HK := Lib.hid hK
  obtain ⟨a, c, rfl⟩ := hb.shape
  obtain ⟨nb, hnb⟩ : ∃ n, b.length = n := ⟨_, rfl⟩
  rw [hnb] at CR HST ⊢
  have HE : Hid (((rtE b : Nat) : Int) = if rtD b ≠ 0 then (rtD b : Int) else if aright (rtL b).1 = true then 0 else 2) := by
    show _ = _
    unfold rtE
    split
    · rfl
    · split <;> rfl
  have HL : Hid (rtk b = if rtE b = 0 then (rtL b).1 else []) := rfl
  have HRL : Hid (rtL b = rdAcs b (rtN b).2 (rtN b).1) := rfl
  have HRDN : Hid (rtD b = rdone b (rtL b).2.1 (rtL b).2.2) := rfl
  have HRN : Hid (rtN b = rnum 4096 b 0 0) := rfl
  have hn4 := rnum_le (most := 4096) (by omega) b 0 0
  rw [show rnum 4096 b 0 0 = rtN b from rfl] at hn4
  obtain ⟨n, hn⟩ : ∃ n, (rtN b).1 = n := ⟨_, rfl⟩
  obtain ⟨st0, hst0⟩ : ∃ s, (rtN b).2 = s := ⟨_, rfl⟩
  rw [hn] at hn4 HRL
  rw [hst0] at HRL
  have HN1 := Lib.hid hn
  have HN2 := Lib.hid hst0
  clear hb hK hRD hnb hn hst0
  go_enter Try.func39, Try.ntmps39
  go_wp2_with fail
  refine CR.out.mono ?_
  rintro e w2 ⟨rfl, hr2, hb2⟩
  rw [hg] at hr2
  have HT2 : Hid (TR w RD (.slice none 0 0) [] (0, 0) w2) := ⟨HST.out _ hr2, Gw.nil _ _ _, (fun x hx => by cases hx), (fun x hx => by cases hx), hb2⟩
  clear hr2 hb2 CR
  have C1 := Lib.hid (HN.out 4096 (by omega) w2 (0, 0) HT2.out.rd)
  rw [show rnum 4096 b (0 : Nat) (0 : Nat) = rtN b from rfl] at C1
  rw [HN1.out, HN2.out] at C1
  go_wp2_with fail
  refine C1.out.mono ?_
  rintro e w3 ⟨rfl, hr3, ho3⟩
  have HT3 := Lib.hid (HT2.out.read HK.out hr3 ho3)
  clear hr3 ho3 C1 HT2
  go_wp2_with fail
  go_loopg [5, 7] n (fun qq vo vi wr => ∃ (k : Nat) (L : List AcX), qq = n - k ∧ k ≤ n ∧ vi = .int .i64 k ∧ Hid (TR w RD vo L (rdAcs b st0 k).2 wr) ∧ Hid (accD L = (rdAcs b st0 k).1))
  case atStart => exact ⟨0, [], by omega, by omega, rfl, HT3, rfl⟩
  case round =>
    obtain ⟨k, L, rfl, hk, rfl, HT, HLD⟩ := hrel
    clear HT3
    obtain ⟨oa, oc, hos⟩ := HT.out.out.gs.shape
    have hLl : L.length = k := by rw [← accD_len, HLD.out, rdAcs_len]
    rw [hLl] at hos
    subst hos
    have HLL := Lib.hid hLl
    clear hLl
    by_cases hlt : k < n
    · have e2 : (k : Int) < n := by omega
      obtain ⟨st, hst⟩ : ∃ s, (rdAcs b st0 k).2 = s := ⟨_, rfl⟩
      rw [hst] at HT
      have HAN : Hid (rdAcs b st0 (k + 1) = ((rdAcs b st0 k).1 ++ [(rdAc b st).1], (rdAc b st).2)) := by show _ = _; rw [← hst]; rfl
      have C1 := Lib.hid (HN.out 2147483648 (by omega) wr st HT.out.rd)
      rw [show rnum 2147483648 b st.1 st.2 = rdA1 b st from rfl] at C1
      have hi1 := (rnum_most 2147483648 b st.1 st.2).1
      rw [show rnum 2147483648 b st.1 st.2 = rdA1 b st from rfl] at hi1
      have hi2 := (rsig_most 1099511627776 b (rdA1 b st).2.1 (rdA1 b st).2.2).1
      rw [show rsig 1099511627776 b (rdA1 b st).2.1 (rdA1 b st).2.2 = rdA2 b st from rfl] at hi2
      have hi3 := rnum_le (most := 32) (by omega) b (rdA2 b st).2.1 (rdA2 b st).2.2
      rw [show rnum 32 b (rdA2 b st).2.1 (rdA2 b st).2.2 = rdA3 b st from rfl] at hi3
      have HLTK := Lib.hid hlt
      have HAC : Hid (rdAc b st = (⟨((rdA1 b st).1 : Int), vback (rdA2 b st).1, (rdSps b (rdA3 b st).2 (rdA3 b st).1).1⟩, (rdSps b (rdA3 b st).2 (rdA3 b st).1).2)) := rfl
      have HA2 : Hid (∀ W, RD (rdA1 b st).2 W → Calls Try.prog 76 #[.pointer (some ⟨g, 0, none⟩), .int .i64 1099511627776] W fun e w' => e = .returned (.int .i64 (vback (rdA2 b st).1)) ∧ RD (rdA2 b st).2 w' ∧ Only (fun k => k = g) W w') := fun W h => HS.out 1099511627776 (by omega) W (rdA1 b st).2 h
      have HA3 : Hid (∀ W, RD (rdA2 b st).2 W → Calls Try.prog 75 #[.pointer (some ⟨g, 0, none⟩), .int .i64 32] W fun e w' => e = .returned (.int .i64 ((rdA3 b st).1 : Int)) ∧ RD (rdA3 b st).2 w' ∧ Only (fun k => k = g) W w') := fun W h => HN.out 32 (by omega) W (rdA2 b st).2 h
      obtain ⟨id, hid⟩ : ∃ z, (rdA1 b st).1 = z := ⟨_, rfl⟩
      obtain ⟨bl, hbl⟩ : ∃ z, vback (rdA2 b st).1 = z := ⟨_, rfl⟩
      obtain ⟨m, hm⟩ : ∃ z, (rdA3 b st).1 = z := ⟨_, rfl⟩
      obtain ⟨st3, hst3⟩ : ∃ z, (rdA3 b st).2 = z := ⟨_, rfl⟩
      rw [hid] at C1 hi1 HAC
      rw [hbl] at HA2 hi2 HAC
      rw [hm] at HA3 hi3 HAC
      rw [hst3] at HA3 HAC
      have HIW1 : Hid (IW (id : Int)) := iw_nat hi1
      have HIW2 : Hid (IW bl) := ⟨by omega, by omega⟩
      clear hst hlt hid hbl hm hst3
      go_wp2_with fail
      refine C1.out.mono ?_
      rintro e w4 ⟨rfl, hr4, ho4⟩
      have hT4 := HT.out.read HK.out hr4 ho4
      clear hr4 ho4 C1 HT
      have hI := TI.start HK.out hT4 (id : Int) 0
      obtain ⟨p, hp⟩ : ∃ p, w4.heap.size = p := ⟨_, rfl⟩
      obtain ⟨V, hV⟩ : ∃ V, w4.alloc (.cells #[.int .i64 (id : Int), .int .i64 0, .slice none 0 0] 43) = V := ⟨_, rfl⟩
      rw [hp, hV] at hI
      have HI := Lib.hid hI
      have C2 := Lib.hid (HA2.out V hI.tr.rd)
      have HV := Lib.hid hV
      have HP := Lib.hid hp
      clear hT4 hI hV hp
      go_wp2_with (with_reducible refine wpList_store_new rfl _ _ rfl rfl rfl (by kernel_rfl) (by simp) (by simp [Value.oneCell']) ?_)
      rw [HV.out, HP.out]
      refine C2.out.mono ?_
      rintro e w5 ⟨rfl, hr5, ho5⟩
      have HI5 := Lib.hid (HI.out.read HK.out hr5 ho5)
      clear hr5 ho5 C2 HI HV HP
      have hI6 := HI5.out.setBl HK.out bl
      have c1 : w5.cell? ⟨p, 1, none⟩ = some (.int .i64 0) := cell_of_row w5 _ _ _ _ _ HI5.out.row
      have f1 := row_free HI5.out.row 1
      obtain ⟨V6, hV6⟩ : ∃ V, w5.setCell ⟨p, 1, none⟩ (.int .i64 bl) = V := ⟨_, rfl⟩
      rw [hV6] at hI6
      have HI6b := Lib.hid hI6
      have C3 := Lib.hid (HA3.out V6 hI6.tr.rd)
      clear hI6
      go_wp2_with fail
      refine C3.out.mono ?_
      rintro e w6 ⟨rfl, hr6, ho6⟩
      have HI6 := Lib.hid (HI6b.out.read HK.out hr6 ho6)
      clear hr6 ho6 C3 HI5 HI6b HA2 HA3 c1 f1
      go_wp2_with fail
      go_loopg [10] m (fun qq vi wr => ∃ (j : Nat) (cv : Value) (S : List SpT), qq = m - j ∧ j ≤ m ∧ vi = .int .i64 j ∧ Hid (TI w RD (.slice oa k oc) L p id bl cv S (rdSps b st3 j).2 wr) ∧ Hid (S = (rdSps b st3 j).1))
      case atStart => exact ⟨0, _, [], by omega, by omega, rfl, HI6, rfl⟩
      case round =>
        obtain ⟨j, cv, S, rfl, hj, rfl, HJ, HSD⟩ := hrel
        clear HI6
        obtain ⟨ca, cc, hcs⟩ := HJ.out.own.gs.shape
        have hSl : S.length = j := by rw [HSD.out, rdSps_len]
        rw [hSl] at hcs
        subst hcs
        have HSL := Lib.hid hSl
        clear hSl
        by_cases hlt : j < m
        · have e3 : (j : Int) < m := by omega
          have HLTJ := Lib.hid hlt
          obtain ⟨sj, hsj⟩ : ∃ s, (rdSps b st3 j).2 = s := ⟨_, rfl⟩
          rw [hsj] at HJ
          have HSN : Hid (rdSps b st3 (j + 1) = ((rdSps b st3 j).1 ++ [(rdSp b sj).1], (rdSp b sj).2)) := by show _ = _; rw [← hsj]; rfl
          have C1 := Lib.hid (HN.out 1099511627776 (by omega) wr sj HJ.out.tr.rd)
          have k1 := (rnum_most 1099511627776 b sj.1 sj.2).1
          obtain ⟨r1, hr1⟩ : ∃ r, rnum 1099511627776 b sj.1 sj.2 = r := ⟨_, rfl⟩
          have C2 := Lib.hid (fun W (h : RD r1.2 W) => HN.out 15 (by omega) W r1.2 h)
          have k2 := (rnum_most 15 b r1.2.1 r1.2.2).1
          obtain ⟨r2, hr2⟩ : ∃ r, rnum 15 b r1.2.1 r1.2.2 = r := ⟨_, rfl⟩
          have HSP : Hid (rdSp b sj = (((r1.1 : Int), (r2.1 : Int)), r2.2)) := by show _ = _; unfold rdSp; rw [hr1, hr2]
          rw [hr1] at C1 k1
          rw [hr2] at C2 k2
          obtain ⟨x1, s1⟩ := r1
          obtain ⟨x2, s2⟩ := r2
          simp only at C1 C2 k1 k2 HSP
          have HIW : Hid (IW (x1 : Int) ∧ IW (x2 : Int)) := ⟨iw_nat k1, iw_nat k2⟩
          have hm32 : m ≤ 32 := by omega
          clear hsj hr1 hr2 k1 k2 hlt
          go_wp2_with fail
          refine C1.out.mono ?_
          rintro e w8 ⟨rfl, hr8, ho8⟩
          have HJ8 := Lib.hid (HJ.out.read HK.out hr8 ho8)
          clear hr8 ho8 C1
          have hal : Below w8.heap.size w8 (w8.alloc (.cells #[.int .i64 (x1 : Int), .int .i64 0] 49)) := bw_al (Below.refl _ _) _
          have hq0 : (w8.alloc (.cells #[.int .i64 (x1 : Int), .int .i64 0] 49)).heap[w8.heap.size]? = some (.cells #[.int .i64 (x1 : Int), .int .i64 0] 49 (0, 0)) := heap_alloc_new _ _
          have HJ8A := Lib.hid (HJ8.out.below HK.out hal)
          have hcq : (Value.slice ca j cc).ownBlock ≠ some w8.heap.size := fun e => by have := (HJ8.out.own.lt _ e).2; omega
          have hpq : p < w8.heap.size := heap_lt HJ8.out.row
          obtain ⟨q, hq⟩ : ∃ q, w8.heap.size = q := ⟨_, rfl⟩
          obtain ⟨V8, hV8⟩ : ∃ V, w8.alloc (.cells #[.int .i64 (x1 : Int), .int .i64 0] 49) = V := ⟨_, rfl⟩
          rw [hV8] at hq0 HJ8A
          rw [hq] at hq0 hcq hpq
          have HQ0 := Lib.hid hq0
          have HCQ := Lib.hid hcq
          have HPQ := Lib.hid hpq
          have HV8 := Lib.hid hV8
          have HQQ := Lib.hid hq
          have CC2 := Lib.hid (C2.out V8 HJ8A.out.tr.rd)
          clear hal hq0 hcq hpq hV8 hq HJ8 C2
          go_wp2_with (with_reducible refine wpList_store_new rfl _ _ rfl rfl rfl (by kernel_rfl) (by simp) (by simp [Value.oneCell']) ?_)
          rw [HV8.out, HQQ.out]
          refine CC2.out.mono ?_
          rintro e w9 ⟨rfl, hr9, ho9⟩
          have HJ9 := Lib.hid (HJ8A.out.read HK.out hr9 ho9)
          have hq9 := HK.out.keep HJ8A.out.tr.rd HQ0.out ho9
          have HJ10 := Lib.hid (HJ9.out.other HK.out hq9 HPQ.out HCQ.out (set_only w9 q 1 (.int .i64 (x2 : Int))))
          have hq10 : (w9.setCell ⟨q, 1, none⟩ (.int .i64 (x2 : Int))).heap[q]? = some (.cells #[.int .i64 (x1 : Int), .int .i64 (x2 : Int)] 49 (0, 0)) := row_setCell hq9 1 _
          obtain ⟨g0, g1⟩ := spell_cells hq9
          have f1 := row_free hq9 1
          obtain ⟨V10, hV10⟩ : ∃ V, w9.setCell ⟨q, 1, none⟩ (.int .i64 (x2 : Int)) = V := ⟨_, rfl⟩
          rw [hV10] at hq10 HJ10
          obtain ⟨d0, d1⟩ := spell_cells hq10
          have c2 := HJ10.out.c2
          have HJ9A := Lib.hid (HJ10.out.below HK.out (bw_al (Below.refl _ _) (.cells #[.int .i64 (x1 : Int), .int .i64 (x2 : Int)] 49)))
          have hsz := heap_lt HJ9A.out.row
          have HSZ := Lib.hid hsz
          clear hr9 ho9 hq9 hq10 hsz HJ9 HJ8A CC2
          go_wp2_with (at_builtin; go_must (refine wpList_append_gs layS HJ9A.out.own (lit_spell2 V10 ((x1 : Int), (x2 : Int))) elS (by rw [HSL.out]; simp; omega) (by rw [HSL.out]; simp; omega) (Nat.le_of_lt HSZ.out) ?_ _ _ rfl rfl rfl rfl); intro v10 w10 hg10 hgr10 hb10 _; obtain ⟨a10, k10, hv10⟩ := hg10.gs.shape; obtain ⟨l10, hl10⟩ : ∃ n, (S ++ [((x1 : Int), (x2 : Int))]).length = n := ⟨_, rfl⟩; rw [hl10] at hv10; subst hv10; clear hl10; have HJN := Lib.hid (HJ9A.out.push HK.out hgr10 hg10 HIW.out); have hp10 := hgr10.block p (heap_lt HJ9A.out.row) (fun e => gw_tag HJ9A.out.own HJ9A.out.row (by decide) e.symm); have c10 : w10.cell? ⟨p, 2, none⟩ = some (.slice ca j cc) := cell_of_row w10 _ _ _ _ _ (hp10.trans HJ9A.out.row); have f10 := row_free (hp10.trans HJ9A.out.row) 2; clear hg10 hb10 hgr10 hp10)
          have HF : Hid (TI w RD (.slice oa k oc) L p id bl (.slice a10 l10 k10) (S ++ [((x1 : Int), (x2 : Int))]) (rdSps b st3 (j + 1)).2 (w10.setCell ⟨p, 2, none⟩ (.slice a10 l10 k10))) := by rw [HSN.out, HSP.out]; exact HJN.out
          have HG : Hid (S ++ [((x1 : Int), (x2 : Int))] = (rdSps b st3 (j + 1)).1) := by show _ = _; rw [HSN.out, HSP.out, HSD.out]
          try go_wp2
          go_roundg (m - (j + 1))
          case rel => exact ⟨j + 1, _, _, rfl, by have := HLTJ.out; omega, by go_num, HF, HG⟩
          case measure => have := HLTJ.out; omega
        · obtain rfl : j = m := by omega
          have e3 : ¬ (j : Int) < j := by omega
          have hrow := HJ.out.row
          obtain ⟨y0, y1, y2⟩ := acct_cells hrow
          have hal : Below wr.heap.size wr (wr.alloc (.cells #[.int .i64 (id : Int), .int .i64 bl, .slice ca j cc] 43)) := bw_al (Below.refl _ _) _
          have HJA := Lib.hid (HJ.out.below HK.out hal)
          have hk4 : k ≤ 4096 := by have := HLTK.out; omega
          have hsz : w.heap.size ≤ (wr.alloc (.cells #[.int .i64 (id : Int), .int .i64 bl, .slice ca j cc] 43)).heap.size := Nat.le_trans HJ.out.tr.bel.size hal.size
          have HSZ := Lib.hid hsz
          have HX : Hid (accD (L ++ [((⟨(id : Int), bl, S⟩, (ca, j, cc)) : AcX)]) = (rdAcs b st0 (k + 1)).1) := by
            show _ = _
            rw [accD_app, HAN.out, HLD.out, HAC.out, HSD.out]
          have HST2 : Hid ((rdAcs b st0 (k + 1)).2 = (rdSps b st3 j).2) := by show _ = _; rw [HAN.out, HAC.out]
          clear hrow hal hsz
          go_wp2_with (at_builtin; go_must (refine wpList_append_gs layA HJA.out.tr.out (lit_acct2 wr (⟨(id : Int), bl, S⟩, (ca, j, cc))) elA (by rw [HLL.out]; simp; omega) (by rw [HLL.out]; simp; omega) HSZ.out ?_ _ _ rfl rfl rfl rfl); intro v12 w12 ho12 hg12 hb12 _; have HT12 := Lib.hid (HJA.out.done HK.out (u := (ca, j, cc)) HIW1.out HIW2.out hg12 ho12); have HF : Hid (TR w RD v12 (L ++ [((⟨(id : Int), bl, S⟩, (ca, j, cc)) : AcX)]) (rdAcs b st0 (k + 1)).2 w12) := (by show TR _ _ _ _ _ _; rw [HST2.out]; exact HT12.out); clear ho12 hg12 hb12)
          go_roundg (n - (k + 1))
          case rel => exact ⟨k + 1, _, rfl, by have := HLTK.out; omega, by go_num, HF, HX⟩
          case measure => have := HLTK.out; omega
    · obtain rfl : k = n := by omega
      have e2 : ¬ (k : Int) < k := by omega
      have hLD : (rtL b).1 = accD L := by rw [HRL.out, HLD.out]
      have CD := Lib.hid (HD.out wr _ HT.out.rd)
      have CD2 := Lib.hid (fun V (hV : Below wr.heap.size wr V) => HD.out V _ (HK.out.below HT.out.rd hV))
      rw [← HRL.out, ← HRDN.out] at CD CD2
      have HAC := Lib.hid HT.out.acs
      have HBL := Lib.hid HT.out.bel
      have HLD2 := Lib.hid hLD
      obtain ⟨d, hd⟩ : ∃ d, rtD b = d := ⟨_, rfl⟩
      rw [hd] at CD CD2
      have HDD := Lib.hid hd
      clear hLD hd hlt
      go_wp2_with fail
      refine CD.out.mono ?_
      rintro e w13 ⟨rfl, hb13⟩
      have HB13 := Lib.hid hb13
      have HBF := Lib.hid (HBL.out.trans (hb13.mono HBL.out.size))
      clear hb13 CD
      have HBAD : Hid (rtE b ≠ 0 → rtk b = []) := fun h => by rw [HL.out, if_neg h]
      by_cases hd0 : d = 0
      · subst hd0
        have CR := Lib.hid (rrtRight_any _ L w13 (HAC.out.below HB13.out))
        obtain ⟨rg, hrg⟩ : ∃ r, aright (accD L) = r := ⟨_, rfl⟩
        rw [hrg] at CR
        have HRG := Lib.hid hrg
        clear hrg
        go_wp2_with fail
        refine CR.out.mono ?_
        rintro e w14 ⟨rfl, hb14⟩
        have HB14 := Lib.hid hb14
        have HBG := Lib.hid (HBF.out.trans (hb14.mono HBF.out.size))
        have hEE := HE.out
        rw [HDD.out, if_neg (by simp), HLD2.out, HRG.out] at hEE
        clear hb14 CR
        cases rg with
        | false =>
          have HEE : Hid (((rtE b : Nat) : Int) = 2) := by show _ = _; rw [hEE]; rfl
          have hne : rtE b ≠ 0 := by have := HEE.out; omega
          have HKB := Lib.hid (HBAD.out hne)
          clear hEE hne
          go_wp2
          go_ret2
          exact ⟨.slice none 0 0, [], by rw [HEE.out]; rfl, acs_nil _, HKB.out.symm, HBG.out⟩
        | true =>
          have HEE : Hid (((rtE b : Nat) : Int) = 0) := by show _ = _; rw [hEE]; rfl
          have hne : rtE b = 0 := by have := HEE.out; omega
          have HKB : Hid (rtk b = accD L) := by show _ = _; rw [HL.out, if_pos hne, HLD2.out]
          clear hEE hne
          go_wp2
          go_ret2
          exact ⟨_, L, by rw [HEE.out]; rfl, (HAC.out.below HB13.out).below HB14.out, HKB.out.symm, HBG.out⟩
      · have e5 : ((d : Int) != 0) = true := by simp; omega
        have hEE := HE.out
        rw [HDD.out, if_pos hd0] at hEE
        have HEE := Lib.hid hEE
        have hne : rtE b ≠ 0 := by omega
        have HKB := Lib.hid (HBAD.out hne)
        clear hEE hne hd0
        go_wp2_with fail
        refine (CD2.out w13 HB13.out).mono ?_
        rintro e w14 ⟨rfl, hb14⟩
        have HBG := Lib.hid (HBF.out.trans (hb14.mono HBF.out.size))
        clear hb14 CD2
        go_wp2
        go_ret2
        exact ⟨.slice none 0 0, [], by rw [HEE.out]; rfl, acs_nil _, HKB.out.symm, HBG.out⟩
end Go.Proofs.Ytjnbdeopoohnmaa
