/- Layer 56 (roster): Take. -/
import Derived.Test.YtjnbdeopoohnmaaRt33
import Derived.Test.YtjnbdeopoohnmaaRt9
import Derived.Test.YtjnbdeopoohnmaaReader
import Derived.Deep.RegionLaw
import Derived.Deep.RegionHeld3
import Derived.Deep.DeepCutAuto
import Derived.Deep.CutBlock
import Derived.Lib.QuietBelow
set_option linter.unusedSimpArgs false
namespace Go.Proofs.Ytjnbdeopoohnmaa
open Go.RowKit Go.Sort

theorem rdK_rdr {w : World} {g : Nat} {y : Value} {c : List UInt8} (hg : w.heap.size ≤ g) (hs : c ≠ [] → ∀ x, y.ownBlock = some x → x < w.heap.size) : RdK w g (fun st W => Rdr W g y c st.1 st.2) :=
  ⟨fun h => ⟨_, _, h.cell, by decide, by decide⟩, fun h hb => h.below hb, fun h ho hg hF => h.only ho hg fun hc k hk hf => by have := hs hc k hk; have := hF k hf; omega, hg⟩
theorem lit_spell2 (w : World) (x : SpT) : Gs 2 csS (w.alloc (.cells #[.int .i64 x.1, .int .i64 x.2] 49)) (.slice (some ⟨w.heap.size, 0, none⟩) 1 1) [x] := (gw_lit layS w 49 #[.int .i64 x.1, .int .i64 x.2] [x] 1 rfl (by decide) rfl).gs
theorem lit_acct2 (w : World) (x : AcX) : Gs 3 csA (w.alloc (.cells #[.int .i64 x.1.id, .int .i64 x.1.bl, Sl3.v x.2] 43)) (.slice (some ⟨w.heap.size, 0, none⟩) 1 1) [x] := (gw_lit layA w 43 #[.int .i64 x.1.id, .int .i64 x.1.bl, Sl3.v x.2] [x] 1 rfl (by decide) rfl).gs
theorem TI.c2 {w : World} {RD : RSt → World → Prop} {vo cv : Value} {L : List AcX} {p : Nat} {id bl : Int} {S : List SpT} {st : RSt} {W : World} (h : TI w RD vo L p id bl cv S st W) : W.cell? ⟨p, 2, none⟩ = some cv := cell_of_row W _ _ _ _ _ h.row
theorem accD_app (L : List AcX) (x : AcX) : accD (L ++ [x]) = accD L ++ [x.1] := by simp [accD]
theorem iw_nat {n : Nat} (h : n ≤ 4611686018427387904) : IW n := ⟨by omega, by omega⟩

set_option maxRecDepth 100000 in
set_option maxHeartbeats 1600000 in
theorem rtTake_any (v : Value) (b : List UInt8) (w : World) (hb : Bs w v b) : Calls Try.prog 36 #[v] w (RosPost w (rtk b) (rtE b)) := by
  unfold RosPost
  obtain ⟨g, hg⟩ : ∃ g, w.heap.size = g := ⟨_, rfl⟩
  have CR := Lib.hid (read_any v b w hb)
  have hK := rdK_rdr (w := w) (g := g) (y := v) (c := b) (by omega) (fun hc x hx => hb.lt hc x hx)
  obtain ⟨RD, hRD⟩ : ∃ RD : RSt → World → Prop, (fun (st : RSt) W => Rdr W g v b st.1 st.2) = RD := ⟨_, rfl⟩
  have HN : Hid (∀ (most : Int) (W : World) (st : RSt), RD st W → Calls Try.prog 69 #[.pointer (some ⟨g, 0, none⟩), .int .i64 most] W fun e w' => e = .returned (.int .i64 ((rnum most b st.1 st.2).1 : Int)) ∧ RD (rnum most b st.1 st.2).2 w' ∧ Only (fun k => k = g) W w') := fun most W st h => by
    rw [← hRD] at h ⊢
    exact rnumber_rd most g v b st.1 st.2 W h
  have HS : Hid (∀ (most : Int) (W : World) (st : RSt), RD st W → Calls Try.prog 70 #[.pointer (some ⟨g, 0, none⟩), .int .i64 most] W fun e w' => e = .returned (.int .i64 (vback (rsig most b st.1 st.2).1)) ∧ RD (rsig most b st.1 st.2).2 w' ∧ Only (fun k => k = g) W w') := fun most W st h => by
    rw [← hRD] at h ⊢
    exact rsigned_rd most g v b st.1 st.2 W h
  have HD : Hid (∀ (W : World) (st : RSt), RD st W → Calls Try.prog 71 #[.pointer (some ⟨g, 0, none⟩)] W fun e w' => e = .returned (.int .i64 (rdone b st.1 st.2)) ∧ Below W.heap.size W w') := fun W st h => by
    rw [← hRD] at h
    exact rdone_any g v b st.1 st.2 W h
  have HST : Hid (∀ W, Rdr W g v b 0 0 → RD (0, 0) W) := fun W h => by rw [← hRD]; exact h
  rw [hRD] at hK
  have HK := Lib.hid hK
  obtain ⟨a, c, rfl⟩ := hb.shape
  obtain ⟨nb, hnb⟩ : ∃ n, b.length = n := ⟨_, rfl⟩
  rw [hnb] at CR HST ⊢
  have HE : Hid (((rtE b : Nat) : Int) = if rtD b ≠ 0 then (rtD b : Int) else if aright (rtL b).1 = true then 0 else 2) := by
    show _ = _
    unfold rtE
    split
    · rfl
    · split <;> rfl
  have HL : Hid (rtk b = if rtE b = 0 then (rtL b).1 else []) := rfl
  have HRL : Hid (rtL b = rdAcs b (rtN b).2 (rtN b).1) := rfl
  have HRDN : Hid (rtD b = rdone b (rtL b).2.1 (rtL b).2.2) := rfl
  have HRN : Hid (rtN b = rnum 4096 b 0 0) := rfl
  have hn4 := rnum_le (most := 4096) (by omega) b 0 0
  rw [show rnum 4096 b 0 0 = rtN b from rfl] at hn4
  obtain ⟨n, hn⟩ : ∃ n, (rtN b).1 = n := ⟨_, rfl⟩
  obtain ⟨st0, hst0⟩ : ∃ s, (rtN b).2 = s := ⟨_, rfl⟩
  rw [hn] at hn4 HRL
  rw [hst0] at HRL
  have HN1 := Lib.hid hn
  have HN2 := Lib.hid hst0
  clear hb hK hRD hnb hn hst0
  go_enter Try.func36, Try.ntmps36
  go_wp2_with fail
  refine CR.out.mono ?_
  rintro e w2 ⟨rfl, hr2, hb2⟩
  rw [hg] at hr2
  have HT2 : Hid (TR w RD (.slice none 0 0) [] (0, 0) w2) := ⟨HST.out _ hr2, Gw.nil _ _ _, (fun x hx => by cases hx), (fun x hx => by cases hx), hb2⟩
  clear hr2 hb2 CR
  have C1 := Lib.hid (HN.out 4096 w2 (0, 0) HT2.out.rd)
  rw [show rnum 4096 b (0 : Nat) (0 : Nat) = rtN b from rfl] at C1
  rw [HN1.out, HN2.out] at C1
  go_wp2_with fail
  refine C1.out.mono ?_
  rintro e w3 ⟨rfl, hr3, ho3⟩
  have HT3 := Lib.hid (HT2.out.read HK.out hr3 ho3)
  clear hr3 ho3 C1 HT2
  go_wp2_with fail
  go_loopg [5, 12] n (fun qq vo vi wr => ∃ (k : Nat) (L : List AcX), qq = n - k ∧ k ≤ n ∧ vi = .int .i64 k ∧ Hid (TR w RD vo L (rdAcs b st0 k).2 wr) ∧ Hid (accD L = (rdAcs b st0 k).1))
  case atStart => exact ⟨0, [], by omega, by omega, rfl, HT3, rfl⟩
  case round =>
    obtain ⟨k, L, rfl, hk, rfl, HT, HLD⟩ := hrel
    clear HT3
    obtain ⟨oa, oc, hos⟩ := HT.out.out.gs.shape
    have hLl : L.length = k := by rw [← accD_len, HLD.out, rdAcs_len]
    rw [hLl] at hos
    subst hos
    have HLL := Lib.hid hLl
    clear hLl
    by_cases hlt : k < n
    · have e2 : (k : Int) < n := by omega
      obtain ⟨st, hst⟩ : ∃ s, (rdAcs b st0 k).2 = s := ⟨_, rfl⟩
      rw [hst] at HT
      have HAN : Hid (rdAcs b st0 (k + 1) = ((rdAcs b st0 k).1 ++ [(rdAc b st).1], (rdAc b st).2)) := by show _ = _; rw [← hst]; rfl
      have C1 := Lib.hid (HN.out 2147483648 wr st HT.out.rd)
      rw [show rnum 2147483648 b st.1 st.2 = rdA1 b st from rfl] at C1
      have hi1 := (rnum_most 2147483648 b st.1 st.2).1
      rw [show rnum 2147483648 b st.1 st.2 = rdA1 b st from rfl] at hi1
      have hi2 := (rsig_most 1099511627776 b (rdA1 b st).2.1 (rdA1 b st).2.2).1
      rw [show rsig 1099511627776 b (rdA1 b st).2.1 (rdA1 b st).2.2 = rdA2 b st from rfl] at hi2
      have hi3 := rnum_le (most := 32) (by omega) b (rdA2 b st).2.1 (rdA2 b st).2.2
      rw [show rnum 32 b (rdA2 b st).2.1 (rdA2 b st).2.2 = rdA3 b st from rfl] at hi3
      have HLTK := Lib.hid hlt
      have HAC : Hid (rdAc b st = (⟨((rdA1 b st).1 : Int), vback (rdA2 b st).1, (rdSps b (rdA3 b st).2 (rdA3 b st).1).1⟩, (rdSps b (rdA3 b st).2 (rdA3 b st).1).2)) := rfl
      have HA2 : Hid (∀ W, RD (rdA1 b st).2 W → Calls Try.prog 70 #[.pointer (some ⟨g, 0, none⟩), .int .i64 1099511627776] W fun e w' => e = .returned (.int .i64 (vback (rdA2 b st).1)) ∧ RD (rdA2 b st).2 w' ∧ Only (fun k => k = g) W w') := fun W h => HS.out 1099511627776 W (rdA1 b st).2 h
      have HA3 : Hid (∀ W, RD (rdA2 b st).2 W → Calls Try.prog 69 #[.pointer (some ⟨g, 0, none⟩), .int .i64 32] W fun e w' => e = .returned (.int .i64 ((rdA3 b st).1 : Int)) ∧ RD (rdA3 b st).2 w' ∧ Only (fun k => k = g) W w') := fun W h => HN.out 32 W (rdA2 b st).2 h
      obtain ⟨id, hid⟩ : ∃ z, (rdA1 b st).1 = z := ⟨_, rfl⟩
      obtain ⟨bl, hbl⟩ : ∃ z, vback (rdA2 b st).1 = z := ⟨_, rfl⟩
      obtain ⟨m, hm⟩ : ∃ z, (rdA3 b st).1 = z := ⟨_, rfl⟩
      obtain ⟨st3, hst3⟩ : ∃ z, (rdA3 b st).2 = z := ⟨_, rfl⟩
      rw [hid] at C1 hi1 HAC
      rw [hbl] at HA2 hi2 HAC
      rw [hm] at HA3 hi3 HAC
      rw [hst3] at HA3 HAC
      have HIW1 : Hid (IW (id : Int)) := iw_nat hi1
      have HIW2 : Hid (IW bl) := ⟨by omega, by omega⟩
      clear hst hlt hid hbl hm hst3
      go_wp2_with fail
      refine C1.out.mono ?_
      rintro e w4 ⟨rfl, hr4, ho4⟩
      have HT4 := Lib.hid (HT.out.read HK.out hr4 ho4)
      have C2 := Lib.hid (HA2.out w4 hr4)
      clear hr4 ho4 C1 HT
      go_wp2_with fail
      refine C2.out.mono ?_
      rintro e w5 ⟨rfl, hr5, ho5⟩
      have hT5 := HT4.out.read HK.out hr5 ho5
      clear hr5 ho5 C2 HT4
      have hI := TI.start HK.out hT5 (id : Int) bl
      obtain ⟨p, hp⟩ : ∃ p, w5.heap.size = p := ⟨_, rfl⟩
      obtain ⟨V, hV⟩ : ∃ V, w5.alloc (.cells #[.int .i64 (id : Int), .int .i64 bl, .slice none 0 0] 43) = V := ⟨_, rfl⟩
      rw [hp, hV] at hI
      have HI := Lib.hid hI
      have C3 := Lib.hid (HA3.out V hI.tr.rd)
      have HV := Lib.hid hV
      have HP := Lib.hid hp
      clear hT5 hI hV hp
      go_wp2_with (with_reducible refine wpList_store_new rfl _ _ rfl rfl rfl (by kernel_rfl) (by simp) (by simp [Value.oneCell']) ?_)
      rw [HV.out, HP.out]
      refine C3.out.mono ?_
      rintro e w6 ⟨rfl, hr6, ho6⟩
      have HI6 := Lib.hid (HI.out.read HK.out hr6 ho6)
      clear hr6 ho6 C3 HI HA2 HA3
      go_wp2_with fail
      go_loopg [21] m (fun qq vi wr => ∃ (j : Nat) (cv : Value) (S : List SpT), qq = m - j ∧ j ≤ m ∧ vi = .int .i64 j ∧ Hid (TI w RD (.slice oa k oc) L p id bl cv S (rdSps b st3 j).2 wr) ∧ Hid (S = (rdSps b st3 j).1))
      case atStart => exact ⟨0, _, [], by omega, by omega, rfl, HI6, rfl⟩
      case round =>
        obtain ⟨j, cv, S, rfl, hj, rfl, HJ, HSD⟩ := hrel
        clear HI6
        obtain ⟨ca, cc, hcs⟩ := HJ.out.own.gs.shape
        have hSl : S.length = j := by rw [HSD.out, rdSps_len]
        rw [hSl] at hcs
        subst hcs
        have HSL := Lib.hid hSl
        clear hSl
        by_cases hlt : j < m
        · have e3 : (j : Int) < m := by omega
          have HLTJ := Lib.hid hlt
          obtain ⟨sj, hsj⟩ : ∃ s, (rdSps b st3 j).2 = s := ⟨_, rfl⟩
          rw [hsj] at HJ
          have HSN : Hid (rdSps b st3 (j + 1) = ((rdSps b st3 j).1 ++ [(rdSp b sj).1], (rdSp b sj).2)) := by show _ = _; rw [← hsj]; rfl
          have hJd := HJ.out.below HK.out (bw_dr (Below.refl _ _))
          have C1 := Lib.hid (HN.out 1099511627776 wr.drew sj hJd.tr.rd)
          have k1 := (rnum_most 1099511627776 b sj.1 sj.2).1
          obtain ⟨r1, hr1⟩ : ∃ r, rnum 1099511627776 b sj.1 sj.2 = r := ⟨_, rfl⟩
          have C2 := Lib.hid (fun W (h : RD r1.2 W) => HN.out 15 W r1.2 h)
          have k2 := (rnum_most 15 b r1.2.1 r1.2.2).1
          obtain ⟨r2, hr2⟩ : ∃ r, rnum 15 b r1.2.1 r1.2.2 = r := ⟨_, rfl⟩
          have HSP : Hid (rdSp b sj = (((r1.1 : Int), (r2.1 : Int)), r2.2)) := by show _ = _; unfold rdSp; rw [hr1, hr2]
          rw [hr1] at C1 k1
          rw [hr2] at C2 k2
          obtain ⟨x1, s1⟩ := r1
          obtain ⟨x2, s2⟩ := r2
          simp only at C1 C2 k1 k2 HSP
          have HIW : Hid (IW (x1 : Int) ∧ IW (x2 : Int)) := ⟨iw_nat k1, iw_nat k2⟩
          have HJD := Lib.hid hJd
          have c2 := HJ.out.c2
          have c2d := hJd.c2
          have hm32 : m ≤ 32 := by omega
          clear hsj hr1 hr2 k1 k2 hlt hJd
          go_wp2_with fail
          go_region_law (first
            | (go_simp; go_at_call 69; (with_reducible refine C1.out.mono ?_); rintro e w8 ⟨rfl, hr8, ho8⟩; have HJ8 := Lib.hid (HJD.out.read HK.out hr8 ho8); have c8 := HJ8.out.c2; clear hr8 ho8)
            | (go_simp; go_at_call 69; (with_reducible refine (C2.out w8 HJ8.out.tr.rd).mono ?_); rintro e w9 ⟨rfl, hr9, ho9⟩; have HJ9 := Lib.hid (HJ8.out.read HK.out hr9 ho9); have c9 := HJ9.out.c2; have HJ9A := Lib.hid (HJ9.out.below HK.out (bw_al (Below.refl _ _) (.cells #[.int .i64 (x1 : Int), .int .i64 (x2 : Int)] 49))); have c9a : ∀ ob, (w9.alloc ob).cell? ⟨p, 2, none⟩ = some (.slice ca j cc) := fun ob => (HJ9.out.below HK.out (bw_al (Below.refl _ _) ob)).c2; clear hr9 ho9)
            | (refine step_append_row layS HJ9A.out.own (lit_spell2 w9 ((x1 : Int), (x2 : Int))) elS (by rw [HSL.out]; simp; omega) (by rw [HSL.out]; simp; omega) (by have := HJ9A.out.own; have := heap_lt HJ9A.out.row; omega) ?_ _ _ rfl rfl rfl rfl; intro v10 w10 hg10 hb10 hgr10; obtain ⟨a10, k10, hv10⟩ := hg10.gs.shape; obtain ⟨l10, hl10⟩ : ∃ n, (S ++ [((x1 : Int), (x2 : Int))]).length = n := ⟨_, rfl⟩; rw [hl10] at hv10; subst hv10; clear hl10; have HJN := Lib.hid (HJ9A.out.push HK.out hgr10 hg10 HIW.out); have hp10 := hgr10.block p (heap_lt HJ9A.out.row) (fun e => gw_tag HJ9A.out.own HJ9A.out.row (by decide) e.symm); have c10 : w10.cell? ⟨p, 2, none⟩ = some (.slice ca j cc) := cell_of_row w10 _ _ _ _ _ (hp10.trans HJ9A.out.row); have f10 := row_free (hp10.trans HJ9A.out.row) 2; clear hg10 hb10 hgr10 hp10))
          all_goals
            go_simp
            have HF : Hid (TI w RD (.slice oa k oc) L p id bl (.slice a10 l10 k10) (S ++ [((x1 : Int), (x2 : Int))]) (rdSps b st3 (j + 1)).2 (w10.setCell ⟨p, 2, none⟩ (.slice a10 l10 k10))) := by rw [HSN.out, HSP.out]; exact HJN.out
            have HG : Hid (S ++ [((x1 : Int), (x2 : Int))] = (rdSps b st3 (j + 1)).1) := by show _ = _; rw [HSN.out, HSP.out, HSD.out]
            go_wp2
            go_roundg (m - (j + 1))
            case rel => exact ⟨j + 1, _, _, rfl, by have := HLTJ.out; omega, by go_num, HF, HG⟩
            case measure => have := HLTJ.out; omega
        · obtain rfl : j = m := by omega
          have e3 : ¬ (j : Int) < j := by omega
          have hrow := HJ.out.row
          obtain ⟨y0, y1, y2⟩ := acct_cells hrow
          have hal : Below wr.heap.size wr (wr.alloc (.cells #[.int .i64 (id : Int), .int .i64 bl, .slice ca j cc] 43)) := bw_al (Below.refl _ _) _
          have HJA := Lib.hid (HJ.out.below HK.out hal)
          have hk4 : k ≤ 4096 := by have := HLTK.out; omega
          have hsz : w.heap.size ≤ (wr.alloc (.cells #[.int .i64 (id : Int), .int .i64 bl, .slice ca j cc] 43)).heap.size := Nat.le_trans HJ.out.tr.bel.size hal.size
          have HSZ := Lib.hid hsz
          have HX : Hid (accD (L ++ [((⟨(id : Int), bl, S⟩, (ca, j, cc)) : AcX)]) = (rdAcs b st0 (k + 1)).1) := by
            show _ = _
            rw [accD_app, HAN.out, HLD.out, HAC.out, HSD.out]
          have HST2 : Hid ((rdAcs b st0 (k + 1)).2 = (rdSps b st3 j).2) := by show _ = _; rw [HAN.out, HAC.out]
          clear hrow hal hsz
          go_wp2_with (at_builtin; go_must (refine wpList_append_gs layA HJA.out.tr.out (lit_acct2 wr (⟨(id : Int), bl, S⟩, (ca, j, cc))) elA (by rw [HLL.out]; simp; omega) (by rw [HLL.out]; simp; omega) HSZ.out ?_ _ _ rfl rfl rfl rfl); intro v12 w12 ho12 hg12 hb12 _; have HT12 := Lib.hid (HJA.out.done HK.out (u := (ca, j, cc)) HIW1.out HIW2.out hg12 ho12); clear ho12 hg12 hb12)
          have HF : Hid (TR w RD v12 (L ++ [((⟨(id : Int), bl, S⟩, (ca, j, cc)) : AcX)]) (rdAcs b st0 (k + 1)).2 w12) := by rw [HST2.out]; exact HT12.out
          go_roundg (n - (k + 1))
          case rel => exact ⟨k + 1, _, rfl, by have := HLTK.out; omega, by go_num, HF, HX⟩
          case measure => have := HLTK.out; omega
    · obtain rfl : k = n := by omega
      have e2 : ¬ (k : Int) < k := by omega
      have hLD : (rtL b).1 = accD L := by rw [HRL.out, HLD.out]
      have CD := Lib.hid (HD.out wr _ HT.out.rd)
      rw [← HRL.out, ← HRDN.out] at CD
      have HAC := Lib.hid HT.out.acs
      have HBL := Lib.hid HT.out.bel
      have HLD2 := Lib.hid hLD
      obtain ⟨d, hd⟩ : ∃ d, rtD b = d := ⟨_, rfl⟩
      rw [hd] at CD
      have HDD := Lib.hid hd
      clear hLD hd hlt
      go_wp2_with fail
      refine CD.out.mono ?_
      rintro e w13 ⟨rfl, hb13⟩
      have HB13 := Lib.hid hb13
      have HBF := Lib.hid (HBL.out.trans (hb13.mono HBL.out.size))
      clear hb13 CD
      have HBAD : Hid (rtE b ≠ 0 → rtk b = []) := fun h => by rw [HL.out, if_neg h]
      by_cases hd0 : d = 0
      · subst hd0
        have CR := Lib.hid (rtRight_any _ L w13 (HAC.out.below HB13.out))
        obtain ⟨rg, hrg⟩ : ∃ r, aright (accD L) = r := ⟨_, rfl⟩
        rw [hrg] at CR
        have HRG := Lib.hid hrg
        clear hrg
        go_wp2_with fail
        refine CR.out.mono ?_
        rintro e w14 ⟨rfl, hb14⟩
        have HB14 := Lib.hid hb14
        have HBG := Lib.hid (HBF.out.trans (hb14.mono HBF.out.size))
        have hEE := HE.out
        rw [HDD.out, if_neg (by simp), HLD2.out, HRG.out] at hEE
        clear hb14 CR
        cases rg with
        | false =>
          have HEE : Hid (((rtE b : Nat) : Int) = 2) := by show _ = _; rw [hEE]; rfl
          have hne : rtE b ≠ 0 := by have := HEE.out; omega
          have HKB := Lib.hid (HBAD.out hne)
          clear hEE hne
          go_wp2
          go_ret2
          exact ⟨.slice none 0 0, [], by rw [HEE.out]; rfl, acs_nil _, HKB.out.symm, HBG.out⟩
        | true =>
          have HEE : Hid (((rtE b : Nat) : Int) = 0) := by show _ = _; rw [hEE]; rfl
          have hne : rtE b = 0 := by have := HEE.out; omega
          have HKB : Hid (rtk b = accD L) := by show _ = _; rw [HL.out, if_pos hne, HLD2.out]
          clear hEE hne
          go_wp2
          go_ret2
          exact ⟨_, L, by rw [HEE.out]; rfl, (HAC.out.below HB13.out).below HB14.out, HKB.out.symm, HBG.out⟩
      · have e5 : ((d : Int) != 0) = true := by simp; omega
        have hEE := HE.out
        rw [HDD.out, if_pos hd0] at hEE
        have HEE := Lib.hid hEE
        have hne : rtE b ≠ 0 := by omega
        have HKB := Lib.hid (HBAD.out hne)
        clear hEE hne hd0
        go_wp2
        go_ret2
        exact ⟨.slice none 0 0, [], by rw [HEE.out]; rfl, acs_nil _, HKB.out.symm, HBF.out⟩
end Go.Proofs.Ytjnbdeopoohnmaa
