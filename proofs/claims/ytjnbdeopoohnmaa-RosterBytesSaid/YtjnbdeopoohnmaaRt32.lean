/- Layer 56 (roster): Put of the document. -/
import Derived.Test.YtjnbdeopoohnmaaRt30
import Derived.Test.YtjnbdeopoohnmaaRt2
import Derived.Test.YtjnbdeopoohnmaaRfield
import Derived.Deep.RegionLaw
import Derived.Deep.DeepCutAuto
import Derived.Deep.CutBlock
import Derived.Lib.QuietBelow
set_option linter.unusedSimpArgs false
namespace Go.Proofs.Ytjnbdeopoohnmaa
open Go.RowKit Go.Sort

set_option maxRecDepth 100000 in
set_option maxHeartbeats 1600000 in
theorem rrtPut_any (v : Value) (l : List AcX) (w : World) (h : Acs w v l) (hr : aright (accD l) = true) : Calls Try.prog 38 #[v] w fun e w' => ∃ v2, e = .returned v2 ∧ Bs w' v2 (rosB (accD l)) ∧ Below w.heap.size w w' := by
  obtain ⟨n, hn⟩ : ∃ n, l.length = n := ⟨_, rfl⟩
  obtain ⟨a, c, b, o, rfl, h1, h2, hix, hlt', hcell, -⟩ := h.1.open_n layA elA n hn
  have HC := Lib.hid hcell
  have HN := Lib.hid hn
  have HLT := Lib.hid hlt'
  have HIX := Lib.hid hix
  have HX := Lib.hid h.2
  have HRR := Lib.hid hr
  obtain ⟨-, hall, hlen⟩ := aright_up HRR.out
  have HALL := Lib.hid hall
  have hn4 : n ≤ 4096 := by rw [accD_len, HN.out] at hlen; exact hlen
  have HBY : Hid (rosB (accD l) = vput n ++ (accD l).flatMap acB) := by show _ = _; unfold rosB; rw [accD_len, HN.out]
  have HAC : Hid (∀ k, k ≤ n → (((accD l).take k).flatMap acB).length ≤ 5000000) := fun k hk => by
    have h1 := acsB_len (D := (accD l).take k) (fun a ha => HALL.out a (List.mem_of_mem_take ha))
    rw [List.length_take] at h1
    show _ ≤ _
    omega
  have hvn := vput_len10 n (by omega)
  have HVN := Lib.hid hvn
  have HTR : Hid (∀ {V1 V2 : World}, Below w.heap.size w V1 → Below V1.heap.size V1 V2 → Below w.heap.size w V2) := fun h1 h2 => h1.trans (h2.mono h1.size)
  clear h hn hcell hlt' hix hr hall hlen hvn
  go_enter Try.func38, Try.ntmps38
  go_wp2_with fail
  refine (rnumber_any n (by omega) (by omega) w).mono ?_
  rintro e w6 ⟨v6, rfl, ho6, hb6⟩
  rw [show ((n : Int)).toNat = n by omega] at ho6
  have HO6 := Lib.hid ho6
  have HB6 := Lib.hid hb6
  clear ho6 hb6
  go_wp2_with fail
  go_loopg [3, 4] n (fun qq vo vi wr => ∃ k : Nat, qq = n - k ∧ k ≤ n ∧ vi = .int .i64 k ∧ Hid (Ob wr w.heap.size 5 vo (vput n ++ ((accD l).take k).flatMap acB)) ∧ Hid (Below w.heap.size w wr))
  case atStart => exact ⟨0, by omega, by omega, rfl, by rw [List.take_zero, List.flatMap_nil, List.append_nil]; exact HO6, HB6⟩
  case round =>
    obtain ⟨k, rfl, hk, rfl, HO, HBW⟩ := hrel
    obtain ⟨oa, oc, hos⟩ := HO.out.shape
    by_cases hlt : k < n
    · have e2 : (k : Int) < n := by omega
      obtain ⟨x, hx⟩ : ∃ s, l[k]? = some s := ⟨_, List.getElem?_eq_getElem (by have := HN.out; omega)⟩
      have m0 := HC.out k x hx 0 _ rfl
      have m1 := HC.out k x hx 1 _ rfl
      have m2 := HC.out k x hx 2 _ rfl
      rw [Nat.add_zero] at m0
      have hbl := HLT.out k hlt
      have HMC := Lib.hid (fun (V : World) (hV : Below w.heap.size w V) => And.intro ((hV.cell hbl).trans m0) (And.intro ((hV.cell hbl).trans m1) ((hV.cell hbl).trans m2)))
      have hixk := fun W => HIX.out W k hlt
      have hxv := HX.out x (List.mem_of_getElem? hx)
      have hone := HALL.out x.1 (List.mem_of_getElem? (accD_get hx))
      have hacn := acsB_next (accD_get hx)
      have hac := HAC.out k hk
      obtain ⟨⟨xid, xbl, xsp⟩, ⟨xa, xn, xc⟩⟩ := x
      unfold Sl3.v at HMC
      simp only at HMC hone hacn
      obtain ⟨sa, sc, sb, so, hse, -, hsc2, six, slt, scell, -⟩ := hxv.1.open_n layS elS xsp.length rfl
      unfold Sl3.v at hse
      simp only [Value.slice.injEq] at hse
      obtain ⟨rfl, hxn, rfl⟩ := hse
      rw [← hxn] at six slt
      have HSC : Hid (∀ V : World, Below w.heap.size w V → ∀ i s, xsp[i]? = some s → V.cell? ⟨sb, so i, none⟩ = some (.int .i64 s.1) ∧ V.cell? ⟨sb, so i + 1, none⟩ = some (.int .i64 s.2)) := fun V hV i s hi => by
        have hb := slt i (by rw [hxn]; exact (List.getElem?_eq_some_iff.1 hi).1)
        exact ⟨(hV.cell hb).trans (scell i s hi 0 _ rfl), (hV.cell hb).trans (scell i s hi 1 _ rfl)⟩
      have HSX := Lib.hid six
      have HNS : Hid (xsp.length = xn) := hxn.symm
      have hwf := aone_wf hone
      simp only at hwf
      have hn32 : xn ≤ 32 := by omega
      have HSW := Lib.hid (one_spW hone)
      have HWF := Lib.hid hwf
      obtain ⟨pre, hpre⟩ : ∃ q, vput n ++ ((accD l).take k).flatMap acB = q := ⟨_, rfl⟩
      have hprel : pre.length ≤ 5000010 := by rw [← hpre, List.length_append]; have := HVN.out; omega
      have hfin : vput n ++ ((accD l).take (k + 1)).flatMap acB = (((pre ++ vput xid.toNat) ++ vput (vturn xbl).toNat) ++ vput xn) ++ spsB xsp := by
        rw [hacn, ← List.append_assoc, hpre]
        unfold acB
        simp only [List.append_assoc, hxn]
      rw [hpre] at HO hos
      have HPREL := Lib.hid hprel
      have HFIN := Lib.hid hfin
      have hv1 := vput_len10 xid.toNat (by omega)
      have hv2 := vput_len10 (vturn xbl).toNat (vturn_bound xbl (by omega) (by omega))
      have hv3 := vput_len10 xn (by omega)
      have HL1 : Hid ((pre ++ vput xid.toNat).length ≤ 5000020) := by show _ ≤ _; rw [List.length_append]; omega
      have HL2 : Hid (((pre ++ vput xid.toNat) ++ vput (vturn xbl).toNat).length ≤ 5000030) := by show _ ≤ _; rw [List.length_append, List.length_append]; omega
      have HL3 : Hid ((((pre ++ vput xid.toNat) ++ vput (vturn xbl).toNat) ++ vput xn).length ≤ 5000040) := by show _ ≤ _; rw [List.length_append, List.length_append, List.length_append]; omega
      have HV1 := Lib.hid hv1
      have HV2 := Lib.hid hv2
      have HV3 := Lib.hid hv3
      have HLTK := Lib.hid hlt
      obtain ⟨y0, y1, y2⟩ := HMC.out wr HBW.out
      obtain ⟨pl, hpl⟩ : ∃ q, pre.length = q := ⟨_, rfl⟩
      rw [hpl] at hos
      subst hos
      clear hx m0 m1 m2 hbl hxv hone hacn hac six slt scell hwf hpre hprel hfin hv1 hv2 hv3 hlt hxn hpl
      go_wp2_with fail
      refine (rnumber_any xid (by have := HWF.out; omega) (by have := HWF.out; omega) wr).mono ?_
      rintro e v1w ⟨v1, rfl, ho1, hb1⟩
      have HQ1 := Lib.hid ho1.bs
      have HB1a := Lib.hid (HTR.out HBW.out hb1)
      have HO1a := Lib.hid (HO.out.below hb1)
      obtain ⟨va1, vc1, hvs1⟩ := ho1.shape
      obtain ⟨vl1, hvl1⟩ : ∃ q, (vput xid.toNat).length = q := ⟨_, rfl⟩
      rw [hvl1] at hvs1
      subst hvs1
      clear ho1 hb1 hvl1 y0 y1 y2
      obtain ⟨y0, y1, y2⟩ := HMC.out v1w HB1a.out
      go_wp2_with (at_builtin; go_must (refine wpList_append_bytes HO1a.out HQ1.out elB (by have := HPREL.out; have := HV1.out; omega) (by have := HPREL.out; have := HV1.out; omega) HB1a.out.size ?_ _ _ rfl rfl rfl rfl); intro w1v w1 ho hg hb _; obtain ⟨w1a, w1c, hs⟩ := ho.shape; obtain ⟨w1l, hl⟩ : ∃ q, (pre ++ vput xid.toNat).length = q := ⟨_, rfl⟩; rw [hl] at hs; subst hs; have HO1 := Lib.hid ho; have HB1 := Lib.hid (HB1a.out.trans hb); clear ho hg hb hl y0 y1 y2; obtain ⟨y0, y1, y2⟩ := HMC.out w1 HB1.out)
      clear HO1a HQ1
      refine (rsigned_any xbl (by have := HWF.out; omega) (by have := HWF.out; omega) w1).mono ?_
      rintro e v2w ⟨v2, rfl, ho2, hb2⟩
      have HQ2 := Lib.hid ho2.bs
      have HB2a := Lib.hid (HTR.out HB1.out hb2)
      have HO2a := Lib.hid (HO1.out.below hb2)
      obtain ⟨va2, vc2, hvs2⟩ := ho2.shape
      obtain ⟨vl2, hvl2⟩ : ∃ q, (vput (vturn xbl).toNat).length = q := ⟨_, rfl⟩
      rw [hvl2] at hvs2
      subst hvs2
      clear ho2 hb2 hvl2 y0 y1 y2
      obtain ⟨y0, y1, y2⟩ := HMC.out v2w HB2a.out
      go_wp2_with (at_builtin; go_must (refine wpList_append_bytes HO2a.out HQ2.out elB (by have := HL1.out; have := HV2.out; omega) (by have := HL1.out; have := HV2.out; omega) HB2a.out.size ?_ _ _ rfl rfl rfl rfl); intro w2v w2 ho hg hb _; obtain ⟨w2a, w2c, hs⟩ := ho.shape; obtain ⟨w2l, hl⟩ : ∃ q, ((pre ++ vput xid.toNat) ++ vput (vturn xbl).toNat).length = q := ⟨_, rfl⟩; rw [hl] at hs; subst hs; have HO2 := Lib.hid ho; have HB2 := Lib.hid (HB2a.out.trans hb); clear ho hg hb hl y0 y1 y2; obtain ⟨y0, y1, y2⟩ := HMC.out w2 HB2.out)
      clear HO2a HQ2
      refine (rnumber_any xn (by omega) (by omega) w2).mono ?_
      rintro e v3w ⟨v3, rfl, ho3, hb3⟩
      rw [show ((xn : Int)).toNat = xn by omega] at ho3
      have HQ3 := Lib.hid ho3.bs
      have HB3a := Lib.hid (HTR.out HB2.out hb3)
      have HO3a := Lib.hid (HO2.out.below hb3)
      obtain ⟨va3, vc3, hvs3⟩ := ho3.shape
      obtain ⟨vl3, hvl3⟩ : ∃ q, (vput xn).length = q := ⟨_, rfl⟩
      rw [hvl3] at hvs3
      subst hvs3
      clear ho3 hb3 hvl3 y0 y1 y2
      obtain ⟨y0, y1, y2⟩ := HMC.out v3w HB3a.out
      go_wp2_with (at_builtin; go_must (refine wpList_append_bytes HO3a.out HQ3.out elB (by have := HL2.out; have := HV3.out; omega) (by have := HL2.out; have := HV3.out; omega) HB3a.out.size ?_ _ _ rfl rfl rfl rfl); intro w3v w3 ho hg hb _; obtain ⟨w3a, w3c, hs⟩ := ho.shape; obtain ⟨w3l, hl⟩ : ∃ q, (((pre ++ vput xid.toNat) ++ vput (vturn xbl).toNat) ++ vput xn).length = q := ⟨_, rfl⟩; rw [hl] at hs; subst hs; have HO3 := Lib.hid ho; have HB3 := Lib.hid (HB3a.out.trans hb); clear ho hg hb hl y0 y1 y2; obtain ⟨y0, y1, y2⟩ := HMC.out w3 HB3.out)
      clear HO3a HQ3
      obtain ⟨hd, hhd⟩ : ∃ q, ((pre ++ vput xid.toNat) ++ vput (vturn xbl).toNat) ++ vput xn = q := ⟨_, rfl⟩
      rw [hhd] at HO3 HFIN HL3
      clear hhd HO1 HO2
      go_loopg [3, 5] xn (fun qq vo vi wr => ∃ j : Nat, qq = xn - j ∧ j ≤ xn ∧ vi = .int .i64 j ∧ Hid (Ob wr w.heap.size 5 vo (hd ++ spsB (xsp.take j))) ∧ Hid (Below w.heap.size w wr))
      case atStart => exact ⟨0, by omega, by omega, rfl, by rw [List.take_zero, show spsB [] = [] from rfl, List.append_nil]; exact HO3, HB3⟩
      case round =>
        obtain ⟨j, rfl, hj, rfl, HQ, HBV⟩ := hrel
        obtain ⟨ta, tc, hts⟩ := HQ.out.shape
        obtain ⟨tl, htl⟩ : ∃ q, (hd ++ spsB (xsp.take j)).length = q := ⟨_, rfl⟩
        rw [htl] at hts
        subst hts
        clear htl
        clear y0 y1 y2
        by_cases hlt : j < xn
        · have e3 : (j : Int) < xn := by omega
          obtain ⟨s, hs⟩ : ∃ s, xsp[j]? = some s := ⟨_, List.getElem?_eq_getElem (by rw [HNS.out]; exact hlt)⟩
          have hixs := fun W => HSX.out W j hlt
          have hsw := HSW.out s (List.mem_of_getElem? hs)
          have hnx := spsB_next hs
          have hln := spsB_len (l := xsp.take j) (fun t ht => HSW.out t (List.mem_of_mem_take ht))
          rw [List.length_take] at hln
          unfold spW at hsw
          simp only [Bool.and_eq_true, decide_eq_true_eq] at hsw
          have HCB := Lib.hid (fun (V : World) (hV : Below w.heap.size w V) => And.intro (HMC.out V hV).2.2 (HSC.out V hV j s hs))
          obtain ⟨st, su⟩ := s
          simp only at hsw hnx HCB
          have hv1 := vput_len10 st.toNat (by omega)
          have hv2 := vput_len10 su.toNat (by omega)
          have HW1 := Lib.hid hv1
          have HW2 := Lib.hid hv2
          have HLA : Hid ((hd ++ spsB (xsp.take j)).length ≤ 5001000) := by show _ ≤ _; rw [List.length_append]; have := HL3.out; omega
          have HLB : Hid (((hd ++ spsB (xsp.take j)) ++ vput st.toNat).length ≤ 5002000) := by show _ ≤ _; rw [List.length_append]; have := HLA.out; omega
          have HLTJ := Lib.hid hlt
          have HF : Hid (hd ++ spsB (xsp.take (j + 1)) = ((hd ++ spsB (xsp.take j)) ++ vput st.toNat) ++ vput su.toNat) := by show _ = _; rw [hnx]; unfold spB; simp only [List.append_assoc]
          have HSW2 := Lib.hid hsw
          obtain ⟨c2, g0, g1⟩ := HCB.out wr HBV.out
          clear hs hsw hnx hln hv1 hv2 hlt
          go_wp2_with fail
          refine (rnumber_any st (by have := HSW2.out; omega) (by have := HSW2.out; omega) wr).mono ?_
          rintro e v4w ⟨v4, rfl, ho4, hb4⟩
          have HQ4 := Lib.hid ho4.bs
          have HB4a := Lib.hid (HTR.out HBV.out hb4)
          have HO4a := Lib.hid (HQ.out.below hb4)
          obtain ⟨va4, vc4, hvs4⟩ := ho4.shape
          obtain ⟨vl4, hvl4⟩ : ∃ q, (vput st.toNat).length = q := ⟨_, rfl⟩
          rw [hvl4] at hvs4
          subst hvs4
          clear ho4 hb4 hvl4 c2 g0 g1
          obtain ⟨c2, g0, g1⟩ := HCB.out v4w HB4a.out
          go_wp2_with (at_builtin; go_must (refine wpList_append_bytes HO4a.out HQ4.out elB (by have := HLA.out; have := HW1.out; omega) (by have := HLA.out; have := HW1.out; omega) HB4a.out.size ?_ _ _ rfl rfl rfl rfl); intro w4v w4 ho hg hb _; obtain ⟨w4a, w4c, hs⟩ := ho.shape; obtain ⟨w4l, hl⟩ : ∃ q, ((hd ++ spsB (xsp.take j)) ++ vput st.toNat).length = q := ⟨_, rfl⟩; rw [hl] at hs; subst hs; have HO4 := Lib.hid ho; have HB4 := Lib.hid (HB4a.out.trans hb); clear ho hg hb hl c2 g0 g1; obtain ⟨c2, g0, g1⟩ := HCB.out w4 HB4.out)
          clear HO4a HQ4
          refine (rnumber_any su (by have := HSW2.out; omega) (by have := HSW2.out; omega) w4).mono ?_
          rintro e v5w ⟨v5, rfl, ho5, hb5⟩
          have HQ5 := Lib.hid ho5.bs
          have HB5a := Lib.hid (HTR.out HB4.out hb5)
          have HO5a := Lib.hid (HO4.out.below hb5)
          obtain ⟨va5, vc5, hvs5⟩ := ho5.shape
          obtain ⟨vl5, hvl5⟩ : ∃ q, (vput su.toNat).length = q := ⟨_, rfl⟩
          rw [hvl5] at hvs5
          subst hvs5
          clear ho5 hb5 hvl5 c2 g0 g1
          obtain ⟨c2, g0, g1⟩ := HCB.out v5w HB5a.out
          go_wp2_with (at_builtin; go_must (refine wpList_append_bytes HO5a.out HQ5.out elB (by have := HLB.out; have := HW2.out; omega) (by have := HLB.out; have := HW2.out; omega) HB5a.out.size ?_ _ _ rfl rfl rfl rfl); intro w5v w5 ho hg hb _; obtain ⟨w5a, w5c, hs⟩ := ho.shape; obtain ⟨w5l, hl⟩ : ∃ q, (((hd ++ spsB (xsp.take j)) ++ vput st.toNat) ++ vput su.toNat).length = q := ⟨_, rfl⟩; rw [hl] at hs; subst hs; have HO5 := Lib.hid ho; have HB5 := Lib.hid (HB5a.out.trans hb); clear ho hg hb hl c2 g0 g1; obtain ⟨c2, g0, g1⟩ := HCB.out w5 HB5.out)
          clear HO5a HQ5
          have HFF : Hid (Ob w5 w.heap.size 5 (.slice w5a w5l w5c) (hd ++ spsB (xsp.take (j + 1)))) := by rw [HF.out]; exact HO5.out
          try go_wp2
          go_roundg (xn - (j + 1))
          case rel => exact ⟨j + 1, rfl, by have := HLTJ.out; omega, by go_num, HFF, HB5⟩
          case measure => have := HLTJ.out; omega
        · obtain rfl : j = xn := by omega
          have e3 : ¬ (j : Int) < j := by omega
          obtain ⟨y0, y1, y2⟩ := HMC.out wr HBV.out
          have hq11 := HQ.out
          rw [List.take_of_length_le (by rw [HNS.out]; exact Nat.le_refl _), ← HFIN.out] at hq11
          have HP11 := Lib.hid hq11
          clear hq11
          go_wp2
          go_roundg (n - (k + 1))
          case rel => exact ⟨k + 1, rfl, by have := HLTK.out; omega, by go_num, HP11, HBV⟩
          case measure => have := HLTK.out; omega
    · obtain rfl : k = n := by omega
      have e2 : ¬ (k : Int) < k := by omega
      have hT : vput k ++ ((accD l).take k).flatMap acB = rosB (accD l) := by rw [HBY.out, List.take_of_length_le (by rw [accD_len, HN.out]; exact Nat.le_refl _)]
      rw [hT] at HO
      clear hT hos
      go_wp2
      go_ret
      exact ⟨_, rfl, HO.out.bs, HBW.out⟩
end Go.Proofs.Ytjnbdeopoohnmaa
