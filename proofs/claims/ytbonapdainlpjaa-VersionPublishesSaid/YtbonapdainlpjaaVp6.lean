/- Layer 19 (version): the statement VersionPublishes, the walk. -/
import Derived.Test.YtbonapdainlpjaaVp6c
import Derived.Test.YtbonapdainlpjaaVe14
import Derived.Deep.RegionLaw
import Derived.Deep.DeepCutAuto
import Derived.Deep.CutBlock
import Derived.Lib.QuietBelow
set_option linter.unusedSimpArgs false
namespace Go.Proofs.Ytbonapdainlpjaa
open Go.RowKit Go.Sort

set_option maxRecDepth 100000 in
set_option maxHeartbeats 6400000 in
theorem vp_walk (v : Value) (l : List NetX) (x : NetX) (z0 z1 : Int) (w : World) (h : Nets w v l) (hx : NetIs w x) (hz : -9223372036854775808 ≤ z1 ∧ z1 ≤ 9223372036854775807) : Calls Try.prog 14 #[v, x.agg, .agg #[.int .i64 z0, .int .i64 z1]] w fun e w' => e = .returned (.bool true) ∧ Below w.heap.size w w' := by
  obtain ⟨n, hn⟩ : ∃ n, l.length = n := ⟨_, rfl⟩
  have HH := Lib.hid h
  obtain ⟨a, c, b, o, hsv, h1, h2, hix, hlt', hcell, -⟩ := h.1.open_n layX elNet n hn
  subst hsv
  have HC := Lib.hid hcell
  have HN := Lib.hid hn
  have HLT := Lib.hid hlt'
  have HX := Lib.hid hx
  obtain ⟨W, hW⟩ : ∃ V, (w.alloc (.cells #[.int .i64 x.1.ver, Sl3.v x.2.1, Sl3.v x.2.2] 95)).alloc (.cells #[.int .i64 z0, .int .i64 z1] 34) = V := ⟨_, rfl⟩
  obtain ⟨q, hq⟩ : ∃ q, w.heap.size = q := ⟨_, rfl⟩
  have hB : Below w.heap.size w W := by rw [← hW]; exact ((Below.refl _ _).alloc (Nat.le_refl _) _).alloc (by simp) _
  have hr : NB W q x := by rw [← hW, ← hq]; unfold NB; rw [alloc_get, if_neg (by simp)]; exact heap_alloc_new _ _
  have hr2 : W.heap[q + 1]? = some (.cells #[.int .i64 z0, .int .i64 z1] 34 (0, 0)) := by rw [← hW, ← hq, alloc_get, if_pos (by simp)]
  have HW := Lib.hid hW
  have HQ := Lib.hid hq
  have HR := Lib.hid hr
  have HB := Lib.hid hB
  have CA := Lib.hid (vAwake_any W)
  have CF := Lib.hid (fun (V : World) (hV : Below w.heap.size w V) => vFew_any _ _ V (h.below hV))
  have CG := Lib.hid (fun (V : World) (hV : Below w.heap.size w V) => gFew_any x.1 _ _ V (hx.below hV))
  have CR := Lib.hid (fun (hl : l.length ≤ 1000) (V : World) (hV : Below w.heap.size w V) => rvVers_any _ _ V (h.below hV) hl)
  have CP := Lib.hid (fun (hl : l.length ≤ 1000) (V : World) (hV : Below w.heap.size w V) => vPublish_any _ _ x V (h.below hV) (hx.below hV) hl)
  have CK := Lib.hid (fun (V : World) (hV : Below w.heap.size w V) => rgCheck_any x.1 _ _ V (hx.below hV))
  have CS := Lib.hid (fun (V : World) (hV : Below w.heap.size w V) => rgSame_yes x.1 _ _ _ _ V (hx.below hV) (hx.below hV))
  have HQX := Lib.hid (fun (V : World) (hV : Below W.heap.size W V) => (hr.below hV).cells)
  have HQZ := Lib.hid (fun (V : World) (hV : Below W.heap.size W V) => show V.cell? ⟨q + 1, 0, none⟩ = some (.int .i64 z0) ∧ V.cell? ⟨q + 1, 1, none⟩ = some (.int .i64 z1) from ⟨cell_of_row V _ _ _ _ _ ((hV.block _ (heap_lt hr2)).trans hr2), cell_of_row V _ _ _ _ _ ((hV.block _ (heap_lt hr2)).trans hr2)⟩)
  obtain ⟨⟨ver, st, ln⟩, ⟨xa, xn, xc⟩, ⟨ya, yn, yc⟩⟩ := x
  unfold NetX.agg at CP ⊢
  unfold Net.agg at CP CG CK CS ⊢
  unfold Sl3.v at hW HQX CP CG CK CS HW ⊢
  simp only at hW HQX CP CG CK CS HW ⊢
  obtain ⟨fw, hfw⟩ : ∃ b, vfew l = b := ⟨_, rfl⟩
  have HFW := Lib.hid hfw
  rw [hfw] at CF
  obtain ⟨fg, hfg⟩ : ∃ b, gfew ⟨ver, st, ln⟩ = b := ⟨_, rfl⟩
  rw [hfg] at CG
  obtain ⟨s0, s1, s2⟩ := HQX.out W (Below.refl _ _)
  have HZ1 := Lib.hid hz
  clear h hx hn hcell hlt' hW hq hr hr2 hB hfw hfg hz
  go_enter Try.func14, Try.ntmps14
  go_upto_region 1 with fail
  rw [HW.out, HQ.out]
  go_wp2_with fail
  refine CA.out.mono ?_
  rintro e w2 ⟨rfl, hb2⟩
  have HB2 := Lib.hid hb2
  have hb02 := HB.out.trans (hb2.mono HB.out.size)
  have HB02 := Lib.hid hb02
  clear s0 s1 s2 hb2 hb02
  go_wp2_with fail
  refine (CF.out w2 HB02.out).mono ?_
  rintro e w3 ⟨rfl, hb3⟩
  have hb23 := HB2.out.trans (hb3.mono HB2.out.size)
  have HB3 := Lib.hid hb23
  have hb03 := HB.out.trans (hb23.mono HB.out.size)
  have HB03 := Lib.hid hb03
  obtain ⟨s0, s1, s2⟩ := HQX.out w3 hb23
  clear hb3 hb23 hb03
  cases fw with
  | false =>
    go_wp2
    go_ret
    exact ⟨rfl, HB03.out⟩
  | true =>
  have hn70 : n ≤ 70 := by
    have := HFW.out; unfold vfew at this; rw [HN.out] at this; simp at this; exact this.2
  have HN70 := Lib.hid hn70
  have HL10 : Hid (l.length ≤ 1000) := by show l.length ≤ 1000; rw [HN.out]; omega
  clear hn70
  go_wp2_with fail
  refine (CG.out w3 HB03.out).mono ?_
  rintro e w4 ⟨rfl, hb4⟩
  have hb24 := HB3.out.trans (hb4.mono HB3.out.size)
  have HB4 := Lib.hid hb24
  have hb04 := HB.out.trans (hb24.mono HB.out.size)
  have HB04 := Lib.hid hb04
  clear hb4 hb24 hb04 s0 s1 s2
  cases fg with
  | false =>
    go_wp2
    go_ret
    exact ⟨rfl, HB04.out⟩
  | true =>
  go_wp2_with fail
  refine (CR.out HL10.out w4 HB04.out).mono ?_
  rintro e w5 ⟨vv, rfl, hgv, hb5⟩
  have hlenv : (vers l).length = n := by unfold vers; rw [List.length_map]; exact HN.out
  obtain ⟨av, cv, bv, ov, rfl, kv1, kv2, hixv, hltv, hcellv, -⟩ := hgv.gs.open_n layN elVI n hlenv
  have HGV := Lib.hid hgv.gs
  have HCV := Lib.hid hcellv
  have HLTV := Lib.hid hltv
  have C5 := Lib.hid (rvRight_any _ _ w5 hgv.gs (by rw [hlenv]; have := HN70.out; omega))
  obtain ⟨rt, hrt⟩ : ∃ r, vright (vers l) = r := ⟨_, rfl⟩
  rw [hrt] at C5
  have HRT := Lib.hid hrt
  have hb25 := HB4.out.trans (hb5.mono HB4.out.size)
  have HB5 := Lib.hid hb25
  have hb05 := HB.out.trans (hb25.mono HB.out.size)
  clear hgv hlenv hcellv hltv hrt hb5 hb25
  go_wp2_with fail
  refine C5.out.mono ?_
  rintro e w6 ⟨rfl, hb6⟩
  have hb26 := HB5.out.trans (hb6.mono HB5.out.size)
  have HB6 := Lib.hid hb26
  have HB56 := Lib.hid hb6
  have hb06 := HB.out.trans (hb26.mono HB.out.size)
  have CP6 := Lib.hid (CP.out HL10.out w6 hb06)
  obtain ⟨s0, s1, s2⟩ := HQX.out w6 hb26
  clear hb6 hb26 hb05 hb06
  go_wp2_with fail
  refine CP6.out.mono ?_
  intro e w7 hpub
  unfold PubPost at hpub
  simp only at hpub
  obtain ⟨⟨va, rfl, hnil, hshelf⟩, hb7⟩ := hpub
  have hb27 := HB6.out.trans (hb7.mono HB6.out.size)
  have HB7 := Lib.hid hb27
  have HB57 := Lib.hid (HB56.out.trans (hb7.mono HB56.out.size))
  have CK7 := Lib.hid (CK.out w7 (HB.out.trans (hb27.mono HB.out.size)))
  obtain ⟨ne, hne⟩ : ∃ e, netE ⟨ver, st, ln⟩ = e := ⟨_, rfl⟩
  rw [hne] at CK7
  have HNE := Lib.hid hne
  obtain ⟨pe, hpe⟩ : ∃ e, pubE l ⟨ver, st, ln⟩ = e := ⟨_, rfl⟩
  rw [hpe] at hnil hshelf ⊢
  have HPE := Lib.hid hpe
  have HNIL := Lib.hid hnil
  have HSH := Lib.hid hshelf
  clear s0 s1 s2
  obtain ⟨s0, s1, s2⟩ := HQX.out w7 hb27
  clear hb7 hb27 hne hpe hnil hshelf
  go_wp2_with fail
  refine CK7.out.mono ?_
  rintro e w8 ⟨rfl, hb8⟩
  have hb28 := HB7.out.trans (hb8.mono HB7.out.size)
  have HB8 := Lib.hid hb28
  have HB78 := Lib.hid hb8
  have HB58 := Lib.hid (HB57.out.trans (hb8.mono HB57.out.size))
  have HB08 := Lib.hid (HB.out.trans (hb28.mono HB.out.size))
  clear s0 s1 s2
  obtain ⟨s0, s1, s2⟩ := HQX.out w8 hb28
  have r0 := fun d os => cell_regrown s0 d os
  have r1 := fun d os => cell_regrown s1 d os
  have r2 := fun d os => cell_regrown s2 d os
  have HVL : Hid (∀ y, l[n - 1]? = some y → vLate l ver = decide (ver ≤ y.1.ver)) := fun y hy => by unfold vLate; rw [HN.out, hy]
  have HV0 : Hid (n = 0 → vLate l ver = false) := fun h => by
    have hl0 : l = [] := List.eq_nil_of_length_eq_zero (by rw [HN.out]; exact h)
    unfold vLate; rw [hl0]; rfl
  obtain ⟨late, hlate⟩ : ∃ b, vLate l ver = b := ⟨_, rfl⟩
  rw [hlate] at HVL HV0
  obtain ⟨bad, hbad⟩ : ∃ b, ((ne == 0) && (!rt || late)) = b := ⟨_, rfl⟩
  obtain ⟨f1, hf1⟩ : ∃ f, (if bad = true then (2 : Int) else ne) = f := ⟨_, rfl⟩
  obtain ⟨full, hfull⟩ : ∃ b, ((f1 == 0) && decide (n = 64)) = b := ⟨_, rfl⟩
  have HPF : Hid (pe = if full = true then 3 else f1) := by
    show pe = _
    rw [← HPE.out, ← hfull, ← hf1, ← hbad, ← hlate, ← HRT.out, ← HNE.out]
    unfold pubE
    simp only [HN.out]
    by_cases e1 : netE ⟨ver, st, ln⟩ = 0
    · rw [if_neg (by simpa using e1), e1]
      cases h2 : vright (vers l) <;> cases h3 : vLate l ver <;> by_cases h4 : n = 64 <;> simp [h2, h3, h4]
    · rw [if_pos e1]
      simp [e1]
  have HBAD := Lib.hid hbad
  have HF1 := Lib.hid hf1
  have HFULL := Lib.hid hfull
  clear hb8 hb28 hlate hbad hf1 hfull
  go_upto_region 9 with fail
  go_cut [61] (fun c wx => c = .bool bad ∧ Hid (Below w8.heap.size w8 wx))
  case first =>
    refine wp_mono (vp_r9 a c n q av cv bv ov l ver ne rt late bad w5 w8 HN HN70 s0 hixv HCV HLTV HB58 HVL HV0 HBAD) ?_
    intro e a' wr h
    obtain ⟨rfl, ⟨f, rfl⟩, hb9⟩ := h.of
    clear h
    go_wp2
    go_meet
    case rel => exact ⟨rfl, hb9⟩
  case rest =>
    obtain ⟨rfl, HB9⟩ := hcut
    clear s0 s1 s2 r0 r1 r2
    obtain ⟨w9, hw9⟩ : ∃ V, V = wc := ⟨_, rfl⟩
    subst hw9
    go_upto_if 61 with fail
    go_cut [11] (fun s11 wx => s11 = .int .i64 f1 ∧ wx = w9)
    case first =>
      cases bad with
      | true =>
        have hf : f1 = 2 := by rw [← HF1.out]; rfl
        go_wp2
        go_meet
        case rel => exact ⟨by rw [hf], rfl⟩
      | false =>
        have hf : f1 = ne := by rw [← HF1.out]; rfl
        go_wp2
        go_meet
        case rel => exact ⟨by rw [hf], rfl⟩
    case rest =>
      obtain ⟨rfl, hwc⟩ := hcut
      rw [hwc]
      clear hwc
      go_upto_region 11 with fail
      go_cut [68] (fun c wx => c = .bool full ∧ wx = w9)
      case first =>
        by_cases e : f1 = 0
        · have e0 : (f1 == 0) = true := by simpa using e
          by_cases h64 : n = 64
          · have e1 : ((n : Int) == 64) = true := by simp; omega
            have hf : full = true := by rw [← HFULL.out, e0, decide_eq_true h64]; rfl
            clear e h64
            go_wp2
            go_meet
            case rel => exact ⟨by rw [hf], rfl⟩
          · have e1 : ((n : Int) == 64) = false := by simp; omega
            have hf : full = false := by rw [← HFULL.out, e0, decide_eq_false h64]; rfl
            clear e h64
            go_wp2
            go_meet
            case rel => exact ⟨by rw [hf], rfl⟩
        · have e0 : (f1 == 0) = false := by simpa using e
          have hf : full = false := by rw [← HFULL.out, e0]; rfl
          clear e
          go_wp2
          go_meet
          case rel => exact ⟨by rw [hf], rfl⟩
      case rest =>
        obtain ⟨rfl, hwc⟩ := hcut
        rw [hwc]
        clear hwc
        go_upto_if 68 with fail
        go_cut [11] (fun s11 wx => s11 = .int .i64 pe ∧ wx = w9)
        case first =>
          cases full with
          | true =>
            have hf : Hid (pe = 3) := by show _ = _; rw [HPF.out]; rfl
            go_wp2
            go_meet
            case rel => exact ⟨by rw [hf.out], rfl⟩
          | false =>
            have hf : Hid (pe = f1) := by show _ = _; rw [HPF.out]; rfl
            go_wp2
            go_meet
            case rel => exact ⟨by rw [hf.out], rfl⟩
        case rest =>
          obtain ⟨rfl, hwc⟩ := hcut
          rw [hwc]
          clear hwc
          have HB09 := Lib.hid (HB08.out.trans (HB9.out.mono HB08.out.size))
          have HB29 := Lib.hid (HB8.out.trans (HB9.out.mono HB8.out.size))
          have HB59 := Lib.hid (HB58.out.trans (HB9.out.mono HB58.out.size))
          have HB79 := Lib.hid (HB78.out.trans (HB9.out.mono HB78.out.size))
          go_upto_region 13 with fail
          go_cut [117] (fun c wx => c = .bool false ∧ Hid (Below w9.heap.size w9 wx))
          case first =>
            refine wp_mono (vp_r13 a c n q av cv va l ver pe st ln xa xn xc ya yn yc rt w w5 w7 w9 HN HN70 (HQX.out w9 HB29.out) HH HGV HRT HNIL HSH CS HB09 HB59 HB79) ?_
            intro e a' wr h
            obtain ⟨rfl, ⟨f, rfl⟩, hb10⟩ := h.of
            clear h
            go_wp2
            go_meet
            case rel => exact ⟨rfl, hb10⟩
          case rest =>
            obtain ⟨rfl, HB10⟩ := hcut
            obtain ⟨w10, hw10⟩ : ∃ V, V = wc := ⟨_, rfl⟩
            subst hw10
            have HB210 := Lib.hid (HB29.out.trans (HB10.out.mono HB29.out.size))
            have HB010 := Lib.hid (HB09.out.trans (HB10.out.mono HB09.out.size))
            obtain ⟨D, hD⟩ : ∃ D, wrap64 ((n : Int) - z1) = D := ⟨_, rfl⟩
            obtain ⟨p, hp⟩ : ∃ p : Nat → Bool, (fun j : Nat => decide (D ≤ (j : Int)) || decide ((n : Int) < z1)) = p := ⟨_, rfl⟩
            have HP : Hid (∀ j : Nat, p j = (decide (D ≤ (j : Int)) || decide ((n : Int) < z1))) := fun j => by rw [← hp]
            have HD := Lib.hid hD
            clear hp
            have HQZW : Hid (∀ V : World, Below w10.heap.size w10 V → V.cell? ⟨q + 1, 0, none⟩ = some (.int .i64 z0) ∧ V.cell? ⟨q + 1, 1, none⟩ = some (.int .i64 z1)) := fun V hV => HQZ.out V (HB210.out.trans (hV.mono HB210.out.size))
            go_wp2_with fail
            refine wp_mono (vp_loop a c n q b o l z0 z1 p D w w10 HN HN70 HC HLT hix HB010 HQZW HP hD) ?_
            intro e a' wr h
            obtain ⟨rfl, f, y12, y13, rfl, HO, HBj⟩ := h.of
            clear h
--<T
            have hO := HO.out
            unfold Gath at hO
            rw [List.take_of_length_le (by rw [HN.out]; exact Nat.le_refl _)] at hO
            have HB0j := Lib.hid (HB010.out.trans (HBj.out.mono HB010.out.size))
            have HB2j := Lib.hid (HB210.out.trans (HBj.out.mono HB210.out.size))
            have HSI : Hid (Nets wr y12 (vsince l z0)) := ⟨hO.a.gs, fun y hy => (HH.out.2 y (List.mem_filter.1 hy).1).below HB0j.out⟩
            have HLA : Hid (Nets wr y13 (lastL p l n)) := ⟨hO.b.gs, fun y hy => (HH.out.2 y (mem_lastL hy)).below HB0j.out⟩
            have CPR := Lib.hid (vPrune_any _ l z1 wr (HH.out.below HB0j.out) HL10.out HZ1.out)
            obtain ⟨p0, p1⟩ := HQZ.out wr HB2j.out
            clear hO
            go_wp2_with fail
            refine CPR.out.mono ?_
            intro e w12 hpru
            unfold PruPost at hpru
            obtain ⟨⟨pv, rfl, hpnil, hpl⟩, hb12⟩ := hpru
            obtain ⟨pr, hpr⟩ : ∃ e, pruE l z1 = e := ⟨_, rfl⟩
            rw [hpr] at hpnil hpl ⊢
            have HPRE : Hid (pr = if rt = false ∨ z1 < 1 then 2 else 0) := by
              show pr = _
              rw [← hpr]; unfold pruE; rw [HRT.out]
            have HPN := Lib.hid hpnil
            have HPL := Lib.hid hpl
            have HB12 := Lib.hid hb12
            have HB012 := Lib.hid (HB0j.out.trans (hb12.mono HB0j.out.size))
            have HB212 := Lib.hid (HB2j.out.trans (hb12.mono HB2j.out.size))
            clear p0 p1
            obtain ⟨p0, p1⟩ := HQZ.out w12 HB212.out
            obtain ⟨b3, hb3⟩ : ∃ b, (!rt || decide (z1 < 1)) = b := ⟨_, rfl⟩
            have HB3' := Lib.hid hb3
            clear hpr hpnil hpl hb12 hb3
            go_upto_region 25 with fail
            go_cut [166] (fun c wx => c = .bool b3 ∧ wx = w12)
            case first =>
              cases rt with
              | false =>
                have hb : b3 = true := by rw [← HB3'.out]; rfl
                go_wp2
                go_meet
                case rel => exact ⟨by rw [hb], rfl⟩
              | true =>
                by_cases hz1 : z1 < 1
                · have hb : b3 = true := by rw [← HB3'.out, decide_eq_true hz1]; rfl
                  go_wp2
                  go_meet
                  case rel => exact ⟨by rw [hb], rfl⟩
                · have hb : b3 = false := by rw [← HB3'.out, decide_eq_false hz1]; rfl
                  go_wp2
                  go_meet
                  case rel => exact ⟨by rw [hb], rfl⟩
            case rest =>
              obtain ⟨rfl, hwc⟩ := hcut
              rw [hwc]
              clear hwc
              go_upto_if 166 with fail
              go_cut [] (fun wx => Hid (Below w12.heap.size w12 wx))
              case first =>
                cases b3 with
                | true =>
                  have hpr : pr = 2 := by
                    rw [HPRE.out, if_pos]
                    have := HB3'.out
                    cases rt with
                    | false => exact .inl rfl
                    | true => exact .inr (of_decide_eq_true (by simpa using this))
                  obtain rfl := HPN.out (by rw [hpr]; decide)
                  subst hpr
                  go_wp2
                  go_meet
                  case rel => exact Below.refl _ _
                | false =>
                  have hrz : rt = true ∧ ¬ z1 < 1 := by
                    have := HB3'.out
                    cases rt with
                    | false => simp at this
                    | true => exact ⟨rfl, of_decide_eq_false (by simpa using this)⟩
                  have hpr : pr = 0 := by
                    rw [HPRE.out, if_neg]
                    rintro (h | h)
                    · rw [hrz.1] at h; cases h
                    · exact hrz.2 h
                  have hLL : lastL p l n = pruL l z1 := by
                    have hz := hrz.2
                    have hzz := HZ1.out
                    have h70 := HN70.out
                    have hDD : D = (n : Int) - z1 := by
                      rw [← HD.out]
                      unfold wrap64; omega
                    have hlj := HN.out
                    rw [lastL_drop (s := l.length - min z1.toNat l.length) (fun t ht => ?_) n (by omega), List.take_of_length_le (by omega)]
                    · rfl
                    · rw [HP.out t, Bool.eq_iff_iff, Bool.or_eq_true, decide_eq_true_iff, decide_eq_true_iff, decide_eq_true_iff]
                      omega
                  have hN2 := HPL.out hpr
                  have hN3 := HLA.out.below HB12.out
                  rw [hLL] at hN3
                  have CSM := Lib.hid (vSame_yes _ _ _ w12 hN2 hN3)
                  subst hpr
                  clear hLL hN2 hN3 hrz
                  go_wp2_with fail
                  refine CSM.out.mono ?_
                  rintro e w13 ⟨rfl, hb13⟩
                  have HB13 := Lib.hid hb13
                  clear hb13
                  go_wp2
                  go_meet
                  case rel => exact HB13
              case rest =>
                have HBC := hcut
                clear p0 p1
                obtain ⟨w13, hw13⟩ : ∃ V, V = wc := ⟨_, rfl⟩
                subst hw13
                have HB213 := Lib.hid (HB212.out.trans (HBC.out.mono HB212.out.size))
                have HB013 := Lib.hid (HB012.out.trans (HBC.out.mono HB012.out.size))
                have HBJ13 := Lib.hid (HB12.out.trans (HBC.out.mono HB12.out.size))
                obtain ⟨p0, p1⟩ := HQZ.out w13 HB213.out
                have CSI := Lib.hid (vSince_any _ l z0 w13 (HH.out.below HB013.out) HL10.out)
                go_wp2_with fail
                refine CSI.out.mono ?_
                rintro e w14 ⟨v14, rfl, hn14, hb14⟩
                have CSM := Lib.hid (vSame_yes _ _ _ w14 hn14 (HSI.out.below (HBJ13.out.trans (hb14.mono HBJ13.out.size))))
                have HB014 := Lib.hid (HB013.out.trans (hb14.mono HB013.out.size))
                clear hn14 hb14 p0 p1
                go_wp2_with fail
                refine CSM.out.mono ?_
                rintro e w15 ⟨rfl, hb15⟩
                have HB015 := Lib.hid (HB014.out.trans (hb15.mono HB014.out.size))
                clear hb15
                go_wp2
                go_ret
                exact ⟨rfl, HB015.out⟩
-->T

end Go.Proofs.Ytbonapdainlpjaa
