/- Layer 12 (revoke): the statement RevokeFits, the walk. -/
import Derived.Test.YtjnbdeopoohnmaaRv12
import Derived.Deep.RegionLaw
import Derived.Deep.DeepCutAuto
import Derived.Deep.CutBlock
import Derived.Lib.QuietBelow
set_option linter.unusedSimpArgs false
namespace Go.Proofs.Ytjnbdeopoohnmaa
open Go.RowKit Go.Sort

theorem rright_of {l : List RT} (h1 : l.length ≤ 4096) (h2 : rinc 0 l = true) : rright l = true := by
  unfold rright; rw [decide_eq_true h1, h2]; rfl
theorem rright_inc {l : List RT} (h : rright l = true) : rinc 0 l = true := by
  unfold rright at h; simp only [Bool.and_eq_true] at h; exact h.2

set_option maxRecDepth 100000 in
set_option maxHeartbeats 3200000 in
theorem rf_walk (v : Value) (a : List RT) (u : Value) (b : List RT) (z t : Int) (w : World) (h : Revs w v a) (hu : Revs w u b) : Calls Try.prog 5 #[v, u, .agg #[.int .i64 z, .int .i64 t]] w fun e w' => e = .returned (.bool true) ∧ Below w.heap.size w w' := by
  have HA := Lib.hid (show Gs 2 csR w v a from h)
  have HBB := Lib.hid (show Gs 2 csR w u b from hu)
  obtain ⟨na, hna⟩ : ∃ n, a.length = n := ⟨_, rfl⟩
  obtain ⟨n, hn⟩ : ∃ n, b.length = n := ⟨_, rfl⟩
  have HNA := Lib.hid hna
  have HN := Lib.hid hn
  obtain ⟨W, hW⟩ : ∃ V, w.alloc (.cells #[.int .i64 z, .int .i64 t] 32) = V := ⟨_, rfl⟩
  obtain ⟨q, hq⟩ : ∃ q, w.heap.size = q := ⟨_, rfl⟩
  have hB : Below w.heap.size w W := by rw [← hW]; exact (Below.refl _ _).alloc (Nat.le_refl _) _
  have hr2 : W.heap[q]? = some (.cells #[.int .i64 z, .int .i64 t] 32 (0, 0)) := by rw [← hW, ← hq]; exact heap_alloc_new _ _
  have HQZ := Lib.hid (fun (V : World) (hV : Below W.heap.size W V) => show V.cell? ⟨q, 0, none⟩ = some (.int .i64 z) ∧ V.cell? ⟨q, 1, none⟩ = some (.int .i64 t) from ⟨cell_of_row V _ _ _ _ _ ((hV.block _ (heap_lt hr2)).trans hr2), cell_of_row V _ _ _ _ _ ((hV.block _ (heap_lt hr2)).trans hr2)⟩)
  have CA := Lib.hid (rAwake_any W)
  have CM := Lib.hid (fun (V : World) (hV : Below w.heap.size w V) => rMerge_any v u a b V (HA.out.below hV) (HBB.out.below hV))
  obtain ⟨a1, k1, b1, o1, hs1, -, -, hix1, hlt1, hcell1, -⟩ := HA.out.open_n layR elR na hna
  obtain ⟨a2, k2, hs2⟩ := HBB.out.shape
  subst hs1
  rw [hn] at hs2
  subst hs2
  have HC1 := Lib.hid hcell1
  have HLT1 := Lib.hid hlt1
  have HW := Lib.hid hW
  have HQ := Lib.hid hq
  have HB := Lib.hid hB
  clear h hu hna hn hW hq hB hr2 hcell1 hlt1
  go_enter Try.func5, Try.ntmps5
  go_upto_region 1 with fail
  rw [HW.out, HQ.out]
  go_wp2_with fail
  refine CA.out.mono ?_
  rintro e w2 ⟨rfl, hb2⟩
  have HB2 := Lib.hid hb2
  have HB02 := Lib.hid (HB.out.trans (hb2.mono HB.out.size))
  clear hb2
  by_cases ha3 : 300 < na
  · have e1 : (300 : Int) < na := by omega
    go_wp2
    go_ret
    exact ⟨rfl, HB02.out⟩
  · have e1 : ¬ (300 : Int) < na := by omega
    by_cases hb3 : 300 < n
    · have e2 : (300 : Int) < n := by omega
      go_wp2
      go_ret
      exact ⟨rfl, HB02.out⟩
    · have e2 : ¬ (300 : Int) < n := by omega
      have hla : Hid (a.length ≤ 300) := by show a.length ≤ 300; rw [HNA.out]; omega
      have hlb : Hid (b.length ≤ 300) := by show b.length ≤ 300; rw [HN.out]; omega
      clear ha3 hb3
      go_wp2_with fail
      refine (CM.out w2 HB02.out).mono ?_
      intro e w3 hm
      unfold MerPost at hm
      obtain ⟨⟨mv, rfl, hmn, hmg⟩, hb3'⟩ := hm
      obtain ⟨E, hE⟩ : ∃ E, merE a b = E := ⟨_, rfl⟩
      have HEV : Hid (E = if rright a = false ∨ rright b = false then 2 else if 4096 < (rmerge a b).length then 3 else 0) := hE.symm
      rw [hE] at hmn hmg ⊢
      have hb23 := HB2.out.trans (hb3'.mono HB2.out.size)
      have HB23 := Lib.hid hb23
      have HB03 := Lib.hid (HB.out.trans (hb23.mono HB.out.size))
      have HMG := Lib.hid hmg
      have HMN := Lib.hid hmn
      clear hE hmn hmg hb3' hb23
      by_cases hE0 : E = 0
      · have hmm := HMG.out hE0
        have hra : rright a = true := by
          cases hh : rright a with
          | true => rfl
          | false => have := HEV.out; rw [hE0, if_pos (.inl hh)] at this; cases this
        have hrb : rright b = true := by
          cases hh : rright b with
          | true => rfl
          | false => have := HEV.out; rw [hE0, if_pos (.inr hh)] at this; cases this
        have hml : (rmerge a b).length ≤ 600 := by have := rmerge_len _ a b (Nat.le_refl _); have := hla.out; have := hlb.out; omega
        have hfold := rmerge_fold (a := a) (rright_lt hrb)
        have hminc : rinc 0 (rmerge a b) = true := by rw [hfold]; exact rinc_fold (rright_inc hra) (rinc_all (rright_inc hrb))
        have hmr : rright (rmerge a b) = true := rright_of (by omega) hminc
        have hmh : rhas (rmerge a b) z t = (rhas a z t || rhas b z t) := by rw [hfold]; exact rhas_fold z t b a
        have hpl : (vsince (rmerge a b) t).length ≤ 600 := Nat.le_trans (List.length_filter_le _ _) hml
        have hpr : rright (vsince (rmerge a b) t) = true := rright_of (by omega) (rinc_since hminc)
        have hph : rhas (vsince (rmerge a b) t) z t = rhas (rmerge a b) z t := rhas_since _ z t
        obtain ⟨M, hM⟩ : ∃ M, rmerge a b = M := ⟨_, rfl⟩
        rw [hM] at hmm hml hminc hmr hmh hpl hpr hph
        have HM3 : Hid (∀ V : World, Below w3.heap.size w3 V → Gs 2 csR V mv M) := fun V hV => hmm.below hV
        obtain ⟨ha1, hha⟩ : ∃ x, rhas a z t = x := ⟨_, rfl⟩
        obtain ⟨hb1, hhb⟩ : ∃ x, rhas b z t = x := ⟨_, rfl⟩
        rw [hha, hhb] at hmh
        rw [hmh] at hph
        have D1 : Hid (∀ V : World, Below w3.heap.size w3 V → Calls Try.prog 14 #[mv] V fun e w' => e = .returned (.bool true) ∧ Below V.heap.size V w') := fun V hV => by
          have := rRight_any mv M V (HM3.out V hV); rwa [hmr] at this
        have D2 : Hid (∀ V : World, Below w3.heap.size w3 V → Calls Try.prog 17 #[mv, .int .i64 z, .int .i64 t] V fun e w' => e = .returned (.bool (ha1 || hb1)) ∧ Below V.heap.size V w') := fun V hV => by
          have := rHas_any mv M z t 0 V (HM3.out V hV) (by omega) (rinc_lt hminc); rwa [hmh] at this
        have D3 : Hid (∀ V : World, Below w3.heap.size w3 V → Calls Try.prog 17 #[.slice a1 na k1, .int .i64 z, .int .i64 t] V fun e w' => e = .returned (.bool ha1) ∧ Below V.heap.size V w') := fun V hV => by
          have := rHas_any _ a z t 0 V (HA.out.below (HB03.out.trans (hV.mono HB03.out.size))) (by have := hla.out; omega) (rright_lt hra); rwa [hha] at this
        have D4 : Hid (∀ V : World, Below w3.heap.size w3 V → Calls Try.prog 17 #[.slice a2 n k2, .int .i64 z, .int .i64 t] V fun e w' => e = .returned (.bool hb1) ∧ Below V.heap.size V w') := fun V hV => by
          have := rHas_any _ b z t 0 V (HBB.out.below (HB03.out.trans (hV.mono HB03.out.size))) (by have := hlb.out; omega) (rright_lt hrb); rwa [hhb] at this
        have D5 : Hid (∀ V : World, Below w3.heap.size w3 V → Calls Try.prog 15 #[mv, .int .i64 t] V fun e w' => ∃ v', e = .returned v' ∧ Gs 2 csR w' v' (vsince M t) ∧ Below V.heap.size V w') := fun V hV => rPrune_any mv M t V (HM3.out V hV) (by omega)
        have D6 : Hid (∀ (V : World) (pv : Value), Gs 2 csR V pv (vsince M t) → Calls Try.prog 14 #[pv] V fun e w' => e = .returned (.bool true) ∧ Below V.heap.size V w') := fun V pv hg => by
          have := rRight_any pv _ V hg; rwa [hpr] at this
        have D7 : Hid (∀ (V : World) (pv : Value), Gs 2 csR V pv (vsince M t) → Calls Try.prog 17 #[pv, .int .i64 z, .int .i64 t] V fun e w' => e = .returned (.bool (ha1 || hb1)) ∧ Below V.heap.size V w') := fun V pv hg => by
          have := rHas_any pv _ z t 0 V hg (by omega) (rinc_lt (rinc_since hminc)); rwa [hph] at this
        have HRA := Lib.hid hra
        have HRB := Lib.hid hrb
        obtain ⟨p0, p1⟩ := HQZ.out w3 HB23.out
        have r0 := fun d os => cell_regrown p0 d os
        have r1 := fun d os => cell_regrown p1 d os
        subst hE0
        clear hmm hml hminc hmr hmh hpl hpr hph hfold hM hha hhb hra hrb
        go_upto_region 8 with fail
        clear p0 p1
        refine wp_region_quiet_below (by kernel_rfl) (by kernel_rfl) ?_
        repeat (go_big_quiet_step ((fail)))
        refine wpQuiet_nil ?_
        intro _ hw'
        obtain ⟨⟨dq, osq⟩, hw''⟩ := hw'
        subst hw''
        have HB3q := below_regrown w3 dq osq
        obtain ⟨W3, hwq⟩ : ∃ x, x = grow (redrawn w3 dq) osq := ⟨_, rfl⟩
        rw [← hwq] at HB3q ⊢
        clear hwq
        have HW3 := Lib.hid HB3q
        clear HB3q
        go_upto_region 9 with fail
        go_cut [58] (fun c wx => c = .bool false ∧ Hid (Below w3.heap.size w3 wx))
        case first =>
          go_wp2_with fail
          refine (D1.out W3 HW3.out).mono ?_
          rintro e w4 ⟨rfl, hb4⟩
          have HW4 := Lib.hid (HW3.out.trans (hb4.mono HW3.out.size))
          clear hb4
          go_wp2_with fail
          refine (D2.out w4 HW4.out).mono ?_
          rintro e w5 ⟨rfl, hb5⟩
          have HW5 := Lib.hid (HW4.out.trans (hb5.mono HW4.out.size))
          clear hb5
          go_wp2_with fail
          refine (D3.out w5 HW5.out).mono ?_
          rintro e w6 ⟨rfl, hb6⟩
          have HW6 := Lib.hid (HW5.out.trans (hb6.mono HW5.out.size))
          clear hb6
          cases ha1 with
          | true =>
            go_wp2
            go_meet
            case rel => exact ⟨rfl, HW6⟩
          | false =>
            go_wp2_with fail
            refine (D4.out w6 HW6.out).mono ?_
            rintro e w7 ⟨rfl, hb7⟩
            have HW7 := Lib.hid (HW6.out.trans (hb7.mono HW6.out.size))
            clear hb7
            cases hb1 with
            | true =>
              go_wp2
              go_meet
              case rel => exact ⟨rfl, HW7⟩
            | false =>
              go_wp2
              go_meet
              case rel => exact ⟨rfl, HW7⟩
        case rest =>
          obtain ⟨rfl, HW8⟩ := hcut
          obtain ⟨w8, hw8⟩ : ∃ V, V = wc := ⟨_, rfl⟩
          subst hw8
          obtain ⟨hc, hhc⟩ : ∃ x, (ha1 || hb1) = x := ⟨_, rfl⟩
          rw [hhc] at D7 D2
          clear hhc
          go_wp2_with fail
          refine (D5.out w8 HW8.out).mono ?_
          rintro e w9 ⟨pv, rfl, hg9, hb9⟩
          have HG9 := Lib.hid hg9
          have HW9 := Lib.hid (HW8.out.trans (hb9.mono HW8.out.size))
          clear hg9 hb9
          go_upto_region 12 with fail
          go_cut [75] (fun c wx => c = .bool false ∧ Hid (Below w3.heap.size w3 wx))
          case first =>
            go_wp2_with fail
            refine (D6.out w9 pv HG9.out).mono ?_
            rintro e w10 ⟨rfl, hb10⟩
            have HG10 := Lib.hid (HG9.out.below hb10)
            have HW10 := Lib.hid (HW9.out.trans (hb10.mono HW9.out.size))
            clear hb10
            go_wp2_with fail
            refine (D7.out w10 pv HG10.out).mono ?_
            rintro e w11 ⟨rfl, hb11⟩
            have HW11 := Lib.hid (HW10.out.trans (hb11.mono HW10.out.size))
            clear hb11
            go_wp2_with fail
            refine (D2.out w11 HW11.out).mono ?_
            rintro e w12 ⟨rfl, hb12⟩
            have HW12 := Lib.hid (HW11.out.trans (hb12.mono HW11.out.size))
            clear hb12
            cases hc with
            | true =>
              go_wp2
              go_meet
              case rel => exact ⟨rfl, HW12⟩
            | false =>
              go_wp2
              go_meet
              case rel => exact ⟨rfl, HW12⟩
          case rest =>
            obtain ⟨rfl, HW13⟩ := hcut
            obtain ⟨w13, hw13⟩ : ∃ V, V = wc := ⟨_, rfl⟩
            subst hw13
            have HB013 := Lib.hid (HB03.out.trans (HW13.out.mono HB03.out.size))
            by_cases hna0 : na = 0
            · have e4 : ((na : Int) == 0) = true := by simp; omega
              clear hna0
              go_wp2
              go_ret
              exact ⟨rfl, HB013.out⟩
            · have e4 : ((na : Int) == 0) = false := by simp; omega
              obtain ⟨x, hx⟩ : ∃ s, a[0]? = some s := ⟨_, List.getElem?_eq_getElem (by have := HNA.out; omega)⟩
              have hxr : rone x = true := rinc_all (rright_inc HRA.out) x (List.mem_of_getElem? hx)
              have c0 := HC1.out 0 x hx 0 _ rfl
              have c1 := HC1.out 0 x hx 1 _ rfl
              rw [Nat.add_zero] at c0
              rw [← HB013.out.cell (by exact HLT1.out 0 (by omega))] at c0 c1
              have x0 := fun V => hix1 V 0 (by omega)
              rw [Int.natCast_zero] at x0
              have hil : (rins b x).length ≤ 301 := Nat.le_trans (rins_len b x) (by have := hlb.out; omega)
              have hE2 : addE b x = 0 := by unfold addE; rw [if_neg (by rw [HRB.out, hxr]; simp), if_neg (by omega)]
              have hincr : rinc 0 (rins b x) = true := rinc_ins (rright_inc HRB.out) hxr (by have := rone_pos hxr; omega)
              have CAD := Lib.hid (rAdd_any _ b x w13 (HBB.out.below HB013.out))
              unfold AddPost at CAD
              rw [hE2] at CAD
              have F1 : Hid (∀ (V : World) (y : Value), Gs 2 csR V y (rins b x) → Calls Try.prog 14 #[y] V fun e w' => e = .returned (.bool true) ∧ Below V.heap.size V w') := fun V y hg => by
                have := rRight_any y _ V hg; rwa [rright_of (by omega) hincr] at this
              have F2 : Hid (∀ (V : World) (y : Value), Gs 2 csR V y (rins b x) → Calls Try.prog 17 #[y, .int .i64 x.1, .int .i64 x.2] V fun e w' => e = .returned (.bool true) ∧ Below V.heap.size V w') := fun V y hg => by
                have := rHas_any y _ x.1 x.2 0 V hg (by omega) (rinc_lt hincr); rwa [rhas_self] at this
              obtain ⟨T, hT⟩ : ∃ T, rins b x = T := ⟨_, rfl⟩
              rw [hT] at CAD F1 F2
              obtain ⟨xt, xu⟩ := x
              simp only at c0 c1 CAD F2
              have HC0 : Hid (∀ V : World, Below w13.heap.size w13 V → V.cell? ⟨b1, o1 0, none⟩ = some (.int .i64 xt) ∧ V.cell? ⟨b1, o1 0 + 1, none⟩ = some (.int .i64 xu)) := fun V hV => ⟨(hV.cell (World.block_lt_of_cell? _ _ c0)).trans c0, (hV.cell (World.block_lt_of_cell? _ _ c1)).trans c1⟩
              clear hx hxr hil hE2 hincr hT hna0
              go_wp2_with fail
              refine CAD.out.mono ?_
              rintro e w14 ⟨⟨xv, rfl, -, hxg⟩, hb14⟩
              have HG14 := Lib.hid (hxg trivial)
              have HB14 := Lib.hid (HB013.out.trans (hb14.mono HB013.out.size))
              clear c0 c1
              obtain ⟨c0, c1⟩ := HC0.out w14 hb14
              have r0 := fun d os => cell_regrown c0 d os
              have r1 := fun d os => cell_regrown c1 d os
              have S1 : Hid (∀ d os, Calls Try.prog 14 #[xv] (grow (redrawn w14 d) os) fun e w'' => e = .returned (.bool true) ∧ ∃ p : Regrown, w'' = grow (redrawn w14 p.d) p.os) := fun d os => Calls.regrown_of (F1.out _ _ (HG14.out.below (below_regrown _ _ _)))
              have S2 : Hid (∀ d os, Calls Try.prog 17 #[xv, .int .i64 xt, .int .i64 xu] (grow (redrawn w14 d) os) fun e w'' => e = .returned (.bool true) ∧ ∃ p : Regrown, w'' = grow (redrawn w14 p.d) p.os) := fun d os => Calls.regrown_of (F2.out _ _ (HG14.out.below (below_regrown _ _ _)))
              clear hxg hb14
              go_upto_region 17 with fail
              clear c0 c1
              refine wp_region_quiet_below (by kernel_rfl) (by kernel_rfl) ?_
              repeat (go_big_quiet_step ((first | (go_at_call 14; with_reducible exact S1.out _ _) | (go_at_call 17; with_reducible exact S2.out _ _))))
              refine wpQuiet_nil ?_
              intro _ hw'
              obtain ⟨⟨dq, osq⟩, hw''⟩ := hw'
              subst hw''
              have HB15 := below_regrown w14 dq osq
              obtain ⟨W15, hwq⟩ : ∃ x, x = grow (redrawn w14 dq) osq := ⟨_, rfl⟩
              rw [← hwq] at HB15 ⊢
              clear hwq
              have HFIN := Lib.hid (HB14.out.trans (HB15.mono HB14.out.size))
              clear HB15
              go_wp2
              go_ret
              exact ⟨rfl, HFIN.out⟩
      · obtain rfl := HMN.out hE0
        have e3 : (E != 0) = true := by simpa using hE0
        clear hE0
        go_wp2
        go_ret
        exact ⟨rfl, HB03.out⟩

end Go.Proofs.Ytjnbdeopoohnmaa
