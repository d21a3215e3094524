/- Layer 56 (roster): RosterTurns: what is entered, set and blocked is the document's. -/
import Derived.Test.YtjnbdeopoohnmaaRt24
import Derived.Deep.RegionLaw
import Derived.Deep.DeepCutAuto
import Derived.Deep.CutBlock
import Derived.Lib.QuietBelow
import Derived.Lib.SliceRun
set_option linter.unusedSimpArgs false
namespace Go.Proofs.Ytjnbdeopoohnmaa
open Go.RowKit Go.Sort

theorem three_cells {w : World} {q : Nat} {a b c : Value} {T : Nat} (h : w.heap[q]? = some (.cells #[a, b, c] T (0, 0))) : w.cell? ⟨q, 0, none⟩ = some a ∧ w.cell? ⟨q, 1, none⟩ = some b ∧ w.cell? ⟨q, 2, none⟩ = some c :=
  ⟨cell_of_row w _ _ _ _ _ h, cell_of_row w _ _ _ _ _ h, cell_of_row w _ _ _ _ _ h⟩

set_option maxRecDepth 100000 in
set_option maxHeartbeats 1600000 in
theorem rosterturns_walk (v : Value) (l : List AcX) (id n0 n1 n2 : Int) (w : World) (h : Acs w v l) (hid : IW id) (hn0 : IW n0) (hn1 : IW n1) (hn2 : IW n2) :
    Calls Try.prog 7 #[v, .int .i64 id, .agg #[.int .i64 n0, .int .i64 n1, .int .i64 n2]] w fun e w' => e = .returned (.bool true) ∧ Below w.heap.size w w' := by
  obtain ⟨n, hn⟩ : ∃ n, l.length = n := ⟨_, rfl⟩
  obtain ⟨q, hq⟩ : ∃ q, w.heap.size = q := ⟨_, rfl⟩
  obtain ⟨W, hW⟩ : ∃ W, w.alloc (.cells #[.int .i64 n0, .int .i64 n1, .int .i64 n2] 39) = W := ⟨_, rfl⟩
  have hb0 : Below w.heap.size w W := by rw [← hW]; exact (Below.refl _ _).alloc (Nat.le_refl _) _
  have hr0 : W.heap[q]? = some (.cells #[.int .i64 n0, .int .i64 n1, .int .i64 n2] 39 (0, 0)) := by rw [← hW, ← hq]; exact heap_alloc_new _ _
  have HQX := Lib.hid (fun (V : World) (hV : Below W.heap.size W V) => three_cells ((hV.block q (heap_lt hr0)).trans hr0))
  have hHW := h.below hb0
  have HB0 := Lib.hid hb0
  have HHW := Lib.hid hHW
  obtain ⟨a, c, b, o, rfl, h1, h2, hix, hlt', hcell, -⟩ := hHW.1.open_n layA elA n hn
  have HC := Lib.hid hcell
  have HN := Lib.hid hn
  have HLT := Lib.hid hlt'
  have HIX := Lib.hid hix
  have CA := Lib.hid (rtAwake_any W)
  have CF := Lib.hid (fun V (hV : Below W.heap.size W V) => rtFew_any (.slice a n c) l V (HHW.out.below hV))
  have C1 := Lib.hid (fun V (hV : Below W.heap.size W V) => rtEnter_any (.slice a n c) l id n1 V (HHW.out.below hV) hid hn1)
  have C2 := Lib.hid (fun V (hV : Below W.heap.size W V) => rrtEnter_any (.slice a n c) l id n1 V (HHW.out.below hV) hid hn1)
  have C3 := Lib.hid (fun V (hV : Below W.heap.size W V) (hl : ∀ x ∈ l, x.1.sp.length ≤ 100000) => rtSet_any (.slice a n c) l id n0 n1 V (HHW.out.below hV) hl hn0 hn1)
  have C4 := Lib.hid (fun V (hV : Below W.heap.size W V) (hl : l.length ≤ 100000) => rrtSet_any (.slice a n c) l id n0 n1 V (HHW.out.below hV) hl hn0 hn1)
  have C5 := Lib.hid (fun V (hV : Below W.heap.size W V) (hl : ∀ x ∈ l, x.1.sp.length ≤ 100000) => rtBlock_any (.slice a n c) l id n2 V (HHW.out.below hV) hl hn2)
  have C6 := Lib.hid (fun V (hV : Below W.heap.size W V) (hl : l.length ≤ 100000) => rrtBlock_any (.slice a n c) l id n2 V (HHW.out.below hV) hl hn2)
  have C7 := Lib.hid (fun V (hV : Below W.heap.size W V) => rtRight_any (.slice a n c) l V (HHW.out.below hV))
  have C8 := Lib.hid (fun V (hV : Below W.heap.size W V) => rrtRight_any (.slice a n c) l V (HHW.out.below hV))
  have C9 := Lib.hid (fun V (hV : Below W.heap.size W V) (hl : ∀ x ∈ l, x.1.sp.length ≤ 100000) => rtFind_any (.slice a n c) l id V (HHW.out.below hV) hl)
  have C10 := Lib.hid (fun V (hV : Below W.heap.size W V) => rrtFind_any (.slice a n c) l id V (HHW.out.below hV).1)
  have C11 := Lib.hid (fun (x : AcX) V (h : AcV V x) => rtClass_any x n0 V h)
  have C12 := Lib.hid (fun (x : AcX) V (h : AcV V x) => rrtClass_any x n0 V h)
  have HPC := Lib.hid (fun k (h : k + 1 ≤ l.length) => Gs.piece (P := Try.prog) layA elA HHW.out.1 k (k + 1) (by omega) h)
  obtain ⟨Rg, hRg⟩ : ∃ R, aright (accD l) = R := ⟨_, rfl⟩
  obtain ⟨eL, heL⟩ : ∃ R, entL (accD l) id n1 = R := ⟨_, rfl⟩
  obtain ⟨eE, heE⟩ : ∃ R, entE (accD l) id n1 = R := ⟨_, rfl⟩
  obtain ⟨sL, hsL⟩ : ∃ R, setL (accD l) id n0 n1 = R := ⟨_, rfl⟩
  obtain ⟨sE, hsE⟩ : ∃ R, setR (accD l) id n0 n1 = R := ⟨_, rfl⟩
  obtain ⟨bL, hbL⟩ : ∃ R, blockL (accD l) id n2 = R := ⟨_, rfl⟩
  obtain ⟨bE, hbE⟩ : ∃ R, blockE (accD l) id n2 = R := ⟨_, rfl⟩
  rw [heL, heE] at C1 C2
  rw [hsL, hsE] at C3 C4
  rw [hbL, hbE] at C5 C6
  rw [hRg] at C7 C8
  unfold RosPost at C1 C2 C3 C4 C5 C6
  unfold FindPost at C9
  unfold FewPost at CF
  have HQ := Lib.hid hq
  obtain ⟨z0, z1, z2⟩ := HQX.out W (Below.refl _ _)
  have h2' : n ≤ 9223372036854775807 := by omega
  clear h hn hr0 hb0 hHW hix hlt' hcell hRg heL heE hsL hsE hbL hbE hid hn0 hn1 hn2
  go_enter Try.func7, Try.ntmps7
  go_wp2_with fail
  refine CA.out.mono ?_
  rintro e w1 ⟨rfl, hb1⟩
  have HB1 := Lib.hid hb1
  clear hb1 CA z0 z1 z2
  go_wp2_with fail
  refine (CF.out w1 HB1.out).mono ?_
  rintro e w2 ⟨fb, rfl, hfb, hb2⟩
  have HB2 := Lib.hid (HB1.out.trans (hb2.mono HB1.out.size))
  have HFB := Lib.hid hfb
  clear hb2 CF hfb
  cases fb with
  | false =>
    have HBF : Hid (Below w.heap.size w w2) := HB0.out.trans (HB2.out.mono HB0.out.size)
    go_wp2
    go_ret
    exact ⟨rfl, HBF.out⟩
  | true =>
  have hfew := HFB.out.1 rfl
  have HS60 : Hid (∀ x ∈ l, x.1.sp.length ≤ 100000) := fun x hx => by have := hfew.1 x hx; omega
  have HL30 : Hid (l.length ≤ 100000) := by show _ ≤ _; have := hfew.2; omega
  have HN30 : Hid (n ≤ 30) := by show _ ≤ _; rw [← HN.out]; exact hfew.2
  clear hfew HFB
  obtain ⟨z0, z1, z2⟩ := HQX.out w2 HB2.out
  go_wp2_with fail
  refine (C1.out w2 HB2.out).mono ?_
  rintro e w3 ⟨u1, M1, rfl, hM1, hD1, hb3⟩
  have HB3 := Lib.hid (HB2.out.trans (hb3.mono HB2.out.size))
  have HM1 := Lib.hid hM1
  have HD1 := Lib.hid hD1
  clear hb3 hM1 hD1 z0 z1 z2 C1
  obtain ⟨z0, z1, z2⟩ := HQX.out w3 HB3.out
  go_wp2_with fail
  refine (C2.out w3 HB3.out).mono ?_
  rintro e w4 ⟨u2, M2, rfl, hM2, hD2, hb4⟩
  have HB34 := Lib.hid hb4
  have HB4 := Lib.hid (HB3.out.trans (hb4.mono HB3.out.size))
  have HM2 := Lib.hid hM2
  have HD2 := Lib.hid hD2
  clear hb4 hM2 hD2 z0 z1 z2 C2
  obtain ⟨z0, z1, z2⟩ := HQX.out w4 HB4.out
  go_wp2_with fail
  refine (C3.out w4 HB4.out HS60.out).mono ?_
  rintro e w5 ⟨u3, M3, rfl, hM3, hD3, hb5⟩
  have HB45 := Lib.hid hb5
  have HB5 := Lib.hid (HB4.out.trans (hb5.mono HB4.out.size))
  have HM3 := Lib.hid hM3
  have HD3 := Lib.hid hD3
  clear hb5 hM3 hD3 z0 z1 z2 C3
  obtain ⟨z0, z1, z2⟩ := HQX.out w5 HB5.out
  go_wp2_with fail
  refine (C4.out w5 HB5.out HL30.out).mono ?_
  rintro e w6 ⟨u4, M4, rfl, hM4, hD4, hb6⟩
  have HB56 := Lib.hid hb6
  have HB6 := Lib.hid (HB5.out.trans (hb6.mono HB5.out.size))
  have HM4 := Lib.hid hM4
  have HD4 := Lib.hid hD4
  clear hb6 hM4 hD4 z0 z1 z2 C4
  obtain ⟨z0, z1, z2⟩ := HQX.out w6 HB6.out
  go_wp2_with fail
  refine (C5.out w6 HB6.out HS60.out).mono ?_
  rintro e w7 ⟨u5, M5, rfl, hM5, hD5, hb7⟩
  have HB67 := Lib.hid hb7
  have HB7 := Lib.hid (HB6.out.trans (hb7.mono HB6.out.size))
  have HM5 := Lib.hid hM5
  have HD5 := Lib.hid hD5
  clear hb7 hM5 hD5 z0 z1 z2 C5
  obtain ⟨z0, z1, z2⟩ := HQX.out w7 HB7.out
  go_wp2_with fail
  refine (C6.out w7 HB7.out HL30.out).mono ?_
  rintro e w8 ⟨u6, M6, rfl, hM6, hD6, hb8⟩
  have HB78 := Lib.hid hb8
  have HB8 := Lib.hid (HB7.out.trans (hb8.mono HB7.out.size))
  have HM6 := Lib.hid hM6
  have HD6 := Lib.hid hD6
  clear hb8 hM6 hD6 z0 z1 z2 C6
  have TR : Hid (∀ {V1 V2 V3 : World}, Below V1.heap.size V1 V2 → Below V2.heap.size V2 V3 → Below V1.heap.size V1 V3) := fun h1 h2 => h1.trans (h2.mono h1.size)
  have HK1 : Hid (∀ V, Below w8.heap.size w8 V → Calls Try.prog 26 #[u1, u2] V fun e w' => e = .returned (.bool true) ∧ Below V.heap.size V w') := fun V hV => by
    have b4 := TR.out HB45.out (TR.out HB56.out (TR.out HB67.out (TR.out HB78.out hV)))
    exact rrtSame_yes u1 u2 M1 M2 V (HM1.out.below (TR.out HB34.out b4)) (HM2.out.below b4) (HD1.out.trans HD2.out.symm)
  have HK2 : Hid (∀ V, Below w8.heap.size w8 V → Calls Try.prog 26 #[u3, u4] V fun e w' => e = .returned (.bool true) ∧ Below V.heap.size V w') := fun V hV => by
    have b6 := TR.out HB67.out (TR.out HB78.out hV)
    exact rrtSame_yes u3 u4 M3 M4 V (HM3.out.below (TR.out HB56.out b6)) (HM4.out.below b6) (HD3.out.trans HD4.out.symm)
  have HK3 : Hid (∀ V, Below w8.heap.size w8 V → Calls Try.prog 26 #[u5, u6] V fun e w' => e = .returned (.bool true) ∧ Below V.heap.size V w') := fun V hV => by
    exact rrtSame_yes u5 u6 M5 M6 V (HM5.out.below (TR.out HB78.out hV)) (HM6.out.below hV) (HD5.out.trans HD6.out.symm)
  have HKW : Hid (∀ V, Below w8.heap.size w8 V → Below W.heap.size W V) := fun V hV => TR.out HB8.out hV
  go_wp2_with fail
  refine (C7.out w8 HB8.out).mono ?_
  rintro e w9 ⟨rfl, hb9⟩
  have HB9 := Lib.hid hb9
  clear hb9 C7
  go_wp2_with fail
  refine (C8.out w9 (HKW.out _ HB9.out)).mono ?_
  rintro e w10 ⟨rfl, hb10⟩
  have HB10 := Lib.hid (TR.out HB9.out hb10)
  clear hb10 C8
  have eRR : (Rg != Rg) = false := by cases Rg <;> rfl
  have eEE : ∀ z : Int, (z != z) = false := fun z => by simp
  go_wp2_with fail
  refine (HK1.out w10 HB10.out).mono ?_
  rintro e w11 ⟨rfl, hb11⟩
  have HB11 := Lib.hid (TR.out HB10.out hb11)
  clear hb11 HK1
  go_wp2_with fail
  refine (HK2.out w11 HB11.out).mono ?_
  rintro e w12 ⟨rfl, hb12⟩
  have HB12 := Lib.hid (TR.out HB11.out hb12)
  clear hb12 HK2
  go_wp2_with fail
  refine (HK3.out w12 HB12.out).mono ?_
  rintro e w13 ⟨rfl, hb13⟩
  have HB13 := Lib.hid (HKW.out _ (TR.out HB12.out hb13))
  clear hb13 HK3 HM1 HM2 HM3 HM4 HM5 HM6 HD1 HD2 HD3 HD4 HD5 HD6 HB34 HB45 HB56 HB67 HB78 HKW
  go_wp2_with fail
  refine (C9.out w13 HB13.out HS60.out).mono ?_
  rintro e w14 ⟨r, y, ok, hr, rfl, hb14, hno, hyes⟩
  have HB14 := Lib.hid (TR.out HB13.out hb14)
  have HR := Lib.hid hr
  clear hb14 C9 hr
  have HB15 : Hid (Below W.heap.size W (w14.alloc (.cells #[.int .i64 y.1.id, .int .i64 y.1.bl, Sl3.v y.2] 43))) := bw_al HB14.out _
  have hr15 : (w14.alloc (.cells #[.int .i64 y.1.id, .int .i64 y.1.bl, Sl3.v y.2] 43)).heap[w14.heap.size]? = some (.cells #[.int .i64 y.1.id, .int .i64 y.1.bl, Sl3.v y.2] 43 (0, 0)) := heap_alloc_new _ _
  have hal15 : Below w14.heap.size w14 (w14.alloc (.cells #[.int .i64 y.1.id, .int .i64 y.1.bl, Sl3.v y.2] 43)) := bw_al (Below.refl _ _) _
  have HNO := Lib.hid hno
  have HYES := Lib.hid hyes
  clear hno hyes
  obtain ⟨⟨yid, ybl, ysp⟩, ⟨ya, yn, yc⟩⟩ := y
  unfold AcX.agg
  unfold Sl3.v at HB15 hr15 hal15 ⊢
  simp only at HB15 hr15 hal15 ⊢
  obtain ⟨p, hp⟩ : ∃ p, w14.heap.size = p := ⟨_, rfl⟩
  obtain ⟨V1, hV1⟩ : ∃ V, w14.alloc (.cells #[.int .i64 yid, .int .i64 ybl, .slice ya yn yc] 43) = V := ⟨_, rfl⟩
  rw [hV1] at HB15 hr15 hal15
  rw [hp] at hr15
  have HYC : Hid (∀ V : World, Below V1.heap.size V1 V → V.cell? ⟨p, 0, none⟩ = some (.int .i64 yid) ∧ V.cell? ⟨p, 1, none⟩ = some (.int .i64 ybl) ∧ V.cell? ⟨p, 2, none⟩ = some (.slice ya yn yc)) := fun V hV => acct_cells ((hV.block p (heap_lt hr15)).trans hr15)
  obtain ⟨y0, y1, y2⟩ := acct_cells hr15
  have HAL15 := Lib.hid hal15
  clear hr15 hal15
  go_wp2_with fail
  refine (C10.out V1 HB15.out).mono ?_
  rintro e w16 ⟨r', hr', rfl, rfl⟩
  obtain rfl := HR.out.uniq hr'
  clear hr' C10
  have HLOOP : Hid (∀ V : World, Below W.heap.size W V → True) := fun _ _ => trivial
  go_upto_region 15 with fail
  go_cut [149] (fun c wx => c = .bool false ∧ Hid (Below W.heap.size W wx))
  case first =>
    cases ok with
    | false =>
      obtain ⟨rfl, -⟩ := HNO.out rfl
      rw [show aiV none = (-1 : Int) from rfl]
      have HBQ : Hid (∀ nq, Below W.heap.size W (V1.drewN nq)) := fun nq => below_drewN HB15.out nq
      go_quiet (fail)
      have hbq := HBQ.out nq
      go_wp2
      go_meet
      case rel => exact ⟨rfl, hbq⟩
    | true =>
      obtain ⟨k, x, rfl, hx, hyx, hyv⟩ := HYES.out rfl
      have hkn : k + 1 ≤ l.length := (List.getElem?_eq_some_iff.1 hx).1
      obtain ⟨Y, hY, hYg⟩ := HPC.out k hkn
      rw [show (aiV (some k)) = (k : Int) from rfl]
      rw [show ((k + 1 : Nat) : Int) = (k : Int) + 1 by omega] at hY
      have hw1 : IntKind.i64.wrap ((k : Int) + 1) = (k : Int) + 1 := by rw [IntKind.wrap_i64]; have := HN30.out; have := HN.out; omega
      have hk0 : 0 ≤ (k : Int) := by omega
      have hpc : (l.drop k).take (k + 1 - k) = [x] := by
        rw [show k + 1 - k = 1 by omega]
        have := List.drop_eq_getElem_cons (l := l) (i := k) (by omega)
        rw [this]
        simp only [List.take_succ_cons, List.take_zero]
        rw [List.getElem?_eq_getElem (by omega)] at hx
        rw [Option.some.inj hx]
      rw [hpc] at hYg
      have hbb : Below V1.heap.size V1 ((V1.alloc (.cells #[.int .i64 yid, .int .i64 ybl, .slice ya yn yc] 43)).drew) := by show Below _ _ _; exact bw_dr (bw_al (Below.refl _ _) _)
      have hbw := TR.out HB15.out hbb
      have CS := rrtSame_yes (.slice (some ⟨V1.heap.size, 0, none⟩) 1 1) Y [(⟨yid, ybl, ysp⟩, (ya, yn, yc))] [x] ((V1.alloc (.cells #[.int .i64 yid, .int .i64 ybl, .slice ya yn yc] 43)).drew)
        ⟨(lit_acct V1 (⟨yid, ybl, ysp⟩, (ya, yn, yc))).below (bw_dr (Below.refl _ _)), fun z hz => (List.mem_singleton.1 hz) ▸ (hyv.below (TR.out HAL15.out hbb))⟩
        ⟨hYg.below hbw, fun z hz => (List.mem_singleton.1 hz) ▸ (HHW.out.2 x (List.mem_of_getElem? hx)).below hbw⟩
        (by simp only [accD, List.map_cons, List.map_nil, hyx])
      have CSS := Lib.hid CS
      have HBW := Lib.hid hbw
      have HBV := Lib.hid hbb
      obtain ⟨Ya, Yn, Yc, rfl⟩ : ∃ a n c, Y = .slice a n c := by obtain ⟨a, c, h⟩ := hYg.shape; exact ⟨a, _, c, h⟩
      clear hx hyx hyv hkn hpc hYg CS hbb hbw hk0
      have hk0 : decide ((0 : Int) ≤ (k : Int)) = true := decide_eq_true (by omega)
      have KS : Hid (∀ V : World, Below V1.heap.size V1 V → V.cell? ⟨p, 0, none⟩ = some (.int .i64 yid) ∧ V.cell? ⟨p, 1, none⟩ = some (.int .i64 ybl) ∧ V.cell? ⟨p, 2, none⟩ = some (.slice ya yn yc)) := fun V hV => HYC.out V hV
      have KA : Hid (∀ ob, Below V1.heap.size V1 ((V1.drew).alloc ob)) := fun ob => bw_al (bw_dr (Below.refl _ _)) ob
      go_region_held3 (fun W => W.cell? ⟨p, 0, none⟩ = some (.int .i64 yid) ∧ W.cell? ⟨p, 1, none⟩ = some (.int .i64 ybl) ∧ W.cell? ⟨p, 2, none⟩ = some (.slice ya yn yc)) (first
        | (with_reducible exact KS.out _ b17)
        | (with_reducible exact KS.out _ (bw_dr (Below.refl _ _)))
        | (with_reducible exact KS.out _ (bw_al (bw_dr (Below.refl _ _)) _))
        | (with_reducible exact KS.out _ (bw_dr (bw_al (Below.refl _ _) _)))) ((go_at_call 26; (with_reducible refine CSS.out.mono ?_); rintro e w17 ⟨rfl, hb17⟩; have b17 : Below V1.heap.size V1 w17 := HBV.out.trans (hb17.mono HBV.out.size); have HB17 := Lib.hid (TR.out HBW.out hb17); clear hb17))
      all_goals
        go_simp
        go_wp2
        go_meet
        case rel => exact ⟨rfl, HB17⟩
  case rest =>
  clear HYC y0 y1 y2 HNO HYES HPC HLOOP
  obtain ⟨rfl, HBC⟩ := hcut
  obtain ⟨W2, rfl⟩ : ∃ W, W = wc := ⟨_, rfl⟩
  go_wp2_with fail
  go_loopg [152] n (fun qq vi wr => ∃ k : Nat, qq = n - k ∧ k ≤ n ∧ vi = .int .i64 k ∧ Hid (Below W.heap.size W wr))
  case atStart => exact ⟨0, by omega, by omega, rfl, HBC⟩
  case round =>
    obtain ⟨k, rfl, hk, rfl, HBR⟩ := hrel
    by_cases hlt : k < n
    · have e2 : (k : Int) < n := by omega
      obtain ⟨x, hx⟩ : ∃ s, l[k]? = some s := ⟨_, List.getElem?_eq_getElem (by have := HN.out; omega)⟩
      have m0 := HC.out k x hx 0 _ rfl
      have m1 := HC.out k x hx 1 _ rfl
      have m2 := HC.out k x hx 2 _ rfl
      rw [Nat.add_zero] at m0
      have hbl := HLT.out k hlt
      rw [← HBR.out.cell (by exact hbl)] at m0 m1 m2
      have hixk := fun W => HIX.out W k hlt
      have hxv := HHW.out.2 x (List.mem_of_getElem? hx)
      obtain ⟨⟨xid, xbl, xsp⟩, ⟨xa, xn, xc⟩⟩ := x
      unfold Sl3.v at m2
      simp only at m0 m1 m2
      have HX1 := Lib.hid (fun V (hV : Below W.heap.size W V) => C11.out _ V (hxv.below hV))
      have HX2 := Lib.hid (fun V (hV : Below W.heap.size W V) => C12.out _ V (hxv.below hV))
      obtain ⟨cV, hcV⟩ : ∃ z, classV ⟨xid, xbl, xsp⟩ n0 = z := ⟨_, rfl⟩
      obtain ⟨cE, hcE⟩ : ∃ z, classE ⟨xid, xbl, xsp⟩ n0 = z := ⟨_, rfl⟩
      unfold AcX.agg at HX1 HX2
      unfold Sl3.v at HX1 HX2
      simp only at HX1 HX2
      rw [hcV, hcE] at HX1 HX2
      have hal : Below wr.heap.size wr (wr.alloc (.cells #[.int .i64 xid, .int .i64 xbl, .slice xa xn xc] 43)) := bw_al (Below.refl _ _) _
      have hr4 : (wr.alloc (.cells #[.int .i64 xid, .int .i64 xbl, .slice xa xn xc] 43)).heap[wr.heap.size]? = some (.cells #[.int .i64 xid, .int .i64 xbl, .slice xa xn xc] 43 (0, 0)) := heap_alloc_new _ _
      obtain ⟨p2, hp2⟩ : ∃ p, wr.heap.size = p := ⟨_, rfl⟩
      obtain ⟨V4, hV4⟩ : ∃ V, wr.alloc (.cells #[.int .i64 xid, .int .i64 xbl, .slice xa xn xc] 43) = V := ⟨_, rfl⟩
      rw [hV4] at hal hr4
      rw [hp2] at hr4
      have HB4' := Lib.hid (TR.out HBR.out hal)
      have HXC := Lib.hid (fun (V : World) (hV : Below V4.heap.size V4 V) => acct_cells ((hV.block p2 (heap_lt hr4)).trans hr4))
      obtain ⟨y0, y1, y2⟩ := acct_cells hr4
      obtain ⟨z0, z1, z2⟩ := HQX.out V4 HB4'.out
      have HLTK := Lib.hid hlt
      clear hx hbl hxv hcV hcE hal hr4 hlt
      go_wp2_with fail
      refine (HX1.out V4 HB4'.out).mono ?_
      rintro e w21 ⟨rfl, hb21⟩
      have HB21 := Lib.hid (TR.out HB4'.out hb21)
      clear y0 y1 y2 z0 z1 z2
      obtain ⟨y0, y1, y2⟩ := HXC.out w21 hb21
      obtain ⟨z0, z1, z2⟩ := HQX.out w21 HB21.out
      clear hb21 HX1
      go_wp2_with fail
      refine (HX2.out w21 HB21.out).mono ?_
      rintro e w22 ⟨rfl, hb22⟩
      have HB22 := Lib.hid (TR.out HB21.out hb22)
      clear y0 y1 y2 z0 z1 z2 m0 m1 m2 hb22 HX2 HXC
      go_wp2
      go_roundg (n - (k + 1))
      case rel => exact ⟨k + 1, rfl, by have := HLTK.out; omega, by go_num, HB22⟩
      case measure => have := HLTK.out; omega
    · obtain rfl : k = n := by omega
      have e2 : ¬ (k : Int) < k := by omega
      have HBF : Hid (Below w.heap.size w wr) := HB0.out.trans (HBR.out.mono HB0.out.size)
      go_wp2
      go_ret
      exact ⟨rfl, by rw [← HQ.out]; exact HBF.out⟩
end Go.Proofs.Ytjnbdeopoohnmaa
