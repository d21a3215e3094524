/- Layer 48 (device): DeviceRecords: samples that are recorded, and left out. -/
import Derived.Test.YtjnbdeopoohnmaaDoorDv5
import Derived.Test.YtjnbdeopoohnmaaDoorDv7
import Derived.Deep.RegionLaw
import Derived.Deep.RegionHeld3
import Derived.Deep.DeepCutAuto
import Derived.Deep.CutBlock
import Derived.Lib.QuietBelow
import Derived.Lib.SliceRun
set_option linter.unusedSimpArgs false
set_option linter.unusedVariables false
namespace Go.Proofs.YtjnbdeopoohnmaaDoor
open Go.RowKit Go.Sort

theorem gdrop {ops : Array Oper} {i : Nat} {o : Oper} {r : List Oper} (h : ops.toList.drop i = o :: r) : ops[i]? = some o := by
  rw [← Array.getElem?_toList, ← Nat.add_zero i, ← List.getElem?_drop, h]
  rfl

/-- the law's way to thin: the last time that was kept -/
theorem tpush_last {gap : Int} {acc : List Smp} {s : Smp} {last : Int} (h : acc = [] ∨ ∃ p, acc.getLast? = some p ∧ p.t = last) : tpush gap acc s = if acc = [] ∨ gap ≤ s.t - last then acc ++ [s] else acc := by
  unfold tpush
  rcases h with rfl | ⟨p, hp, hl⟩
  · simp
  · rw [hp]
    have hne : acc ≠ [] := by rintro rfl; simp at hp
    simp only [hne, false_or, hl]

set_option maxRecDepth 100000 in
set_option maxHeartbeats 6400000 in
theorem devicerecords_walk (vt vk vs : Value) (d : DvD) (s : Smp) (gap : Int) (w : World) (h : Dv w vt vk vs d) (hT : Tabbed w) :
    Calls Tryd.prog 3 #[.agg #[vt, vk, vs], .agg #[.int .i64 s.t, .int .i64 s.x, .int .i64 s.y], .int .i64 gap] w fun e w' => e = .returned (.bool true) ∧ Below w.heap.size w w' := by
  obtain ⟨q, hq⟩ : ∃ q, w.heap.size = q := ⟨_, rfl⟩
  obtain ⟨hb0, hrA, hrB⟩ := al2 w (.cells #[vt, vk, vs] 25) (.cells #[.int .i64 s.t, .int .i64 s.x, .int .i64 s.y] 27)
  obtain ⟨W, hW⟩ : ∃ W, (w.alloc (.cells #[vt, vk, vs] 25)).alloc (.cells #[.int .i64 s.t, .int .i64 s.x, .int .i64 s.y] 27) = W := ⟨_, rfl⟩
  rw [hW] at hb0 hrA hrB
  rw [hq] at hrA hrB
  have TR : Hid (∀ {V1 V2 V3 : World}, Below V1.heap.size V1 V2 → Below V2.heap.size V2 V3 → Below V1.heap.size V1 V3) := fun h1 h2 => h1.trans (h2.mono h1.size)
  have HB0 := Lib.hid hb0
  have HH : Hid (∀ V : World, Below W.heap.size W V → Dv V vt vk vs d) := fun V hV => h.below (TR.out hb0 hV)
  have HQA := Lib.hid (fun (V : World) (hV : Below W.heap.size W V) => three_at ((hV.block q (heap_lt hrA)).trans hrA))
  have HQB := Lib.hid (fun (V : World) (hV : Below W.heap.size W V) => three_at ((hV.block (q + 1) (heap_lt hrB)).trans hrB))
  have CA := Lib.hid (dvawake_any W (hT.below hb0))
  have CF := Lib.hid (fun V (hV : Below W.heap.size W V) => dvfew_any vt vk vs d V (HH.out V hV))
  have CR1 := Lib.hid (fun V (hV : Below W.heap.size W V) (hl : d.tk.length ≤ 1048576) => dvright_any vt vk vs d V (HH.out V hV) hl)
  have CR2 := Lib.hid (fun V (hV : Below W.heap.size W V) (hl : d.tk.length ≤ 1048576) => dvlright_any vt vk vs d V (HH.out V hV) hl)
  have CRE := Lib.hid (fun V (hV : Below W.heap.size W V) (hl : d.tk.length ≤ 1048576) => dvrecord_any vt vk vs d s V (HH.out V hV) hl)
  have CTH := Lib.hid (fun V (hV : Below W.heap.size W V) (hl : d.tk.length ≤ 1048576) => dvthin_any vt vk vs d gap V (HH.out V hV) hl)
  have CM := Lib.hid (fun V => rmay_any s V)
  unfold RecPost at CRE
  unfold ThinPost at CTH
  obtain ⟨R, hR⟩ : ∃ R, pB (DRight d) = R := ⟨_, rfl⟩
  obtain ⟨mb, hmb⟩ : ∃ b, mayB s = b := ⟨_, rfl⟩
  obtain ⟨lt, hlt⟩ : ∃ b, slate d.sm s = b := ⟨_, rfl⟩
  rw [hmb] at CM
  rw [hR] at CR1 CR2
  have HRR := Lib.hid hR
  have HLT := Lib.hid hlt
  have HRE : Hid (recE d s = if R = false ∨ mb = false then 2 else if d.sm.length = 2048 then 3 else if lt = true then 22 else 0) := by show _ = _; rw [← hR, ← hmb, ← hlt]; rfl
  have HRD : Hid (recD d s = if recE d s = 0 then ⟨d.tk, d.ky, d.sm ++ [s]⟩ else dvz) := rfl
  have HTE : Hid (thE d gap = if R = false ∨ gap < 0 then 2 else 0) := by show _ = _; rw [← hR]; rfl
  have HTD : Hid (thD d gap = if thE d gap = 0 then ⟨d.tk, d.ky, sthin gap d.sm⟩ else dvz) := rfl
  obtain ⟨E, hE⟩ : ∃ E, recE d s = E := ⟨_, rfl⟩
  obtain ⟨D, hD⟩ : ∃ E, recD d s = E := ⟨_, rfl⟩
  obtain ⟨F, hF⟩ : ∃ E, thE d gap = E := ⟨_, rfl⟩
  obtain ⟨G, hG⟩ : ∃ E, thD d gap = E := ⟨_, rfl⟩
  rw [hE] at HRE CRE
  rw [hE, hD] at HRD
  rw [hD] at CRE
  rw [hF] at HTE CTH
  rw [hF, hG] at HTD
  rw [hG] at CTH
  obtain ⟨ta, tc, hts⟩ := h.tk.shape
  obtain ⟨ka, kc, hks⟩ := h.ky.shape
  obtain ⟨tn, htn⟩ : ∃ n, d.tk.length = n := ⟨_, rfl⟩
  obtain ⟨kn, hkn⟩ : ∃ n, d.ky.length = n := ⟨_, rfl⟩
  obtain ⟨sn, hsn⟩ : ∃ n, d.sm.length = n := ⟨_, rfl⟩
  obtain ⟨sa, sc, b1, o1, hss, -, -, hix, hlb, hcell⟩ := Ss.open_n elS h.sm sn hsn
  rw [htn] at hts
  rw [hkn] at hks
  rw [hsn] at HRE
  subst hts hks hss
  have HTN := Lib.hid htn
  have HKN := Lib.hid hkn
  have HSN := Lib.hid hsn
  have HIX := Lib.hid hix
  have HCE : Hid (∀ V : World, Below W.heap.size W V → ∀ i x, d.sm[i]? = some x → V.cell? ⟨b1, o1 i, none⟩ = some (.int .i64 x.t) ∧ V.cell? ⟨b1, o1 i + 1, none⟩ = some (.int .i64 x.x) ∧ V.cell? ⟨b1, o1 i + 2, none⟩ = some (.int .i64 x.y)) := fun V hV i x hi => by
    have hb := TR.out hb0 hV
    have hl := hlb i (by rw [← hsn]; exact (List.getElem?_eq_some_iff.1 hi).1)
    have := hcell i x hi
    rw [← hb.cell (by exact hl), ← hb.cell (by exact hl), ← hb.cell (by exact hl)] at this
    exact this
  have HQ := Lib.hid hq
  obtain ⟨x0, x1, x2⟩ := HQA.out W (Below.refl _ _)
  clear h hT hb0 hrA hrB hR hmb hlt hE hD hF hG htn hkn hsn hix hlb hcell
  go_enter Tryd.func3, Tryd.ntmps3
  go_wp2_with fail
  refine CA.out.mono ?_
  rintro e w1 ⟨rfl, hb1⟩
  have HB1 := Lib.hid hb1
  clear hb1 CA x0 x1 x2
  obtain ⟨x0, x1, x2⟩ := HQA.out w1 HB1.out
  obtain ⟨fw, hfw⟩ : ∃ b, pB (DFew d) = b := ⟨_, rfl⟩
  rw [hfw] at CF
  have HFW := Lib.hid hfw
  clear hfw
  go_wp2_with fail
  refine (CF.out w1 HB1.out).mono ?_
  rintro e w2 ⟨rfl, hb2⟩
  have HB2 := Lib.hid (TR.out HB1.out hb2)
  have HBF : Hid (Below w.heap.size w w2) := TR.out HB0.out HB2.out
  clear hb2 CF x0 x1 x2
  cases fw with
  | false =>
    go_wp2
    go_ret
    exact ⟨rfl, HBF.out⟩
  | true =>
  have hfew := pB_iff.1 HFW.out
  have HTK : Hid (d.tk.length ≤ 1048576) := by have := hfew.1; show _ ≤ _; omega
  have HS2 : Hid (sn ≤ 200) := by have := hfew.2.2; rw [HSN.out] at this; exact this
  have HRE2 : Hid (E = if R = false ∨ mb = false then 2 else if lt = true then 22 else 0) := by
    show _ = _
    rw [HRE.out, if_neg (c := sn = 2048) (by have := HS2.out; omega)]
  clear hfew HRE
  obtain ⟨x0, x1, x2⟩ := HQA.out w2 HB2.out
  -- Right of both sides
  go_upto_region 5 with fail
  go_cut [26] (fun c wx => c = .bool false ∧ Hid (Below W.heap.size W wx))
  case first =>
    have rx0 := fun d os => cell_regrown x0 d os
    have rx1 := fun d os => cell_regrown x1 d os
    have rx2 := fun d os => cell_regrown x2 d os
    have D1 := Lib.hid (fun V (hV : Below w2.heap.size w2 V) => CR1.out V (TR.out HB2.out hV) HTK.out)
    have D2 := Lib.hid (fun V (hV : Below w2.heap.size w2 V) => CR2.out V (TR.out HB2.out hV) HTK.out)
    have eRR : (R != R) = false := by cases R <;> rfl
    refine wp_region_quiet_below (by kernel_rfl) (by kernel_rfl) ?_
    repeat (go_big_quiet_step ((first | (go_at_call 6; with_reducible exact Calls.regrown_of (D1.out _ (below_regrown w2 _ _))) | (go_at_call 7; with_reducible exact Calls.regrown_of (D2.out _ (below_regrown w2 _ _))))))
    refine wpQuiet_nil ?_
    intro _ hw'
    obtain ⟨⟨dq, osq⟩, hw''⟩ := hw'
    subst hw''
    have HB3 := below_regrown w2 dq osq
    obtain ⟨w3, hwq⟩ : ∃ x, x = grow (redrawn w2 dq) osq := ⟨_, rfl⟩
    rw [← hwq] at HB3 ⊢
    clear hwq
    have hbq : Hid (Below W.heap.size W w3) := TR.out HB2.out HB3
    go_wp2
    go_meet
    case rel => exact ⟨rfl, hbq⟩
  case rest =>
  obtain ⟨rfl, HB3⟩ := hcut
  obtain ⟨w3, hw3⟩ : ∃ X, X = wc := ⟨_, rfl⟩
  subst hw3
  obtain ⟨x0, x1, x2⟩ := HQA.out w3 HB3.out
  obtain ⟨y0, y1, y2⟩ := HQB.out w3 HB3.out
  go_wp2_with fail
  refine (CRE.out w3 HB3.out HTK.out).mono ?_
  rintro e w4 ⟨at_, ak, as_, rfl, hd4, hb4⟩
  obtain ⟨aa, ac, has⟩ := hd4.tk.shape
  obtain ⟨ba, bc, hbs⟩ := hd4.ky.shape
  obtain ⟨ca, cc, hcs⟩ := hd4.sm.shape
  obtain ⟨an, han⟩ : ∃ n, D.tk.length = n := ⟨_, rfl⟩
  obtain ⟨bn, hbn⟩ : ∃ n, D.ky.length = n := ⟨_, rfl⟩
  obtain ⟨cn, hcn⟩ : ∃ n, D.sm.length = n := ⟨_, rfl⟩
  rw [han] at has
  rw [hbn] at hbs
  rw [hcn] at hcs
  subst has hbs hcs
  have hal : Below w4.heap.size w4 (w4.alloc (.cells #[.slice aa an ac, .slice ba bn bc, .slice ca cn cc] 25)) := (Below.refl _ _).alloc (Nat.le_refl _) _
  have hrow := heap_alloc_new w4 (.cells #[.slice aa an ac, .slice ba bn bc, .slice ca cn cc] 25)
  obtain ⟨V4, hV4⟩ : ∃ V, w4.alloc (.cells #[.slice aa an ac, .slice ba bn bc, .slice ca cn cc] 25) = V := ⟨_, rfl⟩
  obtain ⟨g7, hg7⟩ : ∃ g, w4.heap.size = g := ⟨_, rfl⟩
  rw [hV4] at hal hrow
  rw [hg7] at hrow
  have HB4 := Lib.hid (TR.out HB3.out (TR.out hb4 hal))
  have HA4 : Hid (∀ V : World, Below V4.heap.size V4 V → Dv V (.slice aa an ac) (.slice ba bn bc) (.slice ca cn cc) D) := fun V hV => hd4.below (TR.out hal hV)
  have HQ7 := Lib.hid (fun (V : World) (hV : Below V4.heap.size V4 V) => three_at ((hV.block g7 (heap_lt hrow)).trans hrow))
  have HV4 := Lib.hid hV4
  have HG7 := Lib.hid hg7
  clear hd4 hb4 han hbn hcn hal hrow hV4 hg7 x0 x1 x2 y0 y1 y2 CRE
  go_upto_region 8 with (with_reducible refine wpList_store_new rfl _ _ rfl rfl rfl (by kernel_rfl) (by simp) (by simp [Value.oneCell']) ?_)
  rw [HV4.out, HG7.out]
  obtain ⟨x0, x1, x2⟩ := HQA.out V4 HB4.out
  obtain ⟨y0, y1, y2⟩ := HQB.out V4 HB4.out
  -- what is wanted
  obtain ⟨cnd, hcnd⟩ : ∃ b, (!R || !mb) = b := ⟨_, rfl⟩
  have HCND := Lib.hid hcnd
  clear hcnd
  go_upto_region 10 with fail
  go_cut [43] (fun c wx => c = .bool cnd ∧ Hid (Below V4.heap.size V4 wx))
  case first =>
    have D2 := Lib.hid (CR2.out V4 HB4.out HTK.out)
    cases R with
    | false =>
      have hmv : Hid (Value.bool true = .bool cnd) := by show _ = _; rw [← HCND.out]; rfl
      go_wp2_with fail
      refine D2.out.mono ?_
      rintro e w5 ⟨rfl, hb5⟩
      have HB5 := Lib.hid hb5
      clear hb5
      go_wp2
      go_meet
      case rel => exact ⟨hmv.out, HB5⟩
    | true =>
      have hmv : Hid (Value.bool (!mb) = .bool cnd) := by show _ = _; rw [← HCND.out]; simp
      go_wp2_with fail
      refine D2.out.mono ?_
      rintro e w5 ⟨rfl, hb5⟩
      have HB5 := Lib.hid hb5
      obtain ⟨v0, v1, v2⟩ := HQB.out w5 (TR.out HB4.out hb5)
      clear hb5
      go_wp2_with fail
      refine (CM.out w5).mono ?_
      rintro e w6 ⟨rfl, hb6⟩
      have HB6 := Lib.hid (TR.out HB5.out hb6)
      clear hb6
      go_wp2
      go_meet
      case rel => exact ⟨hmv.out, HB6⟩
  case rest =>
  obtain ⟨rfl, HBC⟩ := hcut
  obtain ⟨w5, hw5⟩ : ∃ X, X = wc := ⟨_, rfl⟩
  subst hw5
  clear x0 x1 x2 y0 y1 y2
  go_upto_if 43 with fail
  go_cut [10] (fun c wx => c = .int .i64 E ∧ Hid (Below V4.heap.size V4 wx))
  case first =>
    cases cnd with
    | true =>
      have hmv : Hid (Value.int .i64 2 = .int .i64 E) := by
        show _ = _
        rw [HRE2.out, if_pos]
        have := HCND.out
        cases R <;> cases mb <;> simp at this ⊢
      go_wp2
      go_meet
      case rel => exact ⟨hmv.out, HBC⟩
    | false =>
      have hE2 : E = if lt = true then 22 else 0 := by
        rw [HRE2.out, if_neg]
        have := HCND.out
        cases R <;> cases mb <;> simp at this ⊢
      have HE2 := Lib.hid hE2
      clear hE2
      obtain ⟨x0, x1, x2⟩ := HQA.out w5 (TR.out HB4.out HBC.out)
      obtain ⟨y0, y1, y2⟩ := HQB.out w5 (TR.out HB4.out HBC.out)
      have HBQ : Hid (∀ nq, Below V4.heap.size V4 (w5.drewN nq)) := fun nq => below_drewN HBC.out nq
      by_cases hs0 : 0 < sn
      · have e2 : (0 : Int) < sn := by omega
        obtain ⟨pp, hpp⟩ : ∃ p, d.sm[sn - 1]? = some p := ⟨_, List.getElem?_eq_getElem (by rw [HSN.out]; omega)⟩
        have hlast : d.sm.getLast? = some pp := by rw [List.getLast?_eq_getElem?, HSN.out]; exact hpp
        have hlv : decide (s.t ≤ pp.t) = lt := by rw [← HLT.out]; unfold slate; rw [hlast]
        obtain ⟨d0, -, -⟩ := HCE.out w5 (TR.out HB4.out HBC.out) (sn - 1) pp hpp
        have hixp := fun W => HIX.out W ((sn : Int) - 1) (by omega) (by omega)
        rw [show ((sn : Int) - 1).toNat = sn - 1 by omega] at hixp
        have hsnb : sn ≤ 200 := HS2.out
        clear hpp hlast
        cases lt with
        | true =>
          have e3 : s.t ≤ pp.t := of_decide_eq_true hlv
          have hmv : Hid (Value.int .i64 22 = .int .i64 E) := by show _ = _; rw [HE2.out]; rfl
          clear hlv
          go_wp2_with fail
          go_quiet (fail)
          have hbq := HBQ.out nq
          go_wp2
          go_meet
          case rel => exact ⟨hmv.out, hbq⟩
        | false =>
          have e3 : ¬ s.t ≤ pp.t := of_decide_eq_false hlv
          have hmv : Hid (Value.int .i64 0 = .int .i64 E) := by show _ = _; rw [HE2.out]; rfl
          clear hlv
          go_wp2_with fail
          go_quiet (fail)
          have hbq := HBQ.out nq
          go_wp2
          go_meet
          case rel => exact ⟨hmv.out, hbq⟩
      · have e2 : ¬ (0 : Int) < sn := by omega
        have hl0 : d.sm = [] := List.eq_nil_of_length_eq_zero (by rw [HSN.out]; omega)
        have hlv : lt = false := by rw [← HLT.out, hl0]; rfl
        subst hlv
        have hmv : Hid (Value.int .i64 0 = .int .i64 E) := by show _ = _; rw [HE2.out]; rfl
        clear hl0
        go_wp2_with fail
        go_quiet (fail)
        have hbq := HBQ.out nq
        go_wp2
        go_meet
        case rel => exact ⟨hmv.out, hbq⟩
  case rest =>
  obtain ⟨rfl, HBC2⟩ := hcut
  obtain ⟨W5, hW5⟩ : ∃ X, X = wc := ⟨_, rfl⟩
  subst hW5
  have HB5 := Lib.hid (TR.out HB4.out HBC2.out)
  go_upto_region 14 with fail
  go_cut [91] (fun c wx => c = .bool false ∧ Hid (Below W5.heap.size W5 wx))
  case first =>
    have HS : Hid (∀ V : World, Below W5.heap.size W5 V → Below W5.heap.size W5 V ∧ (V.cell? ⟨q, 0, none⟩ = some (.slice ta tn tc) ∧ V.cell? ⟨q, 1, none⟩ = some (.slice ka kn kc) ∧ V.cell? ⟨q, 2, none⟩ = some (.slice sa sn sc)) ∧ (V.cell? ⟨q + 1, 0, none⟩ = some (.int .i64 s.t) ∧ V.cell? ⟨q + 1, 1, none⟩ = some (.int .i64 s.x) ∧ V.cell? ⟨q + 1, 2, none⟩ = some (.int .i64 s.y)) ∧ V.cell? ⟨g7, 0, none⟩ = some (.slice aa an ac) ∧ V.cell? ⟨g7, 1, none⟩ = some (.slice ba bn bc) ∧ V.cell? ⟨g7, 2, none⟩ = some (.slice ca cn cc)) := fun V hV =>
      ⟨hV, HQA.out V (TR.out HB5.out hV), HQB.out V (TR.out HB5.out hV), HQ7.out V (TR.out HBC2.out hV)⟩
    by_cases hE0 : E = 0
    · have hDD : D = ⟨d.tk, d.ky, d.sm ++ [s]⟩ := by rw [HRD.out, if_pos hE0]
      have CSY : Hid (∀ V y, Below W5.heap.size W5 V → Gs 3 Smp.cells V y (d.sm ++ [s]) → Calls Tryd.prog 10 #[.agg #[.slice aa an ac, .slice ba bn bc, .slice ca cn cc], .agg #[.slice ta tn tc, .slice ka kn kc, y]] V fun e w' => e = .returned (.bool true) ∧ Below V.heap.size V w') := fun V y hV hy => by
        refine dvsame_yes _ _ _ _ _ _ D V (HA4.out V (TR.out HBC2.out hV)) ?_
        rw [hDD]
        have := HH.out V (TR.out HB5.out hV)
        exact ⟨this.tk, this.ky, hy⟩
      have HSM : Hid (∀ V : World, Below W5.heap.size W5 V → Gs 3 Smp.cells V (.slice sa sn sc) d.sm) := fun V hV => (HH.out V (TR.out HB5.out hV)).sm
      have B1 : Hid (Below W5.heap.size W5 ((W5.alloc (.cells #[] 27)).drew)) := by show Below _ _ _; exact bel_dr (bel_al (Below.refl _ _) _)
      have B4 : Hid (Below W5.heap.size W5 ((W5.alloc (.cells #[.int .i64 s.t, .int .i64 s.x, .int .i64 s.y] 27)).drew)) := by show Below _ _ _; exact bel_dr (bel_al (Below.refl _ _) _)
      have B2 : Hid (Below W5.heap.size W5 (((W5.alloc (.cells #[] 27)).alloc (.cells #[.int .i64 s.t, .int .i64 s.x, .int .i64 s.y] 27)).drew)) := by show Below _ _ _; exact bel_dr (bel_al (bel_al (Below.refl _ _) _) _)
      have B3 : Hid (Below W5.heap.size W5 (((W5.alloc (.cells #[.int .i64 s.t, .int .i64 s.x, .int .i64 s.y] 27)).alloc (.cells #[] 27)).drew)) := by show Below _ _ _; exact bel_dr (bel_al (bel_al (Below.refl _ _) _) _)
      have R1 := Lib.hid (HSM.out _ B1.out)
      have R2 := Lib.hid (HSM.out _ B2.out)
      have R3 := Lib.hid (HSM.out _ B3.out)
      have G1 : Hid (Gw 3 Smp.cells ((W5.alloc (.cells #[] 27)).drew) W5.heap.size 27 (.slice (some ⟨W5.heap.size, 0, none⟩) 0 0) ([] : List Smp)) := (gw_madeM W5).below (bel_dr (Below.refl _ _))
      have G2 : Hid (Gw 3 Smp.cells (((W5.alloc (.cells #[] 27)).alloc (.cells #[.int .i64 s.t, .int .i64 s.x, .int .i64 s.y] 27)).drew) W5.heap.size 27 (.slice (some ⟨W5.heap.size, 0, none⟩) 0 0) ([] : List Smp)) := (gw_madeM W5).below (bel_dr (bel_al (Below.refl _ _) _))
      have G3 : Hid (Gw 3 Smp.cells (((W5.alloc (.cells #[.int .i64 s.t, .int .i64 s.x, .int .i64 s.y] 27)).alloc (.cells #[] 27)).drew) W5.heap.size 27 (.slice (some ⟨W5.heap.size + 1, 0, none⟩) 0 0) ([] : List Smp)) := by
        have := ((gw_madeM (W5.alloc (.cells #[.int .i64 s.t, .int .i64 s.x, .int .i64 s.y] 27))).below (bel_dr (Below.refl _ _))).mono (B' := W5.heap.size) (by simp)
        rw [show (W5.alloc (.cells #[.int .i64 s.t, .int .i64 s.x, .int .i64 s.y] 27)).heap.size = W5.heap.size + 1 by simp] at this
        exact this
      have L2 : Hid (Gs 3 Smp.cells (((W5.alloc (.cells #[] 27)).alloc (.cells #[.int .i64 s.t, .int .i64 s.x, .int .i64 s.y] 27)).drew) (.slice (some ⟨W5.heap.size + 1, 0, none⟩) 1 1) [s]) := by
        have := (lit_smp (W5.alloc (.cells #[] 27)) s).below (bel_dr (Below.refl _ _))
        rw [show (W5.alloc (.cells #[] 27)).heap.size = W5.heap.size + 1 by simp] at this
        exact this
      have L3 : Hid (Gs 3 Smp.cells (((W5.alloc (.cells #[.int .i64 s.t, .int .i64 s.x, .int .i64 s.y] 27)).alloc (.cells #[] 27)).drew) (.slice (some ⟨W5.heap.size, 0, none⟩) 1 1) [s]) := (lit_smp W5 s).below (bel_dr (bel_al (Below.refl _ _) _))
      have hsn2 : sn ≤ 200 := HS2.out
      have e5 : (E != E) = false := by simp
      subst hE0
      clear hDD e5
      refine wp_region_held_drew (S := (fun V => Below W5.heap.size W5 V ∧ (V.cell? ⟨q, 0, none⟩ = some (.slice ta tn tc) ∧ V.cell? ⟨q, 1, none⟩ = some (.slice ka kn kc) ∧ V.cell? ⟨q, 2, none⟩ = some (.slice sa sn sc)) ∧ (V.cell? ⟨q + 1, 0, none⟩ = some (.int .i64 s.t) ∧ V.cell? ⟨q + 1, 1, none⟩ = some (.int .i64 s.x) ∧ V.cell? ⟨q + 1, 2, none⟩ = some (.int .i64 s.y)) ∧ V.cell? ⟨g7, 0, none⟩ = some (.slice aa an ac) ∧ V.cell? ⟨g7, 1, none⟩ = some (.slice ba bn bc) ∧ V.cell? ⟨g7, 2, none⟩ = some (.slice ca cn cc))) (by kernel_rfl) (HS.out _ (bel_dr (Below.refl _ _))) (fun hHeld => ?_)
      refine wpAnyH_take (i := 0) (v := ?_) (gdrop rfl) (by kernel_rfl) (by kernel_rfl) (by kernel_rfl) (fun _ _ _ h => h) (Or.inl ⟨by rfl, ?_⟩) (by assumption) ?_
      rotate_left 1
      focus (intro w hSw; (try dsimp only at hSw); go_simp; try (with_reducible rfl))
      try simp only [Act.put, List.setIfInBounds_toArray, List.set_cons_zero, List.set_cons_succ]
      refine wpAnyH_take (i := 1) (v := ?_) (gdrop rfl) (by kernel_rfl) (by kernel_rfl) (by kernel_rfl) (fun _ _ _ h => h) (Or.inl ⟨by rfl, ?_⟩) (by assumption) ?_
      rotate_left 1
      focus (intro w hSw; (try dsimp only at hSw); go_simp; try (with_reducible rfl))
      try simp only [Act.put, List.setIfInBounds_toArray, List.set_cons_zero, List.set_cons_succ]
      refine wpAnyH_take (i := 2) (v := ?_) (gdrop rfl) (by kernel_rfl) (by kernel_rfl) (by kernel_rfl) (fun _ _ _ h => h) (Or.inl ⟨by rfl, ?_⟩) (by assumption) ?_
      rotate_left 1
      focus (intro w hSw; (try dsimp only at hSw); go_simp; try (with_reducible rfl))
      try simp only [Act.put, List.setIfInBounds_toArray, List.set_cons_zero, List.set_cons_succ]
      refine wpAnyH_take (i := 3) (v := ?_) (gdrop rfl) (by kernel_rfl) (by kernel_rfl) (by kernel_rfl) (fun _ _ _ h => h) (Or.inl ⟨by rfl, ?_⟩) (by assumption) ?_
      rotate_left 1
      focus (intro w hSw; (try dsimp only at hSw); go_simp; try (with_reducible rfl))
      try simp only [Act.put, List.setIfInBounds_toArray, List.set_cons_zero, List.set_cons_succ]
      refine wpAnyH_take (i := 4) (v := ?_) (gdrop rfl) (by kernel_rfl) (by kernel_rfl) (by kernel_rfl) (fun _ _ _ h => h) (Or.inl ⟨by rfl, ?_⟩) (by assumption) ?_
      rotate_left 1
      focus (intro w hSw; (try dsimp only at hSw); go_simp; try (with_reducible rfl))
      try simp only [Act.put, List.setIfInBounds_toArray, List.set_cons_zero, List.set_cons_succ]
      refine wpAnyH_take (i := 5) (v := ?_) (gdrop rfl) (by kernel_rfl) (by kernel_rfl) (by kernel_rfl) (fun _ _ _ h => h) (Or.inl ⟨by rfl, ?_⟩) (by assumption) ?_
      rotate_left 1
      focus (intro w hSw; (try dsimp only at hSw); go_simp; try (with_reducible rfl))
      try simp only [Act.put, List.setIfInBounds_toArray, List.set_cons_zero, List.set_cons_succ]
      refine wpAnyH_take (i := 6) (v := ?_) (gdrop rfl) (by kernel_rfl) (by kernel_rfl) (by kernel_rfl) (fun _ _ _ h => h) (Or.inl ⟨by rfl, ?_⟩) (by assumption) ?_
      rotate_left 1
      focus (intro w hSw; (try dsimp only at hSw); go_simp; try (with_reducible rfl))
      try simp only [Act.put, List.setIfInBounds_toArray, List.set_cons_zero, List.set_cons_succ]
      refine wpAnyH_take (i := 7) (v := undef) (gdrop rfl) (by kernel_rfl) (by kernel_rfl) (by kernel_rfl) (fun _ _ _ h => h) (Or.inr ⟨by rfl, rfl⟩) (by assumption) ?_
      try simp only [Act.put, List.setIfInBounds_toArray, List.set_cons_zero, List.set_cons_succ]
      refine wpAnyH_take (i := 8) (v := undef) (gdrop rfl) (by kernel_rfl) (by kernel_rfl) (by kernel_rfl) (fun _ _ _ h => h) (Or.inr ⟨by rfl, rfl⟩) (by assumption) ?_
      try simp only [Act.put, List.setIfInBounds_toArray, List.set_cons_zero, List.set_cons_succ]
      refine wpAnyH_take (i := 9) (v := undef) (gdrop rfl) (by kernel_rfl) (by kernel_rfl) (by kernel_rfl) (fun _ _ _ h => h) (Or.inr ⟨by rfl, rfl⟩) (by assumption) ?_
      try simp only [Act.put, List.setIfInBounds_toArray, List.set_cons_zero, List.set_cons_succ]
      refine wpAnyH_take (i := 10) (v := undef) (gdrop rfl) (by kernel_rfl) (by kernel_rfl) (by kernel_rfl) (fun _ _ _ h => h) (Or.inr ⟨by rfl, rfl⟩) (by assumption) ?_
      try simp only [Act.put, List.setIfInBounds_toArray, List.set_cons_zero, List.set_cons_succ]
      refine wpAnyH_take (i := 11) (v := ?_) (gdrop rfl) (by kernel_rfl) (by kernel_rfl) (by kernel_rfl) (fun _ _ _ h => h) (Or.inl ⟨by rfl, ?_⟩) (by assumption) ?_
      rotate_left 1
      focus (intro w hSw; (try dsimp only at hSw); go_simp; try (with_reducible rfl))
      try simp only [Act.put, List.setIfInBounds_toArray, List.set_cons_zero, List.set_cons_succ]
      refine wpAnyH_take (i := 12) (v := ?_) (gdrop rfl) (by kernel_rfl) (by kernel_rfl) (by kernel_rfl) (fun _ _ _ h => h) (Or.inl ⟨by rfl, ?_⟩) (by assumption) ?_
      rotate_left 1
      focus (intro w hSw; (try dsimp only at hSw); go_simp; try (with_reducible rfl))
      try simp only [Act.put, List.setIfInBounds_toArray, List.set_cons_zero, List.set_cons_succ]
      refine wpAnyH_take (i := 13) (v := ?_) (gdrop rfl) (by kernel_rfl) (by kernel_rfl) (by kernel_rfl) (fun _ _ _ h => h) (Or.inl ⟨by rfl, ?_⟩) (by assumption) ?_
      rotate_left 1
      focus (intro w hSw; (try dsimp only at hSw); go_simp; try (with_reducible rfl))
      try simp only [Act.put, List.setIfInBounds_toArray, List.set_cons_zero, List.set_cons_succ]
      refine wpAnyH_take (i := 14) (v := ?_) (gdrop rfl) (by kernel_rfl) (by kernel_rfl) (by kernel_rfl) (fun _ _ _ h => h) (Or.inl ⟨by rfl, ?_⟩) (by assumption) ?_
      rotate_left 1
      focus (intro w hSw; (try dsimp only at hSw); go_simp; try (with_reducible rfl))
      try simp only [Act.put, List.setIfInBounds_toArray, List.set_cons_zero, List.set_cons_succ]
      refine wpAnyH_take (i := 15) (v := ?_) (gdrop rfl) (by kernel_rfl) (by kernel_rfl) (by kernel_rfl) (fun _ _ _ h => h) (Or.inl ⟨by rfl, ?_⟩) (by assumption) ?_
      rotate_left 1
      focus (intro w hSw; (try dsimp only at hSw); go_simp; try (with_reducible rfl))
      try simp only [Act.put, List.setIfInBounds_toArray, List.set_cons_zero, List.set_cons_succ]
      refine wpAnyH_take (i := 16) (v := ?_) (gdrop rfl) (by kernel_rfl) (by kernel_rfl) (by kernel_rfl) (fun _ _ _ h => h) (Or.inl ⟨by rfl, ?_⟩) (by assumption) ?_
      rotate_left 1
      focus (intro w hSw; (try dsimp only at hSw); go_simp; try (with_reducible rfl))
      try simp only [Act.put, List.setIfInBounds_toArray, List.set_cons_zero, List.set_cons_succ]
      refine wpAnyH_take (i := 17) (v := ?_) (gdrop rfl) (by kernel_rfl) (by kernel_rfl) (by kernel_rfl) (fun _ _ _ h => h) (Or.inl ⟨by rfl, ?_⟩) (by assumption) ?_
      rotate_left 1
      focus (intro w hSw; (try dsimp only at hSw); go_simp; try (with_reducible rfl))
      try simp only [Act.put, List.setIfInBounds_toArray, List.set_cons_zero, List.set_cons_succ]
      refine wpAnyH_take (i := 18) (v := ?_) (gdrop rfl) (by kernel_rfl) (by kernel_rfl) (by kernel_rfl) (fun _ _ _ h => h) (Or.inl ⟨by rfl, ?_⟩) (by assumption) ?_
      rotate_left 1
      focus (intro w hSw; (try dsimp only at hSw); go_simp; try (with_reducible rfl))
      try simp only [Act.put, List.setIfInBounds_toArray, List.set_cons_zero, List.set_cons_succ]
      refine wpAnyH_take (i := 19) (v := ?_) (gdrop rfl) (by kernel_rfl) (by kernel_rfl) (by kernel_rfl) (fun _ _ _ h => h) (Or.inl ⟨by rfl, ?_⟩) (by assumption) ?_
      rotate_left 1
      focus (intro w hSw; (try dsimp only at hSw); go_simp; try (with_reducible rfl))
      try simp only [Act.put, List.setIfInBounds_toArray, List.set_cons_zero, List.set_cons_succ]
      refine wpAnyH_take (i := 20) (v := ?_) (gdrop rfl) (by kernel_rfl) (by kernel_rfl) (by kernel_rfl) (fun _ _ _ h => h) (Or.inl ⟨by rfl, ?_⟩) (by assumption) ?_
      rotate_left 1
      focus (intro w hSw; (try dsimp only at hSw); go_simp; try (with_reducible rfl))
      try simp only [Act.put, List.setIfInBounds_toArray, List.set_cons_zero, List.set_cons_succ]
      refine wpAnyH_take (i := 21) (v := ?_) (gdrop rfl) (by kernel_rfl) (by kernel_rfl) (by kernel_rfl) (fun _ _ _ h => h) (Or.inl ⟨by rfl, ?_⟩) (by assumption) ?_
      rotate_left 1
      focus (intro w hSw; (try dsimp only at hSw); go_simp; try (with_reducible rfl))
      try simp only [Act.put, List.setIfInBounds_toArray, List.set_cons_zero, List.set_cons_succ]
      refine wpAnyH_take (i := 23) (v := ?_) (gdrop rfl) (by kernel_rfl) (by kernel_rfl) (by kernel_rfl) (fun _ _ _ h => h) (Or.inl ⟨by rfl, ?_⟩) (by assumption) ?_
      rotate_left 1
      focus (intro w hSw; (try dsimp only at hSw); go_simp; try (with_reducible rfl))
      try simp only [Act.put, List.setIfInBounds_toArray, List.set_cons_zero, List.set_cons_succ]
      refine wpAnyH_take (i := 24) (v := ?_) (gdrop rfl) (by kernel_rfl) (by kernel_rfl) (by kernel_rfl) (fun _ _ _ h => h) (Or.inl ⟨by rfl, ?_⟩) (by assumption) ?_
      rotate_left 1
      focus (intro w hSw; (try dsimp only at hSw); go_simp; try (with_reducible rfl))
      try simp only [Act.put, List.setIfInBounds_toArray, List.set_cons_zero, List.set_cons_succ]
      refine wpAnyH_take (i := 26) (v := ?_) (gdrop rfl) (by kernel_rfl) (by kernel_rfl) (by kernel_rfl) (fun _ _ _ h => h) (Or.inl ⟨by rfl, ?_⟩) (by assumption) ?_
      rotate_left 1
      focus (intro w hSw; (try dsimp only at hSw); go_simp; try (with_reducible rfl))
      try simp only [Act.put, List.setIfInBounds_toArray, List.set_cons_zero, List.set_cons_succ]
      refine wpAnyH_ready (rs := [22, 27]) (by kernel_rfl) (by simp) ?_
      refine AllReadyH.cons (gdrop rfl) (fun K hK => ?_) (AllReadyH.cons (gdrop rfl) (fun K hK => ?_) AllReadyH.nil)
      · go_simp
        refine hK.out _ _ (HS.out _ B1.out) (fun hHeld => ?_)
        clear hK K
        try simp only [Act.put, List.setIfInBounds_toArray, List.set_cons_zero, List.set_cons_succ]
        refine wpAnyH_ready (rs := [25, 27]) (by kernel_rfl) (by simp) ?_
        refine AllReadyH.cons (gdrop rfl) (fun K hK => ?_) (AllReadyH.cons (gdrop rfl) (fun K hK => ?_) AllReadyH.nil)
        · refine step_append_gd layM G1.out R1.out elS (by rw [HSN.out]; simp; omega) (by rw [HSN.out]; simp; omega) B1.out.size ?_ _ _ (by rfl) rfl rfl rfl
          intro v5 w5 hg5 hb5 hgr5
          rw [List.nil_append] at hg5
          obtain ⟨a5, c5, hv5⟩ := hg5.gs.shape
          subst hv5
          have B5 : Below W5.heap.size W5 w5 := B1.out.trans hb5
          clear hb5 hgr5
          refine hK.out _ _ (HS.out _ B5) (fun hHeld => ?_)
          clear hK K
          try simp only [Act.put, List.setIfInBounds_toArray, List.set_cons_zero, List.set_cons_succ]
          refine wpAnyH_ready (rs := [27]) (by kernel_rfl) (by simp) ?_
          refine AllReadyH.cons (gdrop rfl) (fun K hK => ?_) AllReadyH.nil
          go_simp
          refine hK.out _ _ (HS.out _ (bel_al B5 _)) (fun hHeld => ?_)
          clear hK K
          try simp only [Act.put, List.setIfInBounds_toArray, List.set_cons_zero, List.set_cons_succ]
          refine wpAnyH_ready (rs := [28]) (by kernel_rfl) (by simp) ?_
          refine AllReadyH.cons (gdrop rfl) (fun K hK => ?_) AllReadyH.nil
          refine step_append_gd layM (hg5.below (bel_al (Below.refl _ _) _)) (lit_smp w5 s) elS (by rw [HSN.out]; simp; omega) (by rw [HSN.out]; simp; omega) (bel_al B5 _).size ?_ _ _ (by rfl) rfl rfl rfl
          intro v6 w6 hg6 hb6 hgr6
          obtain ⟨a6, c6, hv6⟩ := hg6.gs.shape
          obtain ⟨n6, hn6⟩ : ∃ n, (d.sm ++ [s]).length = n := ⟨_, rfl⟩
          rw [hn6] at hv6
          subst hv6
          have B6 : Below W5.heap.size W5 w6 := (bel_al B5 _).trans hb6
          clear hb6 hgr6
          refine hK.out _ _ (HS.out _ B6) (fun hHeld => ?_)
          clear hK K
          try simp only [Act.put, List.setIfInBounds_toArray, List.set_cons_zero, List.set_cons_succ]
          refine wpAnyH_take (i := 29) (v := ?_) (gdrop rfl) (by kernel_rfl) (by kernel_rfl) (by kernel_rfl) (fun _ _ _ h => h) (Or.inl ⟨by rfl, ?_⟩) (by assumption) ?_
          rotate_left 1
          focus (intro w hSw; (try dsimp only at hSw); go_simp; try (with_reducible rfl))
          try simp only [Act.put, List.setIfInBounds_toArray, List.set_cons_zero, List.set_cons_succ]
          refine wpAnyH_ready (rs := [30]) (by kernel_rfl) (by simp) ?_
          refine AllReadyH.cons (gdrop rfl) (fun K hK => ?_) AllReadyH.nil
          go_simp
          go_at_call 10
          (with_reducible refine (CSY.out _ _ B6 hg6.gs).mono ?_)
          rintro e wa ⟨rfl, hba⟩
          have BE : Below W5.heap.size W5 wa := TR.out B6 hba
          clear hba
          refine hK.out _ _ (HS.out _ BE) (fun hHeld => ?_)
          clear hK K
          try simp only [Act.put, List.setIfInBounds_toArray, List.set_cons_zero, List.set_cons_succ]
          refine wpAnyH_take (i := 31) (v := ?_) (gdrop rfl) (by kernel_rfl) (by kernel_rfl) (by kernel_rfl) (fun _ _ _ h => h) (Or.inl ⟨by rfl, ?_⟩) (by assumption) ?_
          rotate_left 1
          focus (intro w hSw; (try dsimp only at hSw); go_simp; try (with_reducible rfl))
          try simp only [Act.put, List.setIfInBounds_toArray, List.set_cons_zero, List.set_cons_succ]
          refine wpAnyH_take (i := 32) (v := ?_) (gdrop rfl) (by kernel_rfl) (by kernel_rfl) (by kernel_rfl) (fun _ _ _ h => h) (Or.inl ⟨by rfl, ?_⟩) (by assumption) ?_
          rotate_left 1
          focus (intro w hSw; (try dsimp only at hSw); go_simp; try (with_reducible rfl))
          try simp only [Act.put, List.setIfInBounds_toArray, List.set_cons_zero, List.set_cons_succ]
          refine wpAnyH_take (i := 33) (v := ?_) (gdrop rfl) (by kernel_rfl) (by kernel_rfl) (by kernel_rfl) (fun _ _ _ h => h) (Or.inl ⟨by rfl, ?_⟩) (by assumption) ?_
          rotate_left 1
          focus (intro w hSw; (try dsimp only at hSw); go_simp; try (with_reducible rfl))
          try simp only [Act.put, List.setIfInBounds_toArray, List.set_cons_zero, List.set_cons_succ]
          refine wpAnyH_done (by kernel_rfl) ?_ _
          have HBE := Lib.hid BE
          go_simp
          go_wp2
          go_meet
          case rel => exact ⟨by first | rfl | simp, HBE⟩
        · go_simp
          refine hK.out _ _ (HS.out _ B2.out) (fun hHeld => ?_)
          clear hK K
          try simp only [Act.put, List.setIfInBounds_toArray, List.set_cons_zero, List.set_cons_succ]
          refine wpAnyH_ready (rs := [25]) (by kernel_rfl) (by simp) ?_
          refine AllReadyH.cons (gdrop rfl) (fun K hK => ?_) AllReadyH.nil
          refine step_append_gd layM G2.out R2.out elS (by rw [HSN.out]; simp; omega) (by rw [HSN.out]; simp; omega) B2.out.size ?_ _ _ (by rfl) rfl rfl rfl
          intro v5 w5 hg5 hb5 hgr5
          rw [List.nil_append] at hg5
          obtain ⟨a5, c5, hv5⟩ := hg5.gs.shape
          subst hv5
          have B5 : Below W5.heap.size W5 w5 := B2.out.trans hb5
          have LB5 := Gs.only L2.out (grown_only hgr5) (fun k hk hk2 => by simp [Value.ownBlock] at hk hk2; omega)
          clear hb5 hgr5
          refine hK.out _ _ (HS.out _ B5) (fun hHeld => ?_)
          clear hK K
          try simp only [Act.put, List.setIfInBounds_toArray, List.set_cons_zero, List.set_cons_succ]
          refine wpAnyH_ready (rs := [28]) (by kernel_rfl) (by simp) ?_
          refine AllReadyH.cons (gdrop rfl) (fun K hK => ?_) AllReadyH.nil
          refine step_append_gd layM hg5 LB5 elS (by rw [HSN.out]; simp; omega) (by rw [HSN.out]; simp; omega) B5.size ?_ _ _ (by rfl) rfl rfl rfl
          intro v6 w6 hg6 hb6 hgr6
          obtain ⟨a6, c6, hv6⟩ := hg6.gs.shape
          obtain ⟨n6, hn6⟩ : ∃ n, (d.sm ++ [s]).length = n := ⟨_, rfl⟩
          rw [hn6] at hv6
          subst hv6
          have B6 : Below W5.heap.size W5 w6 := B5.trans hb6
          clear hb6 hgr6
          refine hK.out _ _ (HS.out _ B6) (fun hHeld => ?_)
          clear hK K
          try simp only [Act.put, List.setIfInBounds_toArray, List.set_cons_zero, List.set_cons_succ]
          refine wpAnyH_take (i := 29) (v := ?_) (gdrop rfl) (by kernel_rfl) (by kernel_rfl) (by kernel_rfl) (fun _ _ _ h => h) (Or.inl ⟨by rfl, ?_⟩) (by assumption) ?_
          rotate_left 1
          focus (intro w hSw; (try dsimp only at hSw); go_simp; try (with_reducible rfl))
          try simp only [Act.put, List.setIfInBounds_toArray, List.set_cons_zero, List.set_cons_succ]
          refine wpAnyH_ready (rs := [30]) (by kernel_rfl) (by simp) ?_
          refine AllReadyH.cons (gdrop rfl) (fun K hK => ?_) AllReadyH.nil
          go_simp
          go_at_call 10
          (with_reducible refine (CSY.out _ _ B6 hg6.gs).mono ?_)
          rintro e wa ⟨rfl, hba⟩
          have BE : Below W5.heap.size W5 wa := TR.out B6 hba
          clear hba
          refine hK.out _ _ (HS.out _ BE) (fun hHeld => ?_)
          clear hK K
          try simp only [Act.put, List.setIfInBounds_toArray, List.set_cons_zero, List.set_cons_succ]
          refine wpAnyH_take (i := 31) (v := ?_) (gdrop rfl) (by kernel_rfl) (by kernel_rfl) (by kernel_rfl) (fun _ _ _ h => h) (Or.inl ⟨by rfl, ?_⟩) (by assumption) ?_
          rotate_left 1
          focus (intro w hSw; (try dsimp only at hSw); go_simp; try (with_reducible rfl))
          try simp only [Act.put, List.setIfInBounds_toArray, List.set_cons_zero, List.set_cons_succ]
          refine wpAnyH_take (i := 32) (v := ?_) (gdrop rfl) (by kernel_rfl) (by kernel_rfl) (by kernel_rfl) (fun _ _ _ h => h) (Or.inl ⟨by rfl, ?_⟩) (by assumption) ?_
          rotate_left 1
          focus (intro w hSw; (try dsimp only at hSw); go_simp; try (with_reducible rfl))
          try simp only [Act.put, List.setIfInBounds_toArray, List.set_cons_zero, List.set_cons_succ]
          refine wpAnyH_take (i := 33) (v := ?_) (gdrop rfl) (by kernel_rfl) (by kernel_rfl) (by kernel_rfl) (fun _ _ _ h => h) (Or.inl ⟨by rfl, ?_⟩) (by assumption) ?_
          rotate_left 1
          focus (intro w hSw; (try dsimp only at hSw); go_simp; try (with_reducible rfl))
          try simp only [Act.put, List.setIfInBounds_toArray, List.set_cons_zero, List.set_cons_succ]
          refine wpAnyH_done (by kernel_rfl) ?_ _
          have HBE := Lib.hid BE
          go_simp
          go_wp2
          go_meet
          case rel => exact ⟨by first | rfl | simp, HBE⟩
      · go_simp
        refine hK.out _ _ (HS.out _ B4.out) (fun hHeld => ?_)
        clear hK K
        try simp only [Act.put, List.setIfInBounds_toArray, List.set_cons_zero, List.set_cons_succ]
        refine wpAnyH_ready (rs := [22]) (by kernel_rfl) (by simp) ?_
        refine AllReadyH.cons (gdrop rfl) (fun K hK => ?_) AllReadyH.nil
        go_simp
        refine hK.out _ _ (HS.out _ B3.out) (fun hHeld => ?_)
        clear hK K
        try simp only [Act.put, List.setIfInBounds_toArray, List.set_cons_zero, List.set_cons_succ]
        refine wpAnyH_ready (rs := [25]) (by kernel_rfl) (by simp) ?_
        refine AllReadyH.cons (gdrop rfl) (fun K hK => ?_) AllReadyH.nil
        refine step_append_gd layM G3.out R3.out elS (by rw [HSN.out]; simp; omega) (by rw [HSN.out]; simp; omega) B3.out.size ?_ _ _ (by rfl) rfl rfl rfl
        intro v5 w5 hg5 hb5 hgr5
        rw [List.nil_append] at hg5
        obtain ⟨a5, c5, hv5⟩ := hg5.gs.shape
        subst hv5
        have B5 : Below W5.heap.size W5 w5 := B3.out.trans hb5
        have LB5 := Gs.only L3.out (grown_only hgr5) (fun k hk hk2 => by simp [Value.ownBlock] at hk hk2; omega)
        clear hb5 hgr5
        refine hK.out _ _ (HS.out _ B5) (fun hHeld => ?_)
        clear hK K
        try simp only [Act.put, List.setIfInBounds_toArray, List.set_cons_zero, List.set_cons_succ]
        refine wpAnyH_ready (rs := [28]) (by kernel_rfl) (by simp) ?_
        refine AllReadyH.cons (gdrop rfl) (fun K hK => ?_) AllReadyH.nil
        refine step_append_gd layM hg5 LB5 elS (by rw [HSN.out]; simp; omega) (by rw [HSN.out]; simp; omega) B5.size ?_ _ _ (by rfl) rfl rfl rfl
        intro v6 w6 hg6 hb6 hgr6
        obtain ⟨a6, c6, hv6⟩ := hg6.gs.shape
        obtain ⟨n6, hn6⟩ : ∃ n, (d.sm ++ [s]).length = n := ⟨_, rfl⟩
        rw [hn6] at hv6
        subst hv6
        have B6 : Below W5.heap.size W5 w6 := B5.trans hb6
        clear hb6 hgr6
        refine hK.out _ _ (HS.out _ B6) (fun hHeld => ?_)
        clear hK K
        try simp only [Act.put, List.setIfInBounds_toArray, List.set_cons_zero, List.set_cons_succ]
        refine wpAnyH_take (i := 29) (v := ?_) (gdrop rfl) (by kernel_rfl) (by kernel_rfl) (by kernel_rfl) (fun _ _ _ h => h) (Or.inl ⟨by rfl, ?_⟩) (by assumption) ?_
        rotate_left 1
        focus (intro w hSw; (try dsimp only at hSw); go_simp; try (with_reducible rfl))
        try simp only [Act.put, List.setIfInBounds_toArray, List.set_cons_zero, List.set_cons_succ]
        refine wpAnyH_ready (rs := [30]) (by kernel_rfl) (by simp) ?_
        refine AllReadyH.cons (gdrop rfl) (fun K hK => ?_) AllReadyH.nil
        go_simp
        go_at_call 10
        (with_reducible refine (CSY.out _ _ B6 hg6.gs).mono ?_)
        rintro e wa ⟨rfl, hba⟩
        have BE : Below W5.heap.size W5 wa := TR.out B6 hba
        clear hba
        refine hK.out _ _ (HS.out _ BE) (fun hHeld => ?_)
        clear hK K
        try simp only [Act.put, List.setIfInBounds_toArray, List.set_cons_zero, List.set_cons_succ]
        refine wpAnyH_take (i := 31) (v := ?_) (gdrop rfl) (by kernel_rfl) (by kernel_rfl) (by kernel_rfl) (fun _ _ _ h => h) (Or.inl ⟨by rfl, ?_⟩) (by assumption) ?_
        rotate_left 1
        focus (intro w hSw; (try dsimp only at hSw); go_simp; try (with_reducible rfl))
        try simp only [Act.put, List.setIfInBounds_toArray, List.set_cons_zero, List.set_cons_succ]
        refine wpAnyH_take (i := 32) (v := ?_) (gdrop rfl) (by kernel_rfl) (by kernel_rfl) (by kernel_rfl) (fun _ _ _ h => h) (Or.inl ⟨by rfl, ?_⟩) (by assumption) ?_
        rotate_left 1
        focus (intro w hSw; (try dsimp only at hSw); go_simp; try (with_reducible rfl))
        try simp only [Act.put, List.setIfInBounds_toArray, List.set_cons_zero, List.set_cons_succ]
        refine wpAnyH_take (i := 33) (v := ?_) (gdrop rfl) (by kernel_rfl) (by kernel_rfl) (by kernel_rfl) (fun _ _ _ h => h) (Or.inl ⟨by rfl, ?_⟩) (by assumption) ?_
        rotate_left 1
        focus (intro w hSw; (try dsimp only at hSw); go_simp; try (with_reducible rfl))
        try simp only [Act.put, List.setIfInBounds_toArray, List.set_cons_zero, List.set_cons_succ]
        refine wpAnyH_done (by kernel_rfl) ?_ _
        have HBE := Lib.hid BE
        go_simp
        go_wp2
        go_meet
        case rel => exact ⟨by first | rfl | simp, HBE⟩
    · have hDD : D = dvz := by rw [HRD.out, if_neg hE0]
      have CSZ : Hid (∀ V, Below W5.heap.size W5 V → Calls Tryd.prog 10 #[.agg #[.slice aa an ac, .slice ba bn bc, .slice ca cn cc], .agg #[.slice none 0 0, .slice none 0 0, .slice none 0 0]] V fun e w' => e = .returned (.bool true) ∧ Below V.heap.size V w') := fun V hV => by
        have h1 := HA4.out V (TR.out HBC2.out hV)
        rw [hDD] at h1
        exact dvsame_yes _ _ _ _ _ _ dvz V h1 (dv_zero V)
      have e5 : (E != E) = false := by simp
      have e6 : (E != 0) = true := by simpa using hE0
      have e7 : (E == 0) = false := by simpa using hE0
      clear hDD hE0
      refine wp_region_held_drew (S := (fun V => Below W5.heap.size W5 V ∧ (V.cell? ⟨q, 0, none⟩ = some (.slice ta tn tc) ∧ V.cell? ⟨q, 1, none⟩ = some (.slice ka kn kc) ∧ V.cell? ⟨q, 2, none⟩ = some (.slice sa sn sc)) ∧ (V.cell? ⟨q + 1, 0, none⟩ = some (.int .i64 s.t) ∧ V.cell? ⟨q + 1, 1, none⟩ = some (.int .i64 s.x) ∧ V.cell? ⟨q + 1, 2, none⟩ = some (.int .i64 s.y)) ∧ V.cell? ⟨g7, 0, none⟩ = some (.slice aa an ac) ∧ V.cell? ⟨g7, 1, none⟩ = some (.slice ba bn bc) ∧ V.cell? ⟨g7, 2, none⟩ = some (.slice ca cn cc))) (by kernel_rfl) (HS.out _ (bel_dr (Below.refl _ _))) (fun hHeld => ?_)
      refine wpAnyH_take (i := 0) (v := ?_) (gdrop rfl) (by kernel_rfl) (by kernel_rfl) (by kernel_rfl) (fun _ _ _ h => h) (Or.inl ⟨by rfl, ?_⟩) (by assumption) ?_
      rotate_left 1
      focus (intro w hSw; (try dsimp only at hSw); go_simp; try (with_reducible rfl))
      try simp only [Act.put, List.setIfInBounds_toArray, List.set_cons_zero, List.set_cons_succ]
      refine wpAnyH_take (i := 1) (v := ?_) (gdrop rfl) (by kernel_rfl) (by kernel_rfl) (by kernel_rfl) (fun _ _ _ h => h) (Or.inl ⟨by rfl, ?_⟩) (by assumption) ?_
      rotate_left 1
      focus (intro w hSw; (try dsimp only at hSw); go_simp; try (with_reducible rfl))
      try simp only [Act.put, List.setIfInBounds_toArray, List.set_cons_zero, List.set_cons_succ]
      refine wpAnyH_take (i := 2) (v := ?_) (gdrop rfl) (by kernel_rfl) (by kernel_rfl) (by kernel_rfl) (fun _ _ _ h => h) (Or.inl ⟨by rfl, ?_⟩) (by assumption) ?_
      rotate_left 1
      focus (intro w hSw; (try dsimp only at hSw); go_simp; try (with_reducible rfl))
      try simp only [Act.put, List.setIfInBounds_toArray, List.set_cons_zero, List.set_cons_succ]
      refine wpAnyH_take (i := 3) (v := ?_) (gdrop rfl) (by kernel_rfl) (by kernel_rfl) (by kernel_rfl) (fun _ _ _ h => h) (Or.inl ⟨by rfl, ?_⟩) (by assumption) ?_
      rotate_left 1
      focus (intro w hSw; (try dsimp only at hSw); go_simp; try (with_reducible rfl))
      try simp only [Act.put, List.setIfInBounds_toArray, List.set_cons_zero, List.set_cons_succ]
      refine wpAnyH_take (i := 4) (v := ?_) (gdrop rfl) (by kernel_rfl) (by kernel_rfl) (by kernel_rfl) (fun _ _ _ h => h) (Or.inl ⟨by rfl, ?_⟩) (by assumption) ?_
      rotate_left 1
      focus (intro w hSw; (try dsimp only at hSw); go_simp; try (with_reducible rfl))
      try simp only [Act.put, List.setIfInBounds_toArray, List.set_cons_zero, List.set_cons_succ]
      refine wpAnyH_take (i := 5) (v := ?_) (gdrop rfl) (by kernel_rfl) (by kernel_rfl) (by kernel_rfl) (fun _ _ _ h => h) (Or.inl ⟨by rfl, ?_⟩) (by assumption) ?_
      rotate_left 1
      focus (intro w hSw; (try dsimp only at hSw); go_simp; try (with_reducible rfl))
      try simp only [Act.put, List.setIfInBounds_toArray, List.set_cons_zero, List.set_cons_succ]
      refine wpAnyH_take (i := 6) (v := ?_) (gdrop rfl) (by kernel_rfl) (by kernel_rfl) (by kernel_rfl) (fun _ _ _ h => h) (Or.inl ⟨by rfl, ?_⟩) (by assumption) ?_
      rotate_left 1
      focus (intro w hSw; (try dsimp only at hSw); go_simp; try (with_reducible rfl))
      try simp only [Act.put, List.setIfInBounds_toArray, List.set_cons_zero, List.set_cons_succ]
      refine wpAnyH_take (i := 7) (v := ?_) (gdrop rfl) (by kernel_rfl) (by kernel_rfl) (by kernel_rfl) (fun _ _ _ h => h) (Or.inl ⟨by rfl, ?_⟩) (by assumption) ?_
      rotate_left 1
      focus (intro w hSw; (try dsimp only at hSw); go_simp; try (with_reducible rfl))
      try simp only [Act.put, List.setIfInBounds_toArray, List.set_cons_zero, List.set_cons_succ]
      refine wpAnyH_take (i := 8) (v := ?_) (gdrop rfl) (by kernel_rfl) (by kernel_rfl) (by kernel_rfl) (fun _ _ _ h => h) (Or.inl ⟨by rfl, ?_⟩) (by assumption) ?_
      rotate_left 1
      focus (intro w hSw; (try dsimp only at hSw); go_simp; try (with_reducible rfl))
      try simp only [Act.put, List.setIfInBounds_toArray, List.set_cons_zero, List.set_cons_succ]
      refine wpAnyH_ready (rs := [9]) (by kernel_rfl) (by simp) ?_
      refine AllReadyH.cons (gdrop rfl) (fun K hK => ?_) AllReadyH.nil
      go_simp
      go_at_call 10
      (with_reducible refine (CSZ.out _ (bel_dr (Below.refl _ _))).mono ?_)
      rintro e wa ⟨rfl, hba⟩
      have BE : Below W5.heap.size W5 wa := TR.out (bel_dr (Below.refl _ _)) hba
      clear hba
      refine hK.out _ _ (HS.out _ BE) (fun hHeld => ?_)
      clear hK K
      try simp only [Act.put, List.setIfInBounds_toArray, List.set_cons_zero, List.set_cons_succ]
      refine wpAnyH_take (i := 10) (v := ?_) (gdrop rfl) (by kernel_rfl) (by kernel_rfl) (by kernel_rfl) (fun _ _ _ h => h) (Or.inl ⟨by rfl, ?_⟩) (by assumption) ?_
      rotate_left 1
      focus (intro w hSw; (try dsimp only at hSw); go_simp; try (with_reducible rfl))
      try simp only [Act.put, List.setIfInBounds_toArray, List.set_cons_zero, List.set_cons_succ]
      refine wpAnyH_take (i := 11) (v := ?_) (gdrop rfl) (by kernel_rfl) (by kernel_rfl) (by kernel_rfl) (fun _ _ _ h => h) (Or.inl ⟨by rfl, ?_⟩) (by assumption) ?_
      rotate_left 1
      focus (intro w hSw; (try dsimp only at hSw); go_simp; try (with_reducible rfl))
      try simp only [Act.put, List.setIfInBounds_toArray, List.set_cons_zero, List.set_cons_succ]
      refine wpAnyH_take (i := 12) (v := ?_) (gdrop rfl) (by kernel_rfl) (by kernel_rfl) (by kernel_rfl) (fun _ _ _ h => h) (Or.inl ⟨by rfl, ?_⟩) (by assumption) ?_
      rotate_left 1
      focus (intro w hSw; (try dsimp only at hSw); go_simp; try (with_reducible rfl))
      try simp only [Act.put, List.setIfInBounds_toArray, List.set_cons_zero, List.set_cons_succ]
      refine wpAnyH_take (i := 13) (v := ?_) (gdrop rfl) (by kernel_rfl) (by kernel_rfl) (by kernel_rfl) (fun _ _ _ h => h) (Or.inl ⟨by rfl, ?_⟩) (by assumption) ?_
      rotate_left 1
      focus (intro w hSw; (try dsimp only at hSw); go_simp; try (with_reducible rfl))
      try simp only [Act.put, List.setIfInBounds_toArray, List.set_cons_zero, List.set_cons_succ]
      refine wpAnyH_take (i := 14) (v := ?_) (gdrop rfl) (by kernel_rfl) (by kernel_rfl) (by kernel_rfl) (fun _ _ _ h => h) (Or.inl ⟨by rfl, ?_⟩) (by assumption) ?_
      rotate_left 1
      focus (intro w hSw; (try dsimp only at hSw); go_simp; try (with_reducible rfl))
      try simp only [Act.put, List.setIfInBounds_toArray, List.set_cons_zero, List.set_cons_succ]
      refine wpAnyH_take (i := 15) (v := ?_) (gdrop rfl) (by kernel_rfl) (by kernel_rfl) (by kernel_rfl) (fun _ _ _ h => h) (Or.inl ⟨by rfl, ?_⟩) (by assumption) ?_
      rotate_left 1
      focus (intro w hSw; (try dsimp only at hSw); go_simp; try (with_reducible rfl))
      try simp only [Act.put, List.setIfInBounds_toArray, List.set_cons_zero, List.set_cons_succ]
      refine wpAnyH_take (i := 16) (v := ?_) (gdrop rfl) (by kernel_rfl) (by kernel_rfl) (by kernel_rfl) (fun _ _ _ h => h) (Or.inl ⟨by rfl, ?_⟩) (by assumption) ?_
      rotate_left 1
      focus (intro w hSw; (try dsimp only at hSw); go_simp; try (with_reducible rfl))
      try simp only [Act.put, List.setIfInBounds_toArray, List.set_cons_zero, List.set_cons_succ]
      refine wpAnyH_take (i := 17) (v := undef) (gdrop rfl) (by kernel_rfl) (by kernel_rfl) (by kernel_rfl) (fun _ _ _ h => h) (Or.inr ⟨by rfl, rfl⟩) (by assumption) ?_
      try simp only [Act.put, List.setIfInBounds_toArray, List.set_cons_zero, List.set_cons_succ]
      refine wpAnyH_take (i := 18) (v := undef) (gdrop rfl) (by kernel_rfl) (by kernel_rfl) (by kernel_rfl) (fun _ _ _ h => h) (Or.inr ⟨by rfl, rfl⟩) (by assumption) ?_
      try simp only [Act.put, List.setIfInBounds_toArray, List.set_cons_zero, List.set_cons_succ]
      refine wpAnyH_take (i := 19) (v := undef) (gdrop rfl) (by kernel_rfl) (by kernel_rfl) (by kernel_rfl) (fun _ _ _ h => h) (Or.inr ⟨by rfl, rfl⟩) (by assumption) ?_
      try simp only [Act.put, List.setIfInBounds_toArray, List.set_cons_zero, List.set_cons_succ]
      refine wpAnyH_take (i := 20) (v := undef) (gdrop rfl) (by kernel_rfl) (by kernel_rfl) (by kernel_rfl) (fun _ _ _ h => h) (Or.inr ⟨by rfl, rfl⟩) (by assumption) ?_
      try simp only [Act.put, List.setIfInBounds_toArray, List.set_cons_zero, List.set_cons_succ]
      refine wpAnyH_take (i := 21) (v := undef) (gdrop rfl) (by kernel_rfl) (by kernel_rfl) (by kernel_rfl) (fun _ _ _ h => h) (Or.inr ⟨by rfl, rfl⟩) (by assumption) ?_
      try simp only [Act.put, List.setIfInBounds_toArray, List.set_cons_zero, List.set_cons_succ]
      refine wpAnyH_take (i := 22) (v := undef) (gdrop rfl) (by kernel_rfl) (by kernel_rfl) (by kernel_rfl) (fun _ _ _ h => h) (Or.inr ⟨by rfl, rfl⟩) (by assumption) ?_
      try simp only [Act.put, List.setIfInBounds_toArray, List.set_cons_zero, List.set_cons_succ]
      refine wpAnyH_take (i := 23) (v := undef) (gdrop rfl) (by kernel_rfl) (by kernel_rfl) (by kernel_rfl) (fun _ _ _ h => h) (Or.inr ⟨by rfl, rfl⟩) (by assumption) ?_
      try simp only [Act.put, List.setIfInBounds_toArray, List.set_cons_zero, List.set_cons_succ]
      refine wpAnyH_take (i := 24) (v := undef) (gdrop rfl) (by kernel_rfl) (by kernel_rfl) (by kernel_rfl) (fun _ _ _ h => h) (Or.inr ⟨by rfl, rfl⟩) (by assumption) ?_
      try simp only [Act.put, List.setIfInBounds_toArray, List.set_cons_zero, List.set_cons_succ]
      refine wpAnyH_take (i := 25) (v := undef) (gdrop rfl) (by kernel_rfl) (by kernel_rfl) (by kernel_rfl) (fun _ _ _ h => h) (Or.inr ⟨by rfl, rfl⟩) (by assumption) ?_
      try simp only [Act.put, List.setIfInBounds_toArray, List.set_cons_zero, List.set_cons_succ]
      refine wpAnyH_take (i := 26) (v := undef) (gdrop rfl) (by kernel_rfl) (by kernel_rfl) (by kernel_rfl) (fun _ _ _ h => h) (Or.inr ⟨by rfl, rfl⟩) (by assumption) ?_
      try simp only [Act.put, List.setIfInBounds_toArray, List.set_cons_zero, List.set_cons_succ]
      refine wpAnyH_take (i := 27) (v := undef) (gdrop rfl) (by kernel_rfl) (by kernel_rfl) (by kernel_rfl) (fun _ _ _ h => h) (Or.inr ⟨by rfl, rfl⟩) (by assumption) ?_
      try simp only [Act.put, List.setIfInBounds_toArray, List.set_cons_zero, List.set_cons_succ]
      refine wpAnyH_take (i := 28) (v := undef) (gdrop rfl) (by kernel_rfl) (by kernel_rfl) (by kernel_rfl) (fun _ _ _ h => h) (Or.inr ⟨by rfl, rfl⟩) (by assumption) ?_
      try simp only [Act.put, List.setIfInBounds_toArray, List.set_cons_zero, List.set_cons_succ]
      refine wpAnyH_take (i := 29) (v := undef) (gdrop rfl) (by kernel_rfl) (by kernel_rfl) (by kernel_rfl) (fun _ _ _ h => h) (Or.inr ⟨by rfl, rfl⟩) (by assumption) ?_
      try simp only [Act.put, List.setIfInBounds_toArray, List.set_cons_zero, List.set_cons_succ]
      refine wpAnyH_take (i := 30) (v := undef) (gdrop rfl) (by kernel_rfl) (by kernel_rfl) (by kernel_rfl) (fun _ _ _ h => h) (Or.inr ⟨by rfl, rfl⟩) (by assumption) ?_
      try simp only [Act.put, List.setIfInBounds_toArray, List.set_cons_zero, List.set_cons_succ]
      refine wpAnyH_take (i := 31) (v := undef) (gdrop rfl) (by kernel_rfl) (by kernel_rfl) (by kernel_rfl) (fun _ _ _ h => h) (Or.inr ⟨by rfl, rfl⟩) (by assumption) ?_
      try simp only [Act.put, List.setIfInBounds_toArray, List.set_cons_zero, List.set_cons_succ]
      refine wpAnyH_take (i := 32) (v := ?_) (gdrop rfl) (by kernel_rfl) (by kernel_rfl) (by kernel_rfl) (fun _ _ _ h => h) (Or.inl ⟨by rfl, ?_⟩) (by assumption) ?_
      rotate_left 1
      focus (intro w hSw; (try dsimp only at hSw); go_simp; try (with_reducible rfl))
      try simp only [Act.put, List.setIfInBounds_toArray, List.set_cons_zero, List.set_cons_succ]
      refine wpAnyH_take (i := 33) (v := ?_) (gdrop rfl) (by kernel_rfl) (by kernel_rfl) (by kernel_rfl) (fun _ _ _ h => h) (Or.inl ⟨by rfl, ?_⟩) (by assumption) ?_
      rotate_left 1
      focus (intro w hSw; (try dsimp only at hSw); go_simp; try (with_reducible rfl))
      try simp only [Act.put, List.setIfInBounds_toArray, List.set_cons_zero, List.set_cons_succ]
      refine wpAnyH_done (by kernel_rfl) ?_ _
      have HBE := Lib.hid BE
      go_simp
      go_wp2
      go_meet
      case rel => exact ⟨by first | rfl | simp, HBE⟩
  case rest =>
  obtain ⟨rfl, HBC3⟩ := hcut
  obtain ⟨W6, hW6⟩ : ∃ X, X = wc := ⟨_, rfl⟩
  subst hW6
  have HB6 := Lib.hid (TR.out HB5.out HBC3.out)
  clear HA4 HQ7 HBC HBC2 HBC3 HRD HRE2
  obtain ⟨x0, x1, x2⟩ := HQA.out W6 HB6.out
  go_wp2_with fail
  refine (CTH.out W6 HB6.out HTK.out).mono ?_
  rintro e w7 ⟨bt_, bk_, bs_, rfl, hd7, hb7⟩
  obtain ⟨da, dc, has⟩ := hd7.tk.shape
  obtain ⟨ea, ec, hbs⟩ := hd7.ky.shape
  obtain ⟨fa, fc, hcs⟩ := hd7.sm.shape
  obtain ⟨dn, han⟩ : ∃ n, G.tk.length = n := ⟨_, rfl⟩
  obtain ⟨en, hbn⟩ : ∃ n, G.ky.length = n := ⟨_, rfl⟩
  obtain ⟨fn, hcn⟩ : ∃ n, G.sm.length = n := ⟨_, rfl⟩
  rw [han] at has
  rw [hbn] at hbs
  rw [hcn] at hcs
  subst has hbs hcs
  have hal : Below w7.heap.size w7 (w7.alloc (.cells #[.slice da dn dc, .slice ea en ec, .slice fa fn fc] 25)) := (Below.refl _ _).alloc (Nat.le_refl _) _
  have hrow := heap_alloc_new w7 (.cells #[.slice da dn dc, .slice ea en ec, .slice fa fn fc] 25)
  obtain ⟨V7, hV7⟩ : ∃ V, w7.alloc (.cells #[.slice da dn dc, .slice ea en ec, .slice fa fn fc] 25) = V := ⟨_, rfl⟩
  obtain ⟨g8, hg8⟩ : ∃ g, w7.heap.size = g := ⟨_, rfl⟩
  rw [hV7] at hal hrow
  rw [hg8] at hrow
  have HB7 := Lib.hid (TR.out HB6.out (TR.out hb7 hal))
  have HA7 : Hid (∀ V : World, Below V7.heap.size V7 V → Dv V (.slice da dn dc) (.slice ea en ec) (.slice fa fn fc) G) := fun V hV => hd7.below (TR.out hal hV)
  have HQ8 := Lib.hid (fun (V : World) (hV : Below V7.heap.size V7 V) => three_at ((hV.block g8 (heap_lt hrow)).trans hrow))
  have HV7 := Lib.hid hV7
  have HG8 := Lib.hid hg8
  clear hd7 hb7 han hbn hcn hal hrow hV7 hg8 x0 x1 x2 CTH
  go_upto_region 17 with (with_reducible refine wpList_store_new rfl _ _ rfl rfl rfl (by kernel_rfl) (by simp) (by simp [Value.oneCell']) ?_)
  rw [HV7.out, HG8.out]
  obtain ⟨x0, x1, x2⟩ := HQA.out V7 HB7.out
  have D2 := Lib.hid (CR2.out V7 HB7.out HTK.out)
  go_wp2_with fail
  refine D2.out.mono ?_
  rintro e w8 ⟨rfl, hb8⟩
  have HBV8 := Lib.hid hb8
  have HB8 := Lib.hid (TR.out HB7.out hb8)
  have HBF8 := Lib.hid (TR.out HB0.out HB8.out)
  clear hb8 D2 x0 x1 x2 CR2 CR1
  by_cases hbad : R = false ∨ gap < 0
  · have hF2 : F = 2 := by rw [HTE.out, if_pos hbad]
    have hGZ : G = dvz := by rw [HTD.out, hF2]; rfl
    have CSZ := Lib.hid (dvsame_yes (.slice da dn dc) (.slice ea en ec) (.slice fa fn fc) (.slice none 0 0) (.slice none 0 0) (.slice none 0 0) dvz w8 (by have := HA7.out w8 HBV8.out; rwa [hGZ] at this) (dv_zero w8))
    obtain ⟨u0, u1, u2⟩ := HQ8.out w8 HBV8.out
    have e5 : (F == 2) = true := by simpa using hF2
    clear hF2 hGZ
    cases R with
    | false =>
      clear hbad
      go_wp2_with fail
      refine CSZ.out.mono ?_
      rintro e w9 ⟨rfl, hb9⟩
      have HB9 := Lib.hid (TR.out HBF8.out hb9)
      clear hb9
      go_wp2
      go_ret
      exact ⟨rfl, HB9.out⟩
    | true =>
      have hg : gap < 0 := by
        rcases hbad with h | h
        · cases h
        · exact h
      clear hbad
      go_wp2_with fail
      refine CSZ.out.mono ?_
      rintro e w9 ⟨rfl, hb9⟩
      have HB9 := Lib.hid (TR.out HBF8.out hb9)
      clear hb9
      go_wp2
      go_ret
      exact ⟨rfl, HB9.out⟩
  obtain rfl : R = true := by
    cases R with
    | true => rfl
    | false => exact absurd (.inl rfl) hbad
  have hg : ¬ gap < 0 := fun h => hbad (.inr h)
  have hF0 : F = 0 := by rw [HTE.out, if_neg hbad]
  have HGG : Hid (G = ⟨d.tk, d.ky, sthin gap d.sm⟩) := by show _ = _; rw [HTD.out, if_pos hF0]
  have e5 : (F == 0) = true := by simpa using hF0
  have hdr := pB_iff.1 HRR.out
  have HMAY : Hid (∀ x ∈ d.sm, 0 ≤ x.t ∧ x.t ≤ 1099511627776) := fun x hx => by
    obtain ⟨i, hi⟩ := List.getElem?_of_mem hx
    have := (hdr.2.2.1 i x hi).1
    exact ⟨this.1, this.2.1⟩
  clear hbad hF0 hdr HTE HTD
  obtain ⟨x0, x1, x2⟩ := HQA.out w8 HB8.out
  go_wp2_with fail
  go_loopg [13, 14, 115] sn (fun qq vo vl vi wr => ∃ (k : Nat) (last : Int), qq = sn - k ∧ k ≤ sn ∧ vi = .int .i64 k ∧ vl = .int .i64 last ∧ Hid (0 ≤ last ∧ last ≤ 1099511627776) ∧ Hid (Gw 3 Smp.cells wr V7.heap.size 27 vo (sthin gap (d.sm.take k))) ∧ Hid (0 < k → ∃ p, (sthin gap (d.sm.take k)).getLast? = some p ∧ p.t = last) ∧ Hid (Below V7.heap.size V7 wr))
  case atStart => exact ⟨0, 0, by omega, by omega, rfl, rfl, ⟨by omega, by omega⟩, Gw.nil _ _ _, fun h => by omega, HBV8⟩
  case round =>
    obtain ⟨k, last, rfl, hk, rfl, rfl, HLA, HO, HLL, HBR⟩ := hrel
    clear x0 x1 x2
    have HBW : Hid (Below W.heap.size W wr) := TR.out HB7.out HBR.out
    obtain ⟨T, hT⟩ : ∃ T, sthin gap (d.sm.take k) = T := ⟨_, rfl⟩
    have hsnb : sn ≤ 200 := HS2.out
    have hTl : T.length ≤ 200 := by have := sthin_len gap (d.sm.take k); rw [hT, List.length_take] at this; have := HS2.out; omega
    rw [hT] at HO HLL
    obtain ⟨m, hm⟩ : ∃ m, T.length = m := ⟨_, rfl⟩
    obtain ⟨oa, oc, hos⟩ := HO.out.gs.shape
    rw [hm] at hos
    subst hos
    have HM := Lib.hid hm
    have HTL : Hid (m ≤ 200) := by rw [← hm]; exact hTl
    by_cases hlt : k < sn
    · have e1 : (k : Int) < sn := by omega
      obtain ⟨xx, hs⟩ : ∃ x, d.sm[k]? = some x := ⟨_, List.getElem?_eq_getElem (by rw [HSN.out]; exact hlt)⟩
      have hnx : sthin gap (d.sm.take (k + 1)) = tpush gap T xx := by rw [sthin_next hs, hT]
      have hsm := HMAY.out xx (List.mem_of_getElem? hs)
      obtain ⟨p0, p1, p2⟩ := HCE.out wr HBW.out k xx hs
      have hixk := fun W => HIX.out W (k : Int) (by omega) e1
      rw [show ((k : Int)).toNat = k by omega] at hixk
      obtain ⟨t, x, y⟩ := xx
      simp only at p0 p1 p2 hsm
      have hal : Below wr.heap.size wr (wr.alloc (.cells #[.int .i64 t, .int .i64 x, .int .i64 y] 27)) := (Below.refl _ _).alloc (Nat.le_refl _) _
      have hr4 : (wr.alloc (.cells #[.int .i64 t, .int .i64 x, .int .i64 y] 27)).heap[wr.heap.size]? = some (.cells #[.int .i64 t, .int .i64 x, .int .i64 y] 27 (0, 0)) := heap_alloc_new _ _
      obtain ⟨p, hp⟩ : ∃ p, wr.heap.size = p := ⟨_, rfl⟩
      obtain ⟨V1, hV1⟩ : ∃ V, wr.alloc (.cells #[.int .i64 t, .int .i64 x, .int .i64 y] 27) = V := ⟨_, rfl⟩
      rw [hV1] at hal hr4
      rw [hp] at hr4
      have HR4 := Lib.hid (fun (V : World) (hV : Below V1.heap.size V1 V) => three_at ((hV.block p (heap_lt hr4)).trans hr4))
      obtain ⟨y0, y1, y2⟩ := three_at hr4
      have HB1' : Hid (Below V7.heap.size V7 V1) := TR.out HBR.out hal
      have HO1 := Lib.hid (HO.out.below hal)
      have HPN : Hid (some p ≠ (Value.slice oa m oc).ownBlock) := fun e => by have := (HO.out.lt p e.symm).2; omega
      have HRA : Hid ((V1.alloc (.cells #[.int .i64 t, .int .i64 x, .int .i64 y] 27)).heap[p]? = some (.cells #[.int .i64 t, .int .i64 x, .int .i64 y] 27 (0, 0))) := ((bel_al (Below.refl _ _) _).block p (heap_lt hr4)).trans hr4
      have HV1 := Lib.hid hV1
      have HP := Lib.hid hp
      have HLTK := Lib.hid hlt
      have HNX := Lib.hid hnx
      have HSM1 := Lib.hid hsm
      have hla := HLA.out
      have hw1 : IntKind.i64.wrap (t - last) = t - last := by rw [IntKind.wrap_i64]; omega
      have hst : T = [] ∨ ∃ p, T.getLast? = some p ∧ p.t = last := by
        by_cases hk0 : 0 < k
        · exact .inr (HLL.out hk0)
        · left
          obtain rfl : k = 0 := by omega
          rw [← hT]; rfl
      have hk0T : k = 0 ↔ T = [] := by
        constructor
        · rintro rfl; rw [← hT]; rfl
        · intro h
          by_cases hk0 : 0 < k
          · obtain ⟨p, hp, -⟩ := HLL.out hk0
            rw [h] at hp
            cases hp
          · omega
      have hstep := tpush_last (gap := gap) (s := ⟨t, x, y⟩) hst
      have HSTEP := Lib.hid hstep
      have HK0T := Lib.hid hk0T
      clear hT hTl hm hs hnx hsm hlt hal hr4 hV1 hp hst hk0T hstep
      go_upto_region 24 with (with_reducible refine wpList_store_new rfl _ _ rfl rfl rfl (by kernel_rfl) (by simp) (by simp [Value.oneCell']) ?_)
      rw [HV1.out, HP.out]
      clear p0 p1 p2
      by_cases hyes : k = 0 ∨ gap ≤ t - last
      · have HF : Hid (sthin gap (d.sm.take (k + 1)) = T ++ [⟨t, x, y⟩]) := by
          show _ = _
          rw [HNX.out, HSTEP.out, if_pos (hyes.imp HK0T.out.1 id)]
        have HFL : Hid (0 < k + 1 → ∃ p, (sthin gap (d.sm.take (k + 1))).getLast? = some p ∧ p.t = t) := fun _ => ⟨⟨t, x, y⟩, by rw [HF.out]; simp, rfl⟩
        have hfin : ∀ w5 v5, Gw 3 Smp.cells w5 V7.heap.size 27 v5 (T ++ [⟨t, x, y⟩]) → Hid (Gw 3 Smp.cells w5 V7.heap.size 27 v5 (sthin gap (d.sm.take (k + 1)))) := fun w5 v5 h => by rw [HF.out]; exact h
        have HFIN := Lib.hid hfin
        clear hfin
        by_cases hk0 : k = 0
        · have e6 : ((k : Int) == 0) = true := by simp; omega
          clear hyes hk0
          go_wp2_with (at_builtin; go_must (refine wpList_append_gs layM (HO1.out.below (bel_al (Below.refl _ _) _)) (lit_smp V1 ⟨t, x, y⟩) elS (by rw [HM.out]; have := HTL.out; simp; omega) (by rw [HM.out]; have := HTL.out; simp; omega) (bel_al HB1'.out _).size ?_ _ _ rfl rfl rfl rfl); intro v5 w5 ho5 hg5 hb5 _; have HO5 := HFIN.out w5 v5 ho5; have HG5 := Lib.hid ((bel_al HB1'.out _).trans hb5); have hr5 := (hg5.block p (heap_lt HRA.out) HPN.out).trans HRA.out; clear y0 y1 y2; obtain ⟨y0, y1, y2⟩ := three_at hr5; clear ho5 hg5 hb5 hr5)
          go_roundg (sn - (k + 1))
          case rel => exact ⟨k + 1, t, rfl, by have := HLTK.out; omega, by go_num, rfl, HSM1, HO5, HFL, HG5⟩
          case measure => have := HLTK.out; omega
        · have e6 : ((k : Int) == 0) = false := by simp; omega
          have e7 : gap ≤ t - last := hyes.resolve_left hk0
          clear hyes hk0
          go_wp2_with (at_builtin; go_must (refine wpList_append_gs layM (HO1.out.below (bel_al (Below.refl _ _) _)) (lit_smp V1 ⟨t, x, y⟩) elS (by rw [HM.out]; have := HTL.out; simp; omega) (by rw [HM.out]; have := HTL.out; simp; omega) (bel_al HB1'.out _).size ?_ _ _ rfl rfl rfl rfl); intro v5 w5 ho5 hg5 hb5 _; have HO5 := HFIN.out w5 v5 ho5; have HG5 := Lib.hid ((bel_al HB1'.out _).trans hb5); have hr5 := (hg5.block p (heap_lt HRA.out) HPN.out).trans HRA.out; clear y0 y1 y2; obtain ⟨y0, y1, y2⟩ := three_at hr5; clear ho5 hg5 hb5 hr5)
          go_roundg (sn - (k + 1))
          case rel => exact ⟨k + 1, t, rfl, by have := HLTK.out; omega, by go_num, rfl, HSM1, HO5, HFL, HG5⟩
          case measure => have := HLTK.out; omega
      · have hk0 : ¬ k = 0 := fun h => hyes (.inl h)
        have e7 : ¬ gap ≤ t - last := fun h => hyes (.inr h)
        have e6 : ((k : Int) == 0) = false := by simp; omega
        have HF : Hid (sthin gap (d.sm.take (k + 1)) = T) := by
          show _ = _
          rw [HNX.out, HSTEP.out, if_neg (fun h => hyes (h.imp HK0T.out.2 id))]
        have HFL : Hid (0 < k + 1 → ∃ p, (sthin gap (d.sm.take (k + 1))).getLast? = some p ∧ p.t = last) := fun _ => by rw [HF.out]; exact HLL.out (by omega)
        clear hyes hk0
        go_wp2
        go_roundg (sn - (k + 1))
        case rel => exact ⟨k + 1, last, rfl, by have := HLTK.out; omega, by go_num, rfl, HLA, by rw [HF.out]; exact HO1, HFL, HB1'⟩
        case measure => have := HLTK.out; omega
    · obtain rfl : k = sn := by omega
      have e1 : ¬ (k : Int) < k := by omega
      have hTT : T = sthin gap d.sm := by rw [← hT, List.take_of_length_le (by rw [HSN.out]; exact Nat.le_refl _)]
      have hd := HH.out wr HBW.out
      have CS := Lib.hid (dvsame_yes (.slice da dn dc) (.slice ea en ec) (.slice fa fn fc) (.slice ta tn tc) (.slice ka kn kc) (.slice oa m oc) G wr (HA7.out wr HBR.out) (by
        rw [HGG.out]
        exact ⟨hd.tk, hd.ky, by show Gs 3 Smp.cells wr (.slice oa m oc) (sthin gap d.sm); rw [← hTT]; exact HO.out.gs⟩))
      obtain ⟨x0, x1, x2⟩ := HQA.out wr HBW.out
      obtain ⟨u0, u1, u2⟩ := HQ8.out wr HBR.out
      clear hT hTl hm hlt hTT hd
      go_wp2_with fail
      refine CS.out.mono ?_
      rintro e w9 ⟨rfl, hb9⟩
      have HB9 := Lib.hid (TR.out (TR.out HB0.out HBW.out) hb9)
      clear hb9
      go_wp2
      go_ret
      exact ⟨rfl, HB9.out⟩
end Go.Proofs.YtjnbdeopoohnmaaDoor
