/- Layer 48 (device): DeviceAsks: what a device uploads, and answers. -/
import Derived.Test.YtjnbdeopoohnmaaGreatDoorDa1
import Derived.Deep.RegionLaw
import Derived.Deep.RegionHeld3
import Derived.Deep.DeepCutAuto
import Derived.Deep.CutBlock
import Derived.Lib.QuietBelow
import Derived.Lib.SliceRun
set_option linter.unusedSimpArgs false
set_option linter.unusedVariables false
namespace Go.Proofs.YtjnbdeopoohnmaaGreatDoor
open Go.RowKit Go.Sort

theorem al3 (w : World) (o1 o2 o3 : Obj) : Below w.heap.size w (((w.alloc o1).alloc o2).alloc o3) ∧ (((w.alloc o1).alloc o2).alloc o3).heap[w.heap.size]? = some o1 ∧ (((w.alloc o1).alloc o2).alloc o3).heap[w.heap.size + 1]? = some o2 ∧ (((w.alloc o1).alloc o2).alloc o3).heap[w.heap.size + 2]? = some o3 := by
  obtain ⟨h1, h2, h3⟩ := al2 w o1 o2
  have hb : Below ((w.alloc o1).alloc o2).heap.size ((w.alloc o1).alloc o2) (((w.alloc o1).alloc o2).alloc o3) := (Below.refl _ _).alloc (Nat.le_refl _) _
  refine ⟨h1.trans (hb.mono h1.size), (hb.block _ (heap_lt h2)).trans h2, (hb.block _ (heap_lt h3)).trans h3, ?_⟩
  have := heap_alloc_new ((w.alloc o1).alloc o2) o3
  rwa [show ((w.alloc o1).alloc o2).heap.size = w.heap.size + 2 by simp] at this
theorem opsame_self (o : OpD) : opSame o o = true := by unfold opSame; simp

set_option maxRecDepth 100000 in
set_option maxHeartbeats 6400000 in
theorem deviceasks_walk (keep : Int) (v : Value) (l : List RK) (vt vk vs : Value) (d : DvD) (vq : Value) (qs : List UInt8) (now : Int) (w : World) (h : Ks w v l) (hd : Dv w vt vk vs d) (hq : Bs w vq qs) (hT : Tabbed w) :
    Calls Tryz.prog 3 #[.agg #[.int .i64 keep, v], .agg #[vt, vk, vs], .agg #[vq, .int .i64 now]] w fun e w' => e = .returned (.bool true) ∧ Below w.heap.size w w' := by
  obtain ⟨q, hqq⟩ : ∃ q, w.heap.size = q := ⟨_, rfl⟩
  obtain ⟨hb0, hrA, hrB, hrC⟩ := al3 w (.cells #[.int .i64 keep, v] 24) (.cells #[vt, vk, vs] 28) (.cells #[vq, .int .i64 now] 30)
  obtain ⟨W, hW⟩ : ∃ W, ((w.alloc (.cells #[.int .i64 keep, v] 24)).alloc (.cells #[vt, vk, vs] 28)).alloc (.cells #[vq, .int .i64 now] 30) = W := ⟨_, rfl⟩
  rw [hW] at hb0 hrA hrB hrC
  rw [hqq] at hrA hrB hrC
  have TR : Hid (∀ {V1 V2 V3 : World}, Below V1.heap.size V1 V2 → Below V2.heap.size V2 V3 → Below V1.heap.size V1 V3) := fun h1 h2 => h1.trans (h2.mono h1.size)
  have HB0 := Lib.hid hb0
  have HKK : Hid (∀ V : World, Below W.heap.size W V → Ks V v l) := fun V hV => h.below (TR.out hb0 hV)
  have HDD : Hid (∀ V : World, Below W.heap.size W V → Dv V vt vk vs d) := fun V hV => hd.below (TR.out hb0 hV)
  have HQQ : Hid (∀ V : World, Below W.heap.size W V → Bs V vq qs) := fun V hV => hq.below (TR.out hb0 hV)
  have HTT : Hid (∀ V : World, Below W.heap.size W V → Tabbed V) := fun V hV => hT.below (TR.out hb0 hV)
  have HRA := Lib.hid (fun (V : World) (hV : Below W.heap.size W V) => two_at ((hV.block q (heap_lt hrA)).trans hrA))
  have HRB := Lib.hid (fun (V : World) (hV : Below W.heap.size W V) => three_at ((hV.block (q + 1) (heap_lt hrB)).trans hrB))
  have HRC := Lib.hid (fun (V : World) (hV : Below W.heap.size W V) => two_at ((hV.block (q + 2) (heap_lt hrC)).trans hrC))
  have CA := Lib.hid (dvawake_any W (hT.below hb0))
  have CF := Lib.hid (fun V (hV : Below W.heap.size W V) => dvfew_any vt vk vs d V (HDD.out V hV))
  obtain ⟨n, hn⟩ : ∃ n, l.length = n := ⟨_, rfl⟩
  obtain ⟨a, c, b, o, hvs, h1, h2, hix, hlt', hcell, -⟩ := h.g.open_n layK elK n hn
  obtain ⟨ta, tc, hts⟩ := hd.tk.shape
  obtain ⟨ka, kc, hks⟩ := hd.ky.shape
  obtain ⟨sa, sc, hss⟩ := hd.sm.shape
  obtain ⟨qa, qc, hqs⟩ := hq.shape
  obtain ⟨tn, htn⟩ : ∃ n, d.tk.length = n := ⟨_, rfl⟩
  obtain ⟨kn, hkn⟩ : ∃ n, d.ky.length = n := ⟨_, rfl⟩
  obtain ⟨sn, hsn⟩ : ∃ n, d.sm.length = n := ⟨_, rfl⟩
  obtain ⟨qn, hqn⟩ : ∃ n, qs.length = n := ⟨_, rfl⟩
  rw [htn] at hts
  rw [hkn] at hks
  rw [hsn] at hss
  rw [hqn] at hqs
  subst hvs hts hks hss hqs
  have HN := Lib.hid hn
  have HTN := Lib.hid htn
  have HKN := Lib.hid hkn
  have HSN := Lib.hid hsn
  have HQN := Lib.hid hqn
  have HIX := Lib.hid hix
  have HCE : Hid (∀ V : World, Below W.heap.size W V → ∀ i x, l[i]? = some x → V.cell? ⟨b, o i, none⟩ = some (.int .i64 x.ep) ∧ V.cell? ⟨b, o i + 1, none⟩ = some x.v) := fun V hV i x hi => by
    have hb := TR.out hb0 hV
    have hl := hlt' i (by rw [← hn]; exact (List.getElem?_eq_some_iff.1 hi).1)
    exact ⟨(hb.cell (by exact hl)).trans (hcell i x hi 0 _ rfl), (hb.cell (by exact hl)).trans (hcell i x hi 1 _ rfl)⟩
  obtain ⟨fw, hfw⟩ : ∃ b, pB (DFew d) = b := ⟨_, rfl⟩
  rw [hfw] at CF
  have HFW := Lib.hid hfw
  obtain ⟨x0, x1, x2⟩ := HRB.out W (Below.refl _ _)
  clear h hd hq hT hb0 hrA hrB hrC hn hix hlt' hcell htn hkn hsn hqn hfw
  go_enter Tryz.func3, Tryz.ntmps3
  go_wp2_with fail
  refine CA.out.mono ?_
  rintro e w1 ⟨rfl, hb1⟩
  have HB1 := Lib.hid hb1
  clear hb1 CA x0 x1 x2
  obtain ⟨x0, x1, x2⟩ := HRB.out w1 HB1.out
  go_wp2_with fail
  refine (CF.out w1 HB1.out).mono ?_
  rintro e w2 ⟨rfl, hb2⟩
  have HB2 := Lib.hid (TR.out HB1.out hb2)
  have HBF : Hid (Below w.heap.size w w2) := TR.out HB0.out HB2.out
  clear hb2 CF x0 x1 x2
  obtain ⟨y0, y1⟩ := HRA.out w2 HB2.out
  obtain ⟨z0, z1⟩ := HRC.out w2 HB2.out
  cases fw with
  | false =>
    go_wp2
    go_ret
    exact ⟨rfl, HBF.out⟩
  | true =>
  have hfew := pB_iff.1 HFW.out
  have HTK : Hid (d.tk.length ≤ 500) := hfew.1
  have HS2 : Hid (sn ≤ 200) := by have := hfew.2.2; rw [HSN.out] at this; exact this
  clear hfew
  by_cases hq1 : 100 < qn
  · have e1 : (100 : Int) < qn := by omega
    clear hq1
    go_wp2
    go_ret
    exact ⟨rfl, HBF.out⟩
  have e1 : ¬ (100 : Int) < qn := by omega
  by_cases hn1 : 30 < n
  · have e2 : (30 : Int) < n := by omega
    clear hq1 hn1
    go_wp2
    go_ret
    exact ⟨rfl, HBF.out⟩
  have e2 : ¬ (30 : Int) < n := by omega
  have hn30 : n ≤ 30 := by omega
  have HQ100 : Hid (qs.length ≤ 100) := by show _ ≤ _; rw [HQN.out]; omega
  clear hq1 hn1
  go_wp2_with fail
  go_loopg [39] n (fun qq vi wr => ∃ k : Nat, qq = n - k ∧ k ≤ n ∧ vi = .int .i64 k ∧ Hid (∀ i x, i < k → l[i]? = some x → x.b.length ≤ 100) ∧ Hid (Below W.heap.size W wr))
  case atStart => exact ⟨0, by omega, by omega, rfl, fun i x hi => by omega, HB2⟩
  case round =>
    obtain ⟨k, rfl, hk, rfl, HP, HBR⟩ := hrel
    clear y0 y1 z0 z1
    by_cases hlt : k < n
    · have e3 : (k : Int) < n := by omega
      obtain ⟨x, hx⟩ : ∃ s, l[k]? = some s := ⟨_, List.getElem?_eq_getElem (by rw [HN.out]; exact hlt)⟩
      obtain ⟨p0, p1⟩ := HCE.out wr HBR.out k x hx
      have hixk := fun W => HIX.out W k hlt
      obtain ⟨xe, xa, xc, xb⟩ := x
      unfold RK.v at p1
      simp only at p0 p1
      obtain ⟨bn, hbn⟩ : ∃ n, xb.length = n := ⟨_, rfl⟩
      rw [hbn] at p1
      have hal : Below wr.heap.size wr (wr.alloc (.cells #[.int .i64 xe, .slice xa bn xc] 34)) := (Below.refl _ _).alloc (Nat.le_refl _) _
      have hr4 : (wr.alloc (.cells #[.int .i64 xe, .slice xa bn xc] 34)).heap[wr.heap.size]? = some (.cells #[.int .i64 xe, .slice xa bn xc] 34 (0, 0)) := heap_alloc_new _ _
      obtain ⟨p, hp⟩ : ∃ p, wr.heap.size = p := ⟨_, rfl⟩
      obtain ⟨V1, hV1⟩ : ∃ V, wr.alloc (.cells #[.int .i64 xe, .slice xa bn xc] 34) = V := ⟨_, rfl⟩
      rw [hV1] at hal hr4
      rw [hp] at hr4
      have HB1' := Lib.hid (TR.out HBR.out hal)
      have HBF1 := Lib.hid (TR.out HB0.out HB1'.out)
      obtain ⟨y0, y1⟩ := two_at hr4
      have HV1 := Lib.hid hV1
      have HPP := Lib.hid hp
      have HLT := Lib.hid hlt
      have HX := Lib.hid hx
      have HBN := Lib.hid hbn
      clear hx hbn hal hr4 hV1 hp hlt
      go_upto_region 8 with (with_reducible refine wpList_store_new rfl _ _ rfl rfl rfl (by kernel_rfl) (by simp) (by simp [Value.oneCell']) ?_)
      rw [HV1.out, HPP.out]
      clear p0 p1
      by_cases hbig : 100 < bn
      · have e4 : (100 : Int) < bn := by omega
        clear hbig
        go_wp2
        go_ret
        exact ⟨rfl, by first | exact HBF1.out | (rw [← hqq]; exact HBF1.out)⟩
      · have e4 : ¬ (100 : Int) < bn := by omega
        have HP2 : Hid (∀ i x, i < k + 1 → l[i]? = some x → x.b.length ≤ 100) := fun i x hi hx => by
          by_cases hik : i < k
          · exact HP.out i x hik hx
          · have hik2 : i = k := by omega
            rw [hik2] at hx
            have := Option.some.inj (HX.out.symm.trans hx)
            subst this
            show xb.length ≤ 100
            rw [HBN.out]
            omega
        clear hbig
        go_wp2
        go_roundg (n - (k + 1))
        case rel => exact ⟨k + 1, rfl, by have := HLT.out; omega, by go_num, HP2, HB1'⟩
        case measure => have := HLT.out; omega
    · obtain rfl : k = n := by omega
      have e3 : ¬ (k : Int) < k := by omega
      have HSM : Hid (∀ x ∈ l, x.b.length ≤ 1000000) := fun x hx => by
        obtain ⟨i, hi⟩ := List.getElem?_of_mem hx
        have := HP.out i x (by have := (List.getElem?_eq_some_iff.1 hi).1; have := HN.out; omega) hi
        omega
      obtain ⟨y0, y1⟩ := HRA.out wr HBR.out
      obtain ⟨x0, x1, x2⟩ := HRB.out wr HBR.out
      have CN := Lib.hid (dvnew_any keep (.slice a k c) l (.slice ta tn tc) d.tk wr (HKK.out wr HBR.out) (HDD.out wr HBR.out).tk (by have := HTK.out; omega) HSM.out (HTT.out wr HBR.out))
      unfold DvNewPost at CN
      have HND : Hid (newD l d.tk = if (cdev l d.tk).2 = 0 then ⟨d.tk, (cdev l d.tk).1, []⟩ else dvz) := rfl
      have CD := Lib.hid (fun V (hV : Below W.heap.size W V) => vdevice_any keep (.slice a k c) l (.slice ta tn tc) d.tk V (HKK.out V hV) (HDD.out V hV).tk (by have := HTK.out; omega) HSM.out)
      unfold DevPost at CD
      obtain ⟨⟨ky, e0⟩, hce⟩ : ∃ x, cdev l d.tk = x := ⟨_, rfl⟩
      rw [hce] at CN CD HND
      simp only at CN CD HND
      obtain ⟨Z, hZ⟩ : ∃ z : Int, (e0 : Int) = z := ⟨_, rfl⟩
      have HNZ : Hid (newD l d.tk = if Z = 0 then ⟨d.tk, ky, []⟩ else dvz) := by
        show _ = _
        rw [HND.out]
        by_cases h0 : e0 = 0
        · rw [if_pos h0, if_pos (by omega)]
        · rw [if_neg h0, if_neg (by omega)]
      clear HND
      rw [hZ] at CN CD
      obtain ⟨D, hD⟩ : ∃ D, newD l d.tk = D := ⟨_, rfl⟩
      rw [hD] at HNZ CN
      clear hce hD hZ hlt HP HIX HCE
      go_wp2_with fail
      refine CN.out.mono ?_
      rintro e w3 ⟨at_, ak, as_, rfl, hd3, hb3⟩
      obtain ⟨aa, ac, has⟩ := hd3.tk.shape
      obtain ⟨ba, bc, hbs⟩ := hd3.ky.shape
      obtain ⟨ca, cc, hcs⟩ := hd3.sm.shape
      obtain ⟨an, han⟩ : ∃ n, D.tk.length = n := ⟨_, rfl⟩
      obtain ⟨bn, hbn⟩ : ∃ n, D.ky.length = n := ⟨_, rfl⟩
      obtain ⟨cn, hcn⟩ : ∃ n, D.sm.length = n := ⟨_, rfl⟩
      rw [han] at has
      rw [hbn] at hbs
      rw [hcn] at hcs
      subst has hbs hcs
      have hal : Below w3.heap.size w3 (w3.alloc (.cells #[.slice aa an ac, .slice ba bn bc, .slice ca cn cc] 28)) := (Below.refl _ _).alloc (Nat.le_refl _) _
      have hrow := heap_alloc_new w3 (.cells #[.slice aa an ac, .slice ba bn bc, .slice ca cn cc] 28)
      obtain ⟨V3, hV3⟩ : ∃ V, w3.alloc (.cells #[.slice aa an ac, .slice ba bn bc, .slice ca cn cc] 28) = V := ⟨_, rfl⟩
      obtain ⟨g7, hg7⟩ : ∃ g, w3.heap.size = g := ⟨_, rfl⟩
      rw [hV3] at hal hrow
      rw [hg7] at hrow
      have HB3 := Lib.hid (TR.out HBR.out (TR.out hb3 hal))
      have HA3 : Hid (∀ V : World, Below V3.heap.size V3 V → Dv V (.slice aa an ac) (.slice ba bn bc) (.slice ca cn cc) D) := fun V hV => hd3.below (TR.out hal hV)
      have HQ7 := Lib.hid (fun (V : World) (hV : Below V3.heap.size V3 V) => three_at ((hV.block g7 (heap_lt hrow)).trans hrow))
      have HV3 := Lib.hid hV3
      have HG7 := Lib.hid hg7
      clear hd3 hb3 han hbn hcn hal hrow hV3 hg7 x0 x1 x2 y0 y1 CN
      go_upto_region 12 with (with_reducible refine wpList_store_new rfl _ _ rfl rfl rfl (by kernel_rfl) (by simp) (by simp [Value.oneCell']) ?_)
      rw [HV3.out, HG7.out]
      obtain ⟨y0, y1⟩ := HRA.out V3 HB3.out
      obtain ⟨x0, x1, x2⟩ := HRB.out V3 HB3.out
      go_wp2_with fail
      refine (CD.out V3 HB3.out).mono ?_
      rintro e w4 ⟨v4, rfl, hv4, hb4⟩
      have HBV4 := Lib.hid hb4
      have HB4 := Lib.hid (TR.out HB3.out hb4)
      have HV4 := Lib.hid hv4
      obtain ⟨ya, yc, rfl⟩ := hv4.shape
      obtain ⟨yn, hyn⟩ : ∃ n, ky.length = n := ⟨_, rfl⟩
      rw [hyn] at HV4 ⊢
      clear hv4 hb4 hyn CD x0 x1 x2 y0 y1
      obtain ⟨x0, x1, x2⟩ := HRB.out w4 HB4.out
      obtain ⟨u0, u1, u2⟩ := HQ7.out w4 HBV4.out
      go_upto_region 13 with fail
      go_cut [87] (fun c wx => c = .bool false ∧ Hid (Below W.heap.size W wx))
      case first =>
        by_cases hz : Z = 0
        · subst hz
          have hD := HNZ.out
          rw [if_pos rfl] at hD
          have CS := Lib.hid (dvsame_yes (.slice aa an ac) (.slice ba bn bc) (.slice ca cn cc) (.slice ta tn tc) (.slice ya yn yc) (.slice none 0 0) D w4 (HA3.out w4 HBV4.out) (by rw [hD]; exact ⟨(HDD.out w4 HB4.out).tk, HV4.out, Rd.nil _ _⟩))
          clear hD
          go_wp2_with fail
          refine CS.out.mono ?_
          rintro e w5 ⟨rfl, hb5⟩
          have HB5 := Lib.hid (TR.out HB4.out hb5)
          clear hb5
          go_wp2
          go_meet
          case rel => exact ⟨rfl, HB5⟩
        · have hD := HNZ.out
          rw [if_neg hz] at hD
          have e5 : (Z != Z) = false := by simp
          have e6 : (Z == 0) = false := by simp [hz]
          have e7 : (Z != 0) = true := by simp [hz]
          have CS := Lib.hid (dvsame_yes (.slice aa an ac) (.slice ba bn bc) (.slice ca cn cc) (.slice none 0 0) (.slice none 0 0) (.slice none 0 0) D w4 (HA3.out w4 HBV4.out) (by rw [hD]; exact dv_zero _))
          clear hD
          go_wp2_with fail
          refine CS.out.mono ?_
          rintro e w5 ⟨rfl, hb5⟩
          have HB5 := Lib.hid (TR.out HB4.out hb5)
          clear hb5
          go_wp2
          go_meet
          case rel => exact ⟨rfl, HB5⟩
      case rest =>
      obtain ⟨rfl, HBC⟩ := hcut
      obtain ⟨w5, hw5⟩ : ∃ X, X = wc := ⟨_, rfl⟩
      subst hw5
      clear HNZ HQ7 HA3 HV3 HG7 HBV4 HB4 HV4 HB3 x0 x1 x2 u0 u1 u2
      obtain ⟨x0, x1, x2⟩ := HRB.out w5 HBC.out
      have HT1 : Hid (d.tk.length ≤ 1048576) := by have := HTK.out; show _ ≤ _; omega
      have CR := Lib.hid (fun V (hV : Below W.heap.size W V) => dvlright_any (.slice ta tn tc) (.slice ka kn kc) (.slice sa sn sc) d V (HDD.out V hV) HT1.out)
      have CU := Lib.hid (fun V (hV : Below W.heap.size W V) => dvupload_any (.slice ta tn tc) (.slice ka kn kc) (.slice sa sn sc) d V (HDD.out V hV) HT1.out)
      have CAN := Lib.hid (fun V (hV : Below W.heap.size W V) => dvanswer_any (.slice ta tn tc) (.slice ka kn kc) (.slice sa sn sc) d (.slice qa qn qc) qs now V (HDD.out V hV) HT1.out (HQQ.out V hV) (HTT.out V hV))
      unfold UpPost at CU
      unfold AnsPost at CAN
      obtain ⟨R, hR⟩ : ∃ R, pB (DRight d) = R := ⟨_, rfl⟩
      have HRR := Lib.hid hR
      obtain ⟨M, hM⟩ : ∃ R, cmay qs now = R := ⟨_, rfl⟩
      have HMM := Lib.hid hM
      have HUO : Hid (upO d = if R = true then ⟨3, 0, 0, 0, d.tk, tbytes d.sm, []⟩ else ⟨0, 0, 0, 0, [], [], []⟩) := by show _ = _; rw [← hR]; rfl
      have HUE : Hid (upE d = if R = true then 0 else 2) := by show _ = _; rw [← hR]; rfl
      have HAE : Hid (ansE d qs now = if R = true ∧ M = true then 0 else 2) := by show _ = _; rw [← hR, ← hM]; rfl
      have HAB : Hid (ansB d qs now = if R = true ∧ M = true then cans d.ky qs now else []) := by show _ = _; rw [← hR, ← hM]; rfl
      rw [hR] at CR
      clear hR hM
      cases R with
      | false =>
        have hue : upE d = 2 := HUE.out
        have huo : upO d = ⟨0, 0, 0, 0, [], [], []⟩ := HUO.out
        have hae : ansE d qs now = 2 := by rw [HAE.out]; simp
        have hab : ansB d qs now = [] := by rw [HAB.out]; simp
        rw [hue, huo] at CU
        rw [hae, hab] at CAN
        dsimp only [OpD.agg] at CU
        clear HUE HUO HAE HAB hue huo hae hab
        go_wp2_with fail
        refine (CU.out w5 HBC.out).mono ?_
        rintro e w6 ⟨va, vb, vc, rfl, ⟨ha, hb, hc⟩, hb6⟩
        obtain ⟨a1, c1, s1⟩ := ha.shape
        obtain ⟨a2, c2, s2⟩ := hb.shape
        obtain ⟨a3, c3, s3⟩ := hc.shape
        rw [List.length_nil] at s1 s2 s3
        subst s1 s2 s3
        have hal : Below w6.heap.size w6 (w6.alloc (.cells #[.int .i64 0, .int .i64 0, .int .i64 0, .int .i64 0, .slice a1 0 c1, .slice a2 0 c2, .slice a3 0 c3] 43)) := (Below.refl _ _).alloc (Nat.le_refl _) _
        have hrow := heap_alloc_new w6 (.cells #[.int .i64 0, .int .i64 0, .int .i64 0, .int .i64 0, .slice a1 0 c1, .slice a2 0 c2, .slice a3 0 c3] 43)
        obtain ⟨V6, hV6⟩ : ∃ V, w6.alloc (.cells #[.int .i64 0, .int .i64 0, .int .i64 0, .int .i64 0, .slice a1 0 c1, .slice a2 0 c2, .slice a3 0 c3] 43) = V := ⟨_, rfl⟩
        obtain ⟨g8, hg8⟩ : ∃ g, w6.heap.size = g := ⟨_, rfl⟩
        rw [hV6] at hal hrow
        rw [hg8] at hrow
        have HB6 := Lib.hid (TR.out HBC.out (TR.out hb6 hal))
        have HP1 := Lib.hid (fun (V : World) (hV : Below V6.heap.size V6 V) => seven_at ((hV.block g8 (heap_lt hrow)).trans hrow))
        have HO1 : Hid (∀ V : World, Below V6.heap.size V6 V → Bs V (.slice a1 0 c1) [] ∧ Bs V (.slice a2 0 c2) [] ∧ Bs V (.slice a3 0 c3) []) := fun V hV => ⟨ha.below (TR.out hal hV), hb.below (TR.out hal hV), hc.below (TR.out hal hV)⟩
        have HV6 := Lib.hid hV6
        have HG8 := Lib.hid hg8
        clear ha hb hc hb6 hal hrow hV6 hg8 x0 x1 x2 CU
        go_upto_region 16 with (with_reducible refine wpList_store_new rfl _ _ rfl rfl rfl (by kernel_rfl) (by simp) (by simp [Value.oneCell']) ?_)
        rw [HV6.out, HG8.out]
        obtain ⟨x0, x1, x2⟩ := HRB.out V6 HB6.out
        obtain ⟨z0, z1⟩ := HRC.out V6 HB6.out
        go_wp2_with fail
        refine (CAN.out V6 HB6.out).mono ?_
        rintro e w7 ⟨v7, rfl, hv7, hb7⟩
        obtain ⟨a4, c4, s4⟩ := hv7.shape
        rw [List.length_nil] at s4
        subst s4
        have HB7 := Lib.hid (TR.out HB6.out hb7)
        have HB67 := Lib.hid hb7
        clear hv7 hb7 x0 x1 x2 z0 z1 CAN
        obtain ⟨x0, x1, x2⟩ := HRB.out w7 HB7.out
        go_wp2_with fail
        refine (CR.out w7 HB7.out).mono ?_
        rintro e w8 ⟨rfl, hb8⟩
        have HB8 := Lib.hid (TR.out HB7.out hb8)
        have HB68 := Lib.hid (TR.out HB67.out hb8)
        clear hb8 x0 x1 x2 CR
        obtain ⟨m0, m1, m2, m3, m4, m5, m6⟩ := HP1.out w8 HB68.out
        have CS := Lib.hid (ropSame_any ⟨0, 0, 0, 0, [], [], []⟩ ⟨0, 0, 0, 0, [], [], []⟩ (.slice a1 0 c1) (.slice a2 0 c2) (.slice a3 0 c3) (.slice none 0 0) (.slice none 0 0) (.slice none 0 0) w8 (HO1.out w8 HB68.out).1 (HO1.out w8 HB68.out).2.1 (HO1.out w8 HB68.out).2.2 (Rd.nil _ _) (Rd.nil _ _) (Rd.nil _ _))
        rw [opsame_self] at CS
        dsimp only [OpD.agg] at CS
        go_wp2_with fail
        refine CS.out.mono ?_
        rintro e w9 ⟨rfl, hb9⟩
        have HB9 := Lib.hid (TR.out HB8.out hb9)
        have HBF9 := Lib.hid (TR.out HB0.out HB9.out)
        clear hb9
        go_wp2
        go_ret
        exact ⟨rfl, by first | exact HBF9.out | (rw [← hqq]; exact HBF9.out)⟩
      | true =>
        have hue : upE d = 0 := HUE.out
        have huo : upO d = ⟨3, 0, 0, 0, d.tk, tbytes d.sm, []⟩ := HUO.out
        have hdr := pB_iff.1 HRR.out
        have HK32 : Hid (d.ky.length < 4294967296) := by have := hdr.2.1; show _ < _; omega
        have CPP : Hid (∀ V, Below W.heap.size W V → Calls Tryz.prog 14 #[.slice sa sn sc] V fun e w' => ∃ v, e = .returned (.tuple #[v, .int .i64 0]) ∧ Ob w' V.heap.size 5 v (tbytes d.sm) ∧ Below V.heap.size V w') := by
          intro V hV
          refine (rtput_any (.slice sa sn sc) d.sm V (HDD.out V hV).sm).mono fun e w' hp => ?_
          unfold TPutPost at hp
          rw [if_neg (by have := hdr.2.2.2; omega)] at hp
          rcases hp with ⟨-, hp⟩ | ⟨hn, -⟩
          · exact hp
          · exact absurd hdr.2.2.1 hn
        rw [hue, huo] at CU
        dsimp only [OpD.agg] at CU
        obtain ⟨E, hE⟩ : ∃ E, ansE d qs now = E := ⟨_, rfl⟩
        obtain ⟨A, hA⟩ : ∃ E, ansB d qs now = E := ⟨_, rfl⟩
        rw [hE] at HAE CAN
        rw [hA] at HAB CAN
        obtain ⟨an, han⟩ : ∃ n, A.length = n := ⟨_, rfl⟩
        have HAN := Lib.hid han
        obtain ⟨bn, hbn⟩ : ∃ n, (tbytes d.sm).length = n := ⟨_, rfl⟩
        have HBN := Lib.hid hbn
        clear HUE HUO hue huo hE hA hdr han hbn
        go_wp2_with fail
        refine (CU.out w5 HBC.out).mono ?_
        rintro e w6 ⟨va, vb, vc, rfl, ⟨ha, hb, hc⟩, hb6⟩
        obtain ⟨a1, c1, s1⟩ := ha.shape
        obtain ⟨a2, c2, s2⟩ := hb.shape
        obtain ⟨a3, c3, s3⟩ := hc.shape
        rw [HTN.out] at s1
        rw [HBN.out] at s2
        rw [List.length_nil] at s3
        subst s1 s2 s3
        have hal : Below w6.heap.size w6 (w6.alloc (.cells #[.int .i64 3, .int .i64 0, .int .i64 0, .int .i64 0, .slice a1 tn c1, .slice a2 bn c2, .slice a3 0 c3] 43)) := (Below.refl _ _).alloc (Nat.le_refl _) _
        have hrow := heap_alloc_new w6 (.cells #[.int .i64 3, .int .i64 0, .int .i64 0, .int .i64 0, .slice a1 tn c1, .slice a2 bn c2, .slice a3 0 c3] 43)
        obtain ⟨V6, hV6⟩ : ∃ V, w6.alloc (.cells #[.int .i64 3, .int .i64 0, .int .i64 0, .int .i64 0, .slice a1 tn c1, .slice a2 bn c2, .slice a3 0 c3] 43) = V := ⟨_, rfl⟩
        obtain ⟨g8, hg8⟩ : ∃ g, w6.heap.size = g := ⟨_, rfl⟩
        rw [hV6] at hal hrow
        rw [hg8] at hrow
        have HB6 := Lib.hid (TR.out HBC.out (TR.out hb6 hal))
        have HP1 := Lib.hid (fun (V : World) (hV : Below V6.heap.size V6 V) => seven_at ((hV.block g8 (heap_lt hrow)).trans hrow))
        have HO1 : Hid (∀ V : World, Below V6.heap.size V6 V → Bs V (.slice a1 tn c1) d.tk ∧ Bs V (.slice a2 bn c2) (tbytes d.sm) ∧ Bs V (.slice a3 0 c3) []) := fun V hV => ⟨ha.below (TR.out hal hV), hb.below (TR.out hal hV), hc.below (TR.out hal hV)⟩
        have HV6 := Lib.hid hV6
        have HG8 := Lib.hid hg8
        clear ha hb hc hb6 hal hrow hV6 hg8 x0 x1 x2 CU
        go_upto_region 16 with (with_reducible refine wpList_store_new rfl _ _ rfl rfl rfl (by kernel_rfl) (by simp) (by simp [Value.oneCell']) ?_)
        rw [HV6.out, HG8.out]
        obtain ⟨x0, x1, x2⟩ := HRB.out V6 HB6.out
        obtain ⟨z0, z1⟩ := HRC.out V6 HB6.out
        go_wp2_with fail
        refine (CAN.out V6 HB6.out).mono ?_
        rintro e w7 ⟨v7, rfl, hv7, hb7⟩
        have HV7 := Lib.hid hv7
        obtain ⟨a4, c4, s4⟩ := hv7.shape
        rw [HAN.out] at s4
        subst s4
        have HB7 := Lib.hid (TR.out HB6.out hb7)
        have HB67 := Lib.hid hb7
        clear hv7 hb7 x0 x1 x2 z0 z1 CAN
        obtain ⟨x0, x1, x2⟩ := HRB.out w7 HB7.out
        go_wp2_with fail
        refine (CR.out w7 HB7.out).mono ?_
        rintro e w8 ⟨rfl, hb8⟩
        have HB8 := Lib.hid (TR.out HB7.out hb8)
        have HB68 := Lib.hid (TR.out HB67.out hb8)
        have HV8 := Lib.hid (HV7.out.below hb8)
        clear hb8 x0 x1 x2 CR
        obtain ⟨x0, x1, x2⟩ := HRB.out w8 HB8.out
        go_wp2_with fail
        refine (CPP.out w8 HB8.out).mono ?_
        rintro e w9 ⟨v9, rfl, ho9, hb9⟩
        have HT9 := Lib.hid ho9.bs
        obtain ⟨a5, c5, s5⟩ := ho9.shape
        rw [HBN.out] at s5
        subst s5
        have HB9 := Lib.hid (TR.out HB8.out hb9)
        have HB69 := Lib.hid (TR.out HB68.out hb9)
        have HV9 := Lib.hid (HV8.out.below hb9)
        clear hb9 ho9 x0 x1 x2 CPP
        obtain ⟨x0, x1, x2⟩ := HRB.out w9 HB9.out
        obtain ⟨m0, m1, m2, m3, m4, m5, m6⟩ := HP1.out w9 HB69.out
        have CS := Lib.hid (ropSame_any ⟨3, 0, 0, 0, d.tk, tbytes d.sm, []⟩ ⟨3, 0, 0, 0, d.tk, tbytes d.sm, []⟩ (.slice a1 tn c1) (.slice a2 bn c2) (.slice a3 0 c3) (.slice ta tn tc) (.slice a5 bn c5) (.slice none 0 0) w9 (HO1.out w9 HB69.out).1 (HO1.out w9 HB69.out).2.1 (HO1.out w9 HB69.out).2.2 (HDD.out w9 HB9.out).tk HT9.out (Rd.nil _ _))
        rw [opsame_self] at CS
        dsimp only [OpD.agg] at CS
        go_wp2_with fail
        refine CS.out.mono ?_
        rintro e w10 ⟨rfl, hb10⟩
        have HB10 := Lib.hid (TR.out HB9.out hb10)
        have HV10 := Lib.hid (HV9.out.below hb10)
        clear hb10 CS x0 x1 x2 m0 m1 m2 m3 m4 m5 m6
        obtain ⟨x0, x1, x2⟩ := HRB.out w10 HB10.out
        obtain ⟨z0, z1⟩ := HRC.out w10 HB10.out
        have CM := Lib.hid (vmay_any (.slice qa qn qc) qs now w10 (HQQ.out w10 HB10.out))
        rw [HMM.out] at CM
        go_wp2_with fail
        refine CM.out.mono ?_
        rintro e w11 ⟨rfl, rfl⟩
        clear CM
        cases M with
        | false =>
          have hE : E = 2 := by rw [HAE.out]; simp
          have hA : A = [] := by rw [HAB.out]; simp
          have h0 : an = 0 := by rw [← HAN.out, hA]; rfl
          subst hE h0
          have HBF := Lib.hid (TR.out HB0.out HB10.out)
          clear hA
          go_wp2
          go_ret
          exact ⟨rfl, by first | exact HBF.out | (rw [← hqq]; exact HBF.out)⟩
        | true =>
          have hE : E = 0 := by rw [HAE.out]; simp
          have hA : A = cans d.ky qs now := by rw [HAB.out]; simp
          subst hE
          have CV := Lib.hid (vanswer_any (.slice ka kn kc) (.slice qa qn qc) d.ky qs now w10 HMM.out (HDD.out w10 HB10.out).ky (HQQ.out w10 HB10.out) HK32.out)
          have HCA := Lib.hid hA
          clear hA
          go_wp2_with fail
          refine CV.out.mono ?_
          rintro e w12 ⟨v12, rfl, ho12, hb12⟩
          have CE := Lib.hid (same_any (.slice a4 an c4) v12 A (cans d.ky qs now) w12 (HV10.out.below hb12) ho12.bs)
          rw [HCA.out, beq_self_eq_true] at CE
          obtain ⟨a6, c6, rfl⟩ := ho12.shape
          have HB12 := Lib.hid (TR.out HB10.out hb12)
          clear ho12 hb12 CV
          go_wp2_with fail
          refine CE.out.mono ?_
          rintro e w13 ⟨rfl, hb13⟩
          have HBF := Lib.hid (TR.out HB0.out (TR.out HB12.out hb13))
          clear hb13
          go_wp2
          go_ret
          exact ⟨rfl, by first | exact HBF.out | (rw [← hqq]; exact HBF.out)⟩
end Go.Proofs.YtjnbdeopoohnmaaGreatDoor
