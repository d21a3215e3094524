/- Layer 7 (sha): the walk of the reference's Sum. -/
import Derived.Test.YtjnbdeopoohnmaaGreatDoorShaU5
import Derived.Deep.RegionHeld3
import Derived.Deep.RegionLaw
import Derived.Deep.DeepCutAuto
import Derived.Lib.QuietBelow
set_option linter.unusedSimpArgs false
namespace Go.Proofs.YtjnbdeopoohnmaaGreatDoor
open Go.RowKit Go.Sort

set_option maxRecDepth 100000 in
set_option maxHeartbeats 20000000 in
theorem rsum_any (y : Value) (l : List UInt8) (hlen : l.length < 4294967296) (w : World) (hy : Bs w y l) :
    Calls Tryz.prog 96 #[y] w fun e w' => ∃ v, e = .returned v ∧ Ob w' w.heap.size 5 v (shaSum l) ∧ Below w.heap.size w w' := by
  have HL := Lib.hid hlen
  have HY := Lib.hid hy
  clear hlen hy
  go_enter Tryz.func96, Tryz.ntmps96
  go_upto_region 4 with (first | (go_at_call 112; refine (consts_any _).mono ?_; rintro e w1 ⟨v1, rfl, ho1, hb1⟩; have HO1 := Lib.hid ho1; have HB1 := Lib.hid hb1; clear ho1 hb1) | (go_at_call 113; refine (begin_any _).mono ?_; rintro e w2 ⟨v2, rfl, ho2, hb2⟩; have HO2 := Lib.hid ho2; have HB2 := Lib.hid hb2; clear ho2 hb2) | (go_at_call 114; refine (padded_any y l HL.out _ (HY.out.below (HB1.out.trans (HB2.out.mono HB1.out.size)))).mono ?_; rintro e w3 ⟨v3, rfl, ho3, hb3⟩; have HO3 := Lib.hid ho3; have HB3 := Lib.hid hb3; clear ho3 hb3))
  obtain ⟨all, hall⟩ : ∃ all, l ++ pad l.length = all := ⟨_, rfl⟩
  have hmul : all.length % 64 = 0 ∧ all.length < 4294967500 := by
    rw [← hall, List.length_append, pad_len]
    have := HL.out
    have := zeros_lt l.length
    unfold zeros at *
    split <;> omega
  have hbw : Hid (Below w.heap.size w w3) := (HB1.out.trans (HB2.out.mono HB1.out.size)).trans (HB3.out.mono (by have := HB1.out.size; have := HB2.out.size; omega))
  have hk3 : Us w3 v1 ktab := (HO1.out.us.below HB2.out).below HB3.out
  have hh3 : Hid (Us w3 v2 shaInit.list) := HO2.out.us.below HB3.out
  have hb3 : Bs w3 v3 all := by have := HO3.out; rw [hall] at this; exact this.bs
  obtain ⟨ka, kc, kadr, rfl, -, -, ki, klt, kcell⟩ := hk3.open_n 64 rfl
  obtain ⟨L, hL⟩ : ∃ L, all.length = L := ⟨_, rfl⟩
  obtain ⟨ba, bc, badr, rfl, -, -, bi, blt, bcell⟩ := Bs.open_n elB hb3 L hL
  rw [hL] at hmul
  have KI := Lib.hid ki
  have KC : Hid (∀ W, Below w3.heap.size w3 W → ∀ t, t < 64 → W.cell? (kadr t) = some (.int .u32 (wn (shaK t)))) := by
    intro W hW t ht
    rw [hW.cell (klt t ht), kcell t ht]
    rfl
  have BI : Hid (∀ (W : World) (i : Nat), i < L → (Instr.indexAt 25 (.slice ba L bc) (.int .i64 (i : Int))).run Tryz.prog W = .ok (.pointer (some (badr i))) W) := by
    intro W i hi
    have := bi W i (by omega) (by omega)
    simpa using this
  have BC : Hid (∀ W, Below w3.heap.size w3 W → ∀ i, i < L → W.cell? (badr i) = some (.int .u8 (wn (bw all i)))) := by
    intro W hW i hi
    obtain ⟨x, hx⟩ : ∃ x, all[i]? = some x := ⟨_, List.getElem?_eq_getElem (by omega)⟩
    rw [hW.cell (blt i hi), bcell i x hx, wn_byte all i x hx]
  have HFIN : Hid (shaSum l = shaOut (blks shaK shaInit all)) := by show _ = _; rw [← hall]; rfl
  have HLL := Lib.hid hL
  have HMU := Lib.hid hmul
  clear ki klt kcell bi blt bcell hb3 hk3 hL hmul HO1 HO2 HO3 HB1 HB2 HB3 hall HY HL
  go_wp2_with fail
  go_loopw [4, 6] (fun vh vat wr => ∃ (k : Nat) (s : St), 64 * k ≤ L ∧ vat = .int .i64 ((64 * k : Nat) : Int) ∧ Hid (Us wr vh s.list) ∧ Hid (Below w3.heap.size w3 wr) ∧ Hid (blks shaK s (all.drop (64 * k)) = blks shaK shaInit all)) (fun _ vat _ => L - (intOf vat).toNat)
  case atStart => exact ⟨0, shaInit, by omega, rfl, hh3, Lib.hid (Below.refl _ _), Lib.hid rfl⟩
  case round =>
    obtain ⟨k, s, hk, rfl, hu, hb, heq⟩ := hrel
    clear hh3
    by_cases hlt : 64 * k < L
    · have e1 : ((64 * k : Nat) : Int) < (L : Int) := by omega
      obtain ⟨m, hm⟩ : ∃ m, mword ((all.drop (64 * k)).take 64) = m := ⟨_, rfl⟩
      have HM := Lib.hid hm
      obtain ⟨p0, hp0⟩ : ∃ p0, 64 * k = p0 := ⟨_, rfl⟩
      rw [hp0] at e1 ⊢
      have hp64 : p0 + 64 ≤ L := by have := HMU.out; omega
      have HP := Lib.hid hp0
      have hML : L < 4294967500 := HMU.out.2
      clear hm hp0 hk hlt
      obtain ⟨W1, hW1⟩ : ∃ W, W = wr := ⟨_, rfl⟩
      subst hW1
      have WADD := w_add
      have WADD2 := w_addw
      have WMOD := w_mod
      have WMOD2 := w_modw
      have WMUL := w_mul256
      have WMUL2 := w_mul256w
      go_wp2_with fail
      go_loopw [7, 8] (fun vw vi wr => ∃ i : Nat, i ≤ 16 ∧ vi = .int .i64 i ∧ Hid (Ou wr W1.heap.size vw ((List.range i).map m)) ∧ Hid (Below W1.heap.size W1 wr)) (fun _ vi _ => 16 - (intOf vi).toNat)
      case atStart => exact ⟨0, by omega, rfl, Lib.hid (Ou.nil _ _), Lib.hid (Below.refl _ _)⟩
      case round =>
        obtain ⟨i, hi, rfl, how, hbw1⟩ := hrel
        by_cases hlt : i < 16
        · skip
          have e2 : (i : Int) < 16 := by omega
          obtain ⟨W2, hW2⟩ : ∃ W, W = wr := ⟨_, rfl⟩
          subst hW2
          obtain ⟨q0, hq0⟩ : ∃ q, p0 + 4 * i = q := ⟨_, rfl⟩
          have hq : q0 + 4 ≤ L := by omega
          have HQ := Lib.hid hq0
          clear hq0
          have hw2 : Hid (Below w3.heap.size w3 W2) := hb.out.trans (hbw1.out.mono hb.out.size)
          go_wp2_with fail
          go_loopw [9, 10] (fun vx vj wr => ∃ j : Nat, j ≤ 4 ∧ vj = .int .i64 j ∧ vx = .int .u32 (wn (hornx all q0 j)) ∧ wr = W2) (fun _ vj _ => 4 - (intOf vj).toNat)
          case atStart => exact ⟨0, by omega, rfl, rfl, rfl⟩
          case round =>
            obtain ⟨j, hj, rfl, rfl, rfl⟩ := hrel
            by_cases hj4 : j < 4
            · have e5 : (j : Int) < 4 := by omega
              obtain ⟨r, hr⟩ : ∃ r, q0 + j = r := ⟨_, rfl⟩
              have xr : ∀ W, (Instr.indexAt 25 (.slice ba L bc) (.int .i64 ((p0 : Int) + 4 * (i : Int) + (j : Int)))).run Tryz.prog W = .ok (.pointer (some (badr r))) W := fun W => by
                have := BI.out W r (by omega)
                rwa [show (r : Int) = (p0 : Int) + 4 * (i : Int) + (j : Int) by have := HQ.out; omega] at this
              have cr := BC.out _ hw2.out r (by omega)
              have HR := Lib.hid hr
              clear hr
              go_wp2
              go_roundw
              case rel =>
                refine ⟨j + 1, by omega, by go_num, ?_, by first | rfl | trivial⟩
                rw [← HR.out]
                rfl
              case measure => simp [intOf]; omega
            · have e5 : ¬ (j : Int) < 4 := by omega
              obtain rfl : j = 4 := by omega
              have hs2 := hbw1.out.size
              go_wp2_with (at_builtin; go_must (refine wpList_append_u32 how.out (hornx all q0 4) (by simp; omega) hs2 ?_ _ _ rfl rfl _ rfl rfl rfl); intro v4 w4 ho4 hb4; have HO4 := Lib.hid ho4; have HB4 := Lib.hid hb4; clear ho4 hb4)
              go_roundw
              case rel =>
                refine ⟨i + 1, by omega, by go_num, Lib.hid ?_, Lib.hid (hbw1.out.trans HB4.out)⟩
                have h1 := HO4.out
                rw [← HQ.out, ← HP.out, ← mword_part all k i hlt, HM.out, range_snoc] at h1
                exact h1
              case measure => simp [intOf]; omega
        · have e2 : ¬ (i : Int) < 16 := by omega
          obtain rfl : i = 16 := by omega
          obtain ⟨B, hBe⟩ : ∃ B, W1.heap.size = B := ⟨_, rfl⟩
          have HBE := Lib.hid hBe
          have hbB : Hid (Below B W1 wr) := by have := hbw1.out; rwa [hBe] at this
          have hB : B ≤ wr.heap.size := by rw [← hBe]; exact hbw1.out.size
          have HOB : Hid (Ou wr B u7 ((List.range 16).map (sched m))) := by
            have := how.out
            rw [hBe] at this
            rwa [List.map_congr_left (g := sched m) (fun j hj => (sched_lo m (List.mem_range.1 hj)).symm)] at this
          clear how hbw1 hBe
          obtain ⟨W2, hW2⟩ : ∃ W, W = wr := ⟨_, rfl⟩
          subst hW2
          go_wp2_with fail
          refine wp_mono (rsum_L4 m 64 B W2 (Lib.hid rfl) HOB hB) ?_
          intro e a' wr h
          obtain ⟨rfl, f4, vw, rfl, how, hbw1⟩ := h.of
          clear h
          have hb4 : Below B W1 wr := hbB.out.trans hbw1.out
          have hBw : w3.heap.size ≤ B := by have := hb.out.size; have := HBE.out; omega
          have hb3 : Hid (Below w3.heap.size w3 wr) := hb.out.trans (hb4.mono hBw)
          have hu4 : Us wr u4 s.list := hu.out.below (by rw [HBE.out]; exact hb4)
          obtain ⟨wa, wc, wadr, hvw, -, -, wi, wlt, wcell⟩ := how.out.us.open_n 64 (by simp)
          subst hvw
          obtain ⟨W4, hW4⟩ : ∃ W, W = wr := ⟨_, rfl⟩
          subst hW4
          have WI := Lib.hid wi
          have WC : Hid (∀ W, Below W4.heap.size W4 W → ∀ j, j < 64 → W.cell? (wadr j) = some (.int .u32 (wn (sched m j)))) := by
            intro W hW j hj
            rw [hW.cell (wlt j hj), wcell j hj, range_get _ _ _ hj]
          have HU4 := Lib.hid hu4
          clear wi wlt wcell how hbw1 hbB hb4 hu4 HOB hu hBw hB
          go_upto_region 25 with (at_builtin; go_must (refine wpList_append_u32s (Ou.nil W4 W4.heap.size) HU4.out (by simp [St.list]) (Nat.le_refl _) ?_ _ _ rfl rfl rfl rfl); intro v5 w5 ho5 hb5; have HO5 := Lib.hid (show Ou w5 W4.heap.size v5 s.list from ho5); have HB5 := Lib.hid hb5; clear ho5 hb5)
          go_wp2_with fail
          have KC4 : Hid (∀ W, Below W4.heap.size W4 W → ∀ t, t < 64 → W.cell? (kadr t) = some (.int .u32 (wn (shaK t)))) := fun W hW => KC.out W (hb3.out.trans (hW.mono hb3.out.size))
          have HV0 : Hid (Us w5 v5 s.list) := HO5.out.us
          refine wp_mono (rsum_L5 kadr wadr m s 64 w5 (Lib.hid rfl) KI (Lib.hid fun W hW => KC4.out W (HB5.out.trans (hW.mono HB5.out.size))) WI (Lib.hid fun W hW => WC.out W (HB5.out.trans (hW.mono HB5.out.size))) HV0) ?_
          intro e a' wr h
          obtain ⟨rfl, f5, vv, rfl, hv, hbv0⟩ := h.of
          have hbv : Hid (Below W4.heap.size W4 wr) := HB5.out.trans (hbv0.out.mono HB5.out.size)
          clear h HO5 HB5 hbv0 HV0 KC4
          have hv64 : Us wr vv (rnds shaK (sched m) s 64).list := hv.out
          obtain ⟨S, hS⟩ : ∃ S, rnds shaK (sched m) s 64 = S := ⟨_, rfl⟩
          have HS := Lib.hid hS
          rw [hS] at hv64
          obtain ⟨va, vc, vadr, hvv, -, -, vi, vlt, vcell⟩ := hv64.open_n 8 rfl
          subst hvv
          obtain ⟨ha, hc, hadr, hhv, -, -, hi, hlt2, hcell⟩ := HU4.out.open_n 8 rfl
          subst hhv
          obtain ⟨W5, hW5⟩ : ∃ W, W = wr := ⟨_, rfl⟩
          subst hW5
          have VI := Lib.hid vi
          have HI := Lib.hid hi
          have VC : Hid (∀ W, Below W5.heap.size W5 W → ∀ j, j < 8 → W.cell? (vadr j) = some (.int .u32 (wn (S.nth j)))) := by
            intro W hW j hj
            rw [hW.cell (vlt j hj), vcell j hj, list_get _ _ hj]
          have HC : Hid (∀ W, Below W5.heap.size W5 W → ∀ j, j < 8 → W.cell? (hadr j) = some (.int .u32 (wn (s.nth j)))) := by
            intro W hW j hj
            have h4 := hlt2 j hj
            rw [(hbv.out.trans (hW.mono hbv.out.size)).cell h4, hcell j hj, list_get _ _ hj]
          clear hv hS hv64 vi vlt vcell hi hlt2 hcell
          go_wp2_with fail
          go_loopw [21, 22] (fun vn vi wr => ∃ i : Nat, i ≤ 8 ∧ vi = .int .i64 i ∧ Hid (Ou wr W5.heap.size vn ((List.range i).map fun j => s.nth j + S.nth j)) ∧ Hid (Below W5.heap.size W5 wr)) (fun _ vi _ => 8 - (intOf vi).toNat)
          case atStart => exact ⟨0, by omega, rfl, Lib.hid (Ou.nil _ _), Lib.hid (Below.refl _ _)⟩
          case round =>
            obtain ⟨i, hi8, rfl, hon, hbn⟩ := hrel
            by_cases hlt : i < 8
            · have e3 : (i : Int) < 8 := by omega
              have XV := fun W => VI.out W i hlt
              have XH := fun W => HI.out W i hlt
              have cv := VC.out wr hbn.out i hlt
              have ch := HC.out wr hbn.out i hlt
              go_upto_region 38 with fail
              go_region_held3 (fun w' => w'.cell? (vadr i) = some (.int .u32 (wn (S.nth i))) ∧ w'.cell? (hadr i) = some (.int .u32 (wn (s.nth i))))
                (first | go_keep | exact hkk) (first | (refine step_append_u32 hon.out.drew (s.nth i + S.nth i) (by simp; omega) (by have := hbn.out.size; simp; omega) ?_ _ _ rfl rfl _ rfl rfl (by exact rfl); intro v6 w6 ho6 hb6; have hkk := And.intro (VC.out _ (hbn.out.drew.trans hb6) i hlt) (HC.out _ (hbn.out.drew.trans hb6) i hlt)))
              all_goals
                have HO6 := Lib.hid ho6
                have HB6 := Lib.hid hb6
                clear ho6 hb6
                go_wp2
                go_roundw
                case rel =>
                  refine ⟨i + 1, by omega, by go_num, Lib.hid ?_, Lib.hid (hbn.out.drew.trans HB6.out)⟩
                  have h1 := HO6.out
                  rw [show s.nth i + S.nth i = (fun j => s.nth j + S.nth j) i from rfl, range_snoc] at h1
                  exact h1
                case measure => simp [intOf]; omega
            · have e3 : ¬ (i : Int) < 8 := by omega
              obtain rfl : i = 8 := by omega
              have hp0 := HP.out
              have e4 : IntKind.i64.wrap ((p0 : Int) + 64) = (p0 : Int) + 64 := IntWalk.i64_in _ (by omega)
              go_wp2
              go_roundw
              case rel =>
                refine ⟨k + 1, blk shaK s m, by omega, ?_, Lib.hid ?_, Lib.hid ?_, Lib.hid ?_⟩
                · exact congrArg _ (by omega)
                · have h1 := hon.out.us
                  have h2 : (List.range 8).map (fun j => s.nth j + S.nth j) = (blk shaK s m).list := by
                    unfold blk
                    rw [HS.out]
                    show _ = (S.add s).list
                    simp [List.range, List.range.loop, St.add, St.list, St.nth, UInt32.add_comm]
                  rw [h2] at h1
                  exact h1
                · exact hb3.out.trans ((hbv.out.mono hb3.out.size).trans (hbn.out.mono (by have := hb3.out.size; have := hbv.out.size; omega)))
                · rw [← heq.out, blks_go _ s (by rw [List.length_drop, HLL.out]; omega), HM.out, List.drop_drop]
                  congr 2
              case measure => simp [intOf]; omega
    · skip
      have e1 : ¬ ((64 * k : Nat) : Int) < (L : Int) := by omega
      have hfin : shaSum l = shaOut s := by
        rw [HFIN.out, ← heq.out, List.drop_eq_nil_of_le (by rw [HLL.out]; omega), blks_end _ _ (by simp)]
      have HF := Lib.hid hfin
      obtain ⟨ha, hc, hadr, hhv, -, -, hi, hlt2, hcell⟩ := hu.out.open_n 8 rfl
      subst hhv
      obtain ⟨W1, hW1⟩ : ∃ W, W = wr := ⟨_, rfl⟩
      subst hW1
      have HI := Lib.hid hi
      have HC : Hid (∀ W, Below W1.heap.size W1 W → ∀ j, j < 8 → W.cell? (hadr j) = some (.int .u32 (wn (s.nth j)))) := by
        intro W hW j hj
        rw [hW.cell (hlt2 j hj), hcell j hj, list_get _ _ hj]
      clear hfin heq hlt hk hi hlt2 hcell hu
      go_wp2_with fail
      go_loopw [23, 24] (fun vo vi wr => ∃ i : Nat, i ≤ 8 ∧ vi = .int .i64 i ∧ Hid (Ob wr W1.heap.size 5 vo (outk s i)) ∧ Hid (Below W1.heap.size W1 wr)) (fun _ vi _ => 8 - (intOf vi).toNat)
      case atStart => exact ⟨0, by omega, rfl, Lib.hid (Ob.nil _ _ _), Lib.hid (Below.refl _ _)⟩
      case round =>
        obtain ⟨i, hi8, rfl, ho, hbo⟩ := hrel
        by_cases hlt : i < 8
        · have e2 : (i : Int) < 8 := by omega
          have XI := fun W => HI.out W i hlt
          have ci := HC.out wr hbo.out i hlt
          obtain ⟨x, hx⟩ : ∃ x, s.nth i = x := ⟨_, rfl⟩
          rw [hx] at ci
          have HX := Lib.hid hx
          have hol : Hid ((outk s i).length ≤ 32) := by
            show (outk s i).length ≤ 32
            have : ∀ k, (outk s k).length = 4 * k := by
              intro k
              induction k with
              | zero => rfl
              | succ k ih => rw [outk_succ, List.length_append, ih]; simp [out4]; omega
            rw [this]; omega
          have hxl := wn_lt x
          clear hx
          go_upto_region 44 with fail
          go_region_held3 (fun w' => w'.cell? (hadr i) = some (.int .u32 (wn x)))
            (first | go_keep | exact hkk) (first | (refine step_append_lit ho.out.drew (out4 x) 4 rfl elB (by have := hol.out; simp [out4]; omega) (by have := hol.out; simp [out4]; omega) (by have := hbo.out.size; simp; omega) ?_ _ _ rfl rfl _ rfl rfl (by exact out4_cells x); intro v6 w6 ho6 hb6; have hkk := (HC.out _ (hbo.out.drew.trans hb6) i hlt); rw [HX.out] at hkk))
          all_goals
            have HO6 := Lib.hid ho6
            have HB6 := Lib.hid hb6
            clear ho6 hb6
            go_wp2
            go_roundw
            case rel =>
              refine ⟨i + 1, by omega, by go_num, Lib.hid ?_, Lib.hid (hbo.out.drew.trans HB6.out)⟩
              rw [outk_succ, HX.out]
              exact HO6.out
            case measure => simp [intOf]; omega
        · have e2 : ¬ (i : Int) < 8 := by omega
          obtain rfl : i = 8 := by omega
          have hbb := hbw.out.trans (hb.out.mono hbw.out.size)
          go_wp2
          go_ret
          refine ⟨_, rfl, ?_, hbb.trans (hbo.out.mono hbb.size)⟩
          rw [HF.out, ← outk_8]
          exact ho.out.mono hbb.size

end Go.Proofs.YtjnbdeopoohnmaaGreatDoor
