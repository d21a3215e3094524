/- Layer 19 (version): the statement VersionFinds, the walk. -/
import Derived.Test.YtbonapdainlpjaaVe15
import Derived.Test.YtbonapdainlpjaaVe14
import Derived.Deep.RegionLaw
import Derived.Deep.DeepCutAuto
import Derived.Deep.CutBlock
import Derived.Lib.QuietBelow
set_option linter.unusedSimpArgs false
namespace Go.Proofs.Ytbonapdainlpjaa
open Go.RowKit Go.Sort

set_option maxRecDepth 100000 in
set_option maxHeartbeats 3200000 in
theorem vf_walk (v : Value) (l : List NetX) (x : NetX) (z : Int) (w : World) (h : Nets w v l) (hx : NetIs w x) : Calls Try.prog 13 #[v, x.agg, .int .i64 z] w fun e w' => e = .returned (.bool true) ∧ Below w.heap.size w w' := by
  obtain ⟨n, hn⟩ : ∃ n, l.length = n := ⟨_, rfl⟩
  have HH := Lib.hid h
  obtain ⟨a, c, b, o, hsv, h1, h2, hix, hlt', hcell, -⟩ := h.1.open_n layX elNet n hn
  subst hsv
  have HC := Lib.hid hcell
  have HN := Lib.hid hn
  have HLT := Lib.hid hlt'
  have HX := Lib.hid hx
  obtain ⟨W, hW⟩ : ∃ V, w.alloc (.cells #[.int .i64 x.1.ver, Sl3.v x.2.1, Sl3.v x.2.2] 95) = V := ⟨_, rfl⟩
  obtain ⟨q, hq⟩ : ∃ q, w.heap.size = q := ⟨_, rfl⟩
  have hB : Below w.heap.size w W := by rw [← hW]; exact (Below.refl _ _).alloc (Nat.le_refl _) _
  have hr : NB W q x := by rw [← hW, ← hq]; exact NB.new _ _
  have HW := Lib.hid hW
  have HQ := Lib.hid hq
  have HR := Lib.hid hr
  have HB := Lib.hid hB
  have CA := Lib.hid (vAwake_any W)
  have CF := Lib.hid (fun (V : World) (hV : Below w.heap.size w V) => vFew_any _ _ V (h.below hV))
  have CG := Lib.hid (fun (V : World) (hV : Below w.heap.size w V) => gFew_any x.1 _ _ V (hx.below hV))
  have CI := Lib.hid (fun (V : World) (hV : Below w.heap.size w V) => vFind_any _ _ z V (h.below hV))
  have CP := Lib.hid (fun (hl : l.length ≤ 1000) (V : World) (hV : Below w.heap.size w V) => vPublish_any _ _ x V (h.below hV) (hx.below hV) hl)
  have CL0 := Lib.hid (fun (h0 : l = []) (V : World) (hV : Below w.heap.size w V) => vLatest_nil (Value.slice a n c) V (by have := h.below hV; rw [h0] at this; exact this))
  have CL1 := Lib.hid (fun (y : NetX) (hy : l[l.length - 1]? = some y) (V : World) (hV : Below w.heap.size w V) => vLatest_some _ _ y V (h.below hV) hy)
  have CS := Lib.hid (fun (y : NetX) (V : World) (hV : NetIs V y) => rgSame_yes y.1 _ _ _ _ V hV hV)
  have HQX := Lib.hid (fun (V : World) (hV : Below W.heap.size W V) => (hr.below hV).cells)
  obtain ⟨x0, hx0⟩ : ∃ y, x = y := ⟨_, rfl⟩
  have HX0 := Lib.hid hx0
  obtain ⟨⟨ver, st, ln⟩, ⟨xa, xn, xc⟩, ⟨ya, yn, yc⟩⟩ := x
  unfold NetX.agg at CP ⊢
  unfold Net.agg at CP CG ⊢
  unfold Sl3.v at hW HQX CP CG HW ⊢
  simp only at hW HQX CP CG HW ⊢
  obtain ⟨fw, hfw⟩ : ∃ b, vfew l = b := ⟨_, rfl⟩
  have HFW := Lib.hid hfw
  rw [hfw] at CF
  obtain ⟨fg, hfg⟩ : ∃ b, gfew ⟨ver, st, ln⟩ = b := ⟨_, rfl⟩
  rw [hfg] at CG
  obtain ⟨s0, s1, s2⟩ := HQX.out W (Below.refl _ _)
  clear h hx hn hcell hlt' hW hq hr hB hfw hfg hx0
  go_enter Try.func13, Try.ntmps13
  go_upto_region 1 with fail
  rw [HW.out, HQ.out]
  go_wp2_with fail
  refine CA.out.mono ?_
  rintro e w2 ⟨rfl, hb2⟩
  have HB2 := Lib.hid hb2
  have hb02 := HB.out.trans (hb2.mono HB.out.size)
  have HB02 := Lib.hid hb02
  clear s0 s1 s2 hb2 hb02
  go_wp2_with fail
  refine (CF.out w2 HB02.out).mono ?_
  rintro e w3 ⟨rfl, hb3⟩
  have hb23 := HB2.out.trans (hb3.mono HB2.out.size)
  have HB3 := Lib.hid hb23
  have hb03 := HB.out.trans (hb23.mono HB.out.size)
  have HB03 := Lib.hid hb03
  obtain ⟨s0, s1, s2⟩ := HQX.out w3 hb23
  clear hb3 hb23 hb03
  cases fw with
  | false =>
    go_wp2
    go_ret
    exact ⟨rfl, HB03.out⟩
  | true =>
  have hn70 : n ≤ 70 := by
    have := HFW.out; unfold vfew at this; rw [HN.out] at this; simp at this; exact this.2
  have HN70 := Lib.hid hn70
  clear hn70
  go_wp2_with fail
  refine (CG.out w3 HB03.out).mono ?_
  rintro e w4 ⟨rfl, hb4⟩
  have hb24 := HB3.out.trans (hb4.mono HB3.out.size)
  have HB4 := Lib.hid hb24
  have hb04 := HB.out.trans (hb24.mono HB.out.size)
  have HB04 := Lib.hid hb04
  clear hb4 hb24 hb04 s0 s1 s2
  cases fg with
  | false =>
    go_wp2
    go_ret
    exact ⟨rfl, HB04.out⟩
  | true =>
  go_wp2_with fail
  refine (CI.out w4 HB04.out).mono ?_
  intro e w5 hf
  obtain ⟨ok, xf, rfl, hfnd, hb5⟩ := hf.fnd
  obtain ⟨W6, hW6⟩ : ∃ V, w5.alloc (.cells #[.int .i64 xf.1.ver, Sl3.v xf.2.1, Sl3.v xf.2.2] 95) = V := ⟨_, rfl⟩
  obtain ⟨g6, hg6⟩ : ∃ g, w5.heap.size = g := ⟨_, rfl⟩
  have hr6 : NB W6 g6 xf := by rw [← hW6, ← hg6]; exact NB.new _ _
  have hb56 : Below w5.heap.size w5 W6 := by rw [← hW6]; exact (Below.refl _ _).alloc (Nat.le_refl _) _
  have hb26 := HB4.out.trans ((hb5.trans (hb56.mono hb5.size)).mono HB4.out.size)
  have HB6 := Lib.hid hb26
  have hb06 := HB.out.trans (hb26.mono HB.out.size)
  have HB06 := Lib.hid hb06
  have HQF := Lib.hid (fun (V : World) (hV : Below W6.heap.size W6 V) => (hr6.below hV).cells)
  have HFND := Lib.hid hfnd
  obtain ⟨⟨fv, fst, fln⟩, ⟨fa, fn, fc⟩, ⟨ga, gn, gc⟩⟩ := xf
  unfold NetX.agg Net.agg
  unfold Sl3.v at hW6 HQF ⊢
  simp only at hW6 HQF ⊢
  have HW6 := Lib.hid hW6
  have HG6 := Lib.hid hg6
  obtain ⟨p0, p1, p2⟩ := HQF.out W6 (Below.refl _ _)
  clear hf hfnd hb5 hb56 hb26 hb06 hr6 hW6 hg6
  go_upto_region 7 with fail
  rw [HW6.out, HG6.out]
  clear p0 p1 p2
  go_wp2_with fail
  go_loopw [42, 10] (fun vi v10 wr => ∃ (k : Nat) (fb : Bool), k ≤ n ∧ vi = .int .i64 k ∧ v10 = .bool fb ∧ Hid (fb = true → ok = true) ∧ Hid (fb = false → vnone l z k) ∧ Hid (Below W6.heap.size W6 wr)) (fun vi _ _ => n - (intOf vi).toNat)
  case atStart => exact ⟨0, false, by omega, rfl, rfl, fun h => by simp at h, fun _ j y hj => absurd hj (by omega), Below.refl _ _⟩
  case round =>
    obtain ⟨k, fb, hk, rfl, rfl, HP1, HP2, HBr⟩ := hrel
    have hb0r := HB06.out.trans (HBr.out.mono HB06.out.size)
    have HB0r := Lib.hid hb0r
    by_cases hlt : k < n
    · have e2 : (k : Int) < n := by omega
      obtain ⟨y, hs⟩ : ∃ s, l[k]? = some s := ⟨_, List.getElem?_eq_getElem (by have := HN.out; omega)⟩
      have c0 := HC.out k y hs 0 _ rfl
      have c1 := HC.out k y hs 1 _ rfl
      have c2 := HC.out k y hs 2 _ rfl
      rw [Nat.add_zero] at c0
      have hbl := HLT.out k hlt
      rw [← hb0r.cell (by exact hbl)] at c0 c1 c2
      have hixk := fun W => hix W k hlt
      obtain ⟨W7, hW7⟩ : ∃ V, wr.alloc (.cells #[.int .i64 y.1.ver, Sl3.v y.2.1, Sl3.v y.2.2] 95) = V := ⟨_, rfl⟩
      obtain ⟨g7, hg7⟩ : ∃ g, wr.heap.size = g := ⟨_, rfl⟩
      have hr7 : NB W7 g7 y := by rw [← hW7, ← hg7]; exact NB.new _ _
      have hb7 : Below wr.heap.size wr W7 := by rw [← hW7]; exact (Below.refl _ _).alloc (Nat.le_refl _) _
      have hb67 := HBr.out.trans (hb7.mono HBr.out.size)
      have HB7 := Lib.hid hb67
      have CSY := Lib.hid (CS.out y W7 ((HH.out.2 y (List.mem_of_getElem? hs)).below (hb0r.trans (hb7.mono hb0r.size))))
      have HS := Lib.hid hs
      obtain ⟨u0, u1, u2⟩ := hr7.cells
      obtain ⟨p0, p1, p2⟩ := HQF.out W7 hb67
      obtain ⟨⟨yv, yst, yln⟩, ⟨ya1, yn1, yc1⟩, ⟨yb1, ym1, yd1⟩⟩ := y
      unfold Net.agg at CSY
      unfold Sl3.v at c1 c2 hW7 CSY u1 u2
      simp only at c0 c1 c2 hW7 CSY u0 u1 u2
      have HW7 := Lib.hid hW7
      have HG7 := Lib.hid hg7
      have HLTK := Lib.hid hlt
      clear hs hbl hr7 hb7 hb67 hW7 hg7 hb0r hlt
      go_upto_region 11 with fail
      rw [HW7.out, HG7.out]
      clear c0 c1 c2
      cases fb with
      | true =>
        have hf : Hid (true = true → ok = true) := HP1
        clear u0 u1 u2 p0 p1 p2
        go_wp2
        go_roundw
        case rel => exact ⟨k + 1, true, by have := HLTK.out; omega, by go_num, rfl, hf, fun h => by simp at h, HB7⟩
        case measure => simp [intOf]; have := HLTK.out; omega
      | false =>
        by_cases hv : yv = z
        · obtain ⟨hok, heq⟩ := HFND.out.1 k _ (HP2.out rfl) HS.out hv
          have e5 : (yv == z) = true := by simpa using hv
          cases heq
          subst hok
          clear hv
          go_wp2_with fail
          refine CSY.out.mono ?_
          rintro e w8 ⟨rfl, hb8⟩
          have hf2 : Hid (Below W6.heap.size W6 w8) := HB7.out.trans (hb8.mono HB7.out.size)
          clear hb8 u0 u1 u2 p0 p1 p2
          go_wp2
          go_roundw
          case rel => exact ⟨k + 1, true, by have := HLTK.out; omega, by go_num, rfl, fun _ => by trivial, fun h => by simp at h, hf2⟩
          case measure => simp [intOf]; have := HLTK.out; omega
        · have e5 : (yv == z) = false := by simpa using hv
          have hf : Hid (false = false → vnone l z (k + 1)) := fun _ j y hj hy => by
            by_cases hjk : j < k
            · exact HP2.out rfl j y hjk hy
            · obtain rfl : j = k := by omega
              rw [HS.out] at hy
              cases hy
              exact hv
          clear hv
          clear p0 p1 p2
          go_wp2
          go_roundw
          case rel => exact ⟨k + 1, false, by have := HLTK.out; omega, by go_num, rfl, fun h => by simp at h, hf, HB7⟩
          case measure => simp [intOf]; have := HLTK.out; omega
    · obtain rfl : k = n := by omega
      have e2 : ¬ (k : Int) < k := by omega
      have hokf : ok = fb := by
        cases fb with
        | true => exact HP1.out rfl
        | false => exact HFND.out.2 (by rw [HN.out]; exact HP2.out rfl)
      subst hokf
      obtain ⟨yl, is, hyl1, hyl2, hyl3⟩ : ∃ (yl : NetX) (is : Bool), is = decide (0 < k) ∧ (0 < k → l[k - 1]? = some yl) ∧ ∀ V : World, Below w.heap.size w V → Calls Try.prog 70 #[.slice a k c] V fun e w' => e = .returned (.tuple #[yl.agg, .bool is]) ∧ Below V.heap.size V w' := by
        by_cases hk0 : k = 0
        · exact ⟨netZero, false, by simp; omega, fun h => by omega, fun V hV => CL0.out (List.eq_nil_of_length_eq_zero (by rw [HN.out]; exact hk0)) V hV⟩
        · obtain ⟨y, hy⟩ : ∃ y, l[k - 1]? = some y := ⟨_, List.getElem?_eq_getElem (by have := HN.out; omega)⟩
          exact ⟨y, true, by simp; omega, fun _ => hy, fun V hV => CL1.out y (by rw [HN.out]; exact hy) V hV⟩
      have HY1 := Lib.hid hyl1
      have HY2 := Lib.hid hyl2
      have HY3 := Lib.hid hyl3
      clear hyl1 hyl2 hyl3 hb0r e2 HP1 HP2
      go_wp2_with fail
      refine (HY3.out wr HB0r.out).mono ?_
      rintro e w9 ⟨rfl, hb9⟩
      obtain ⟨W10, hW10⟩ : ∃ V, w9.alloc (.cells #[.int .i64 yl.1.ver, Sl3.v yl.2.1, Sl3.v yl.2.2] 95) = V := ⟨_, rfl⟩
      obtain ⟨g10, hg10⟩ : ∃ g, w9.heap.size = g := ⟨_, rfl⟩
      have hr10 : NB W10 g10 yl := by rw [← hW10, ← hg10]; exact NB.new _ _
      have hb910 : Below w9.heap.size w9 W10 := by rw [← hW10]; exact (Below.refl _ _).alloc (Nat.le_refl _) _
      have hb610 := HBr.out.trans ((hb9.trans (hb910.mono hb9.size)).mono HBr.out.size)
      have hb210 := HB6.out.trans (hb610.mono HB6.out.size)
      have hb010 := HB.out.trans (hb210.mono HB.out.size)
      have HB210 := Lib.hid hb210
      have HB010 := Lib.hid hb010
      have CSL := Lib.hid (fun (hk0 : 0 < k) (V : World) (hV : Below W10.heap.size W10 V) => CS.out yl V ((HH.out.2 yl (List.mem_of_getElem? (HY2.out hk0))).below (hb010.trans (hV.mono hb010.size))))
      have hyc : Hid (0 < k → W10.cell? ⟨b, o (k - 1), none⟩ = some (.int .i64 yl.1.ver) ∧ W10.cell? ⟨b, o (k - 1) + 1, none⟩ = some (Sl3.v yl.2.1) ∧ W10.cell? ⟨b, o (k - 1) + 2, none⟩ = some (Sl3.v yl.2.2)) := fun hk0 => by
        have hbl := HLT.out (k - 1) (by omega)
        have c0 := HC.out _ yl (HY2.out hk0) 0 _ rfl
        have c1 := HC.out _ yl (HY2.out hk0) 1 _ rfl
        have c2 := HC.out _ yl (HY2.out hk0) 2 _ rfl
        rw [Nat.add_zero] at c0
        rw [← hb010.cell (by exact hbl)] at c0 c1 c2
        exact ⟨c0, c1, c2⟩
      obtain ⟨t0, t1, t2⟩ := hr10.cells
      have HR10 := Lib.hid hr10
      obtain ⟨⟨lv, lst, lln⟩, ⟨la, lm, lc⟩, ⟨ma, mm, mc⟩⟩ := yl
      unfold NetX.agg Net.agg
      unfold Net.agg at CSL
      unfold Sl3.v at hW10 CSL t1 t2 hyc ⊢
      simp only at hW10 CSL t0 t1 t2 hyc ⊢
      have HW10 := Lib.hid hW10
      have HG10 := Lib.hid hg10
      have r0 := fun d os => cell_regrown t0 d os
      have r1 := fun d os => cell_regrown t1 d os
      have r2 := fun d os => cell_regrown t2 d os
      clear hr10 hb9 hb910 hb610 hb210 hb010 hW10 hg10
      go_upto_region 17 with fail
      rw [HW10.out, HG10.out]
      clear t0 t1 t2
      go_cut [91] (fun c wx => c = .bool false ∧ Hid (Below W10.heap.size W10 wx))
      case first =>
        by_cases hk0 : 0 < k
        · obtain rfl : is = true := by rw [HY1.out]; exact decide_eq_true hk0
          have hixp : ∀ V : World, (Instr.indexAt 91 (.slice a k c) (.int .i64 ((k : Int) - 1))).run Try.prog V = .ok (.pointer (some ⟨b, o (k - 1), none⟩)) V := fun V => by
            have := hix V (k - 1) (by omega)
            rwa [show (((k - 1 : Nat)) : Int) = (k : Int) - 1 by omega] at this
          have hsub : IntKind.i64.wrap ((k : Int) - 1) = (k : Int) - 1 := by rw [IntKind.wrap_i64]; have := HN70.out; omega
          obtain ⟨m0, m1, m2⟩ := hyc.out hk0
          have r3 := fun d os => cell_regrown m0 d os
          have r4 := fun d os => cell_regrown m1 d os
          have r5 := fun d os => cell_regrown m2 d os
          have CSK := Lib.hid (CSL.out hk0)
          clear m0 m1 m2
          cases ok with
          | true =>
            refine wp_region_quiet_below (by kernel_rfl) (by kernel_rfl) ?_
            repeat (go_big_quiet_step ((go_at_call 69; exact Calls.regrown_of (CSK.out _ (below_regrown _ _ _)))))
            refine wpQuiet_nil ?_
            intro _ hw'
            obtain ⟨⟨dq, osq⟩, hw''⟩ := hw'
            subst hw''
            have HB11 := below_regrown W10 dq osq
            obtain ⟨W11, hwq⟩ : ∃ x, x = grow (redrawn W10 dq) osq := ⟨_, rfl⟩
            rw [← hwq] at HB11 ⊢
            clear hwq
            go_wp2
            go_meet
            case rel => exact ⟨rfl, HB11⟩
          | false =>
            refine wp_region_quiet_below (by kernel_rfl) (by kernel_rfl) ?_
            repeat (go_big_quiet_step ((go_at_call 69; exact Calls.regrown_of (CSK.out _ (below_regrown _ _ _)))))
            refine wpQuiet_nil ?_
            intro _ hw'
            obtain ⟨⟨dq, osq⟩, hw''⟩ := hw'
            subst hw''
            have HB11 := below_regrown W10 dq osq
            obtain ⟨W11, hwq⟩ : ∃ x, x = grow (redrawn W10 dq) osq := ⟨_, rfl⟩
            rw [← hwq] at HB11 ⊢
            clear hwq
            go_wp2
            go_meet
            case rel => exact ⟨rfl, HB11⟩
        · obtain rfl : is = false := by rw [HY1.out]; exact decide_eq_false hk0
          have e1 : decide (0 < k) = false := by simpa using hk0
          clear hk0
          cases ok with
          | true =>
            refine wp_region_quiet_below (by kernel_rfl) (by kernel_rfl) ?_
            repeat (go_big_quiet_step ((fail)))
            refine wpQuiet_nil ?_
            intro _ hw'
            obtain ⟨⟨dq, osq⟩, hw''⟩ := hw'
            subst hw''
            have HB11 := below_regrown W10 dq osq
            obtain ⟨W11, hwq⟩ : ∃ x, x = grow (redrawn W10 dq) osq := ⟨_, rfl⟩
            rw [← hwq] at HB11 ⊢
            clear hwq
            go_wp2
            go_meet
            case rel => exact ⟨rfl, HB11⟩
          | false =>
            refine wp_region_quiet_below (by kernel_rfl) (by kernel_rfl) ?_
            repeat (go_big_quiet_step ((fail)))
            refine wpQuiet_nil ?_
            intro _ hw'
            obtain ⟨⟨dq, osq⟩, hw''⟩ := hw'
            subst hw''
            have HB11 := below_regrown W10 dq osq
            obtain ⟨W11, hwq⟩ : ∃ x, x = grow (redrawn W10 dq) osq := ⟨_, rfl⟩
            rw [← hwq] at HB11 ⊢
            clear hwq
            go_wp2
            go_meet
            case rel => exact ⟨rfl, HB11⟩
      case rest =>
        obtain ⟨rfl, HB11⟩ := hcut
        clear r0 r1 r2
        have hb2c := HB210.out.trans (HB11.out.mono HB210.out.size)
        have HB2c := Lib.hid hb2c
        have hb0c := HB.out.trans (hb2c.mono HB.out.size)
        have HB0c := Lib.hid hb0c
        obtain ⟨s0, s1, s2⟩ := HQX.out wc hb2c
        have CPP := Lib.hid (CP.out (by rw [HN.out]; have := HN70.out; omega) wc hb0c)
        clear hb2c hb0c
        go_wp2_with fail
        refine CPP.out.mono ?_
        intro e w12 hpub
        unfold PubPost at hpub
        simp only at hpub
        obtain ⟨⟨va, rfl, -, hshelf⟩, hb12⟩ := hpub
        have hb212 := HB2c.out.trans (hb12.mono HB2c.out.size)
        have HB212 := Lib.hid hb212
        have HB012 := Lib.hid (HB.out.trans (hb212.mono HB.out.size))
        obtain ⟨pe, hpe⟩ : ∃ e, pubE l ⟨ver, st, ln⟩ = e := ⟨_, rfl⟩
        rw [hpe] at hshelf ⊢
        have HPE := Lib.hid hpe
        have HSH := Lib.hid hshelf
        obtain ⟨p0, p1, p2⟩ := HQX.out w12 hb212
        clear s0 s1 s2 hpe hshelf hb12 hb212
        by_cases hp0 : pe = 0
        · have e6 : (pe != 0) = false := by simpa using hp0
          have hN := HSH.out hp0
          have HNN := Lib.hid hN
          have HPZ : Hid (pubE l ⟨ver, st, ln⟩ = 0) := HPE.out.trans hp0
          clear hp0 hN
          have CQ := Lib.hid (fun (V : World) (hV : Below w12.heap.size w12 V) => HQX.out V (HB212.out.trans (hV.mono HB212.out.size)))
          have HL : Hid (∀ V : World, Below w12.heap.size w12 V → Gs 3 csX V (.slice a k c) l) := fun V hV => (HH.out.below (HB012.out.trans (hV.mono HB012.out.size))).1
          have B1 : Hid (Below w12.heap.size w12 ((w12.alloc (.cells #[] 95)).drew)) := by show Below _ _ _; exact bl_dr (bl_al (Below.refl _ _) _)
          have R1 := Lib.hid (HL.out _ B1.out)
          have B2 : Hid (Below w12.heap.size w12 (((w12.alloc (.cells #[] 95)).alloc (.cells #[.int .i64 ver, .slice xa xn xc, .slice ya yn yc] 95)).drew)) := by show Below _ _ _; exact bl_dr (bl_al (bl_al (Below.refl _ _) _) _)
          have R2 := Lib.hid (HL.out _ B2.out)
          have B3 : Hid (Below w12.heap.size w12 (((w12.alloc (.cells #[.int .i64 ver, .slice xa xn xc, .slice ya yn yc] 95)).alloc (.cells #[] 95)).drew)) := by show Below _ _ _; exact bl_dr (bl_al (bl_al (Below.refl _ _) _) _)
          have R3 := Lib.hid (HL.out _ B3.out)
          have G1 : Hid (Gw 3 csX ((w12.alloc (.cells #[] 95)).drew) w12.heap.size 95 (.slice (some ⟨w12.heap.size, 0, none⟩) 0 0) ([] : List NetX)) := (gw_lit layX w12 95 #[] ([] : List NetX) 0 rfl (by decide) rfl).below (bl_dr (Below.refl _ _))
          have G2 : Hid (Gw 3 csX (((w12.alloc (.cells #[] 95)).alloc (.cells #[.int .i64 ver, .slice xa xn xc, .slice ya yn yc] 95)).drew) w12.heap.size 95 (.slice (some ⟨w12.heap.size, 0, none⟩) 0 0) ([] : List NetX)) := (gw_lit layX w12 95 #[] ([] : List NetX) 0 rfl (by decide) rfl).below (bl_dr (bl_al (Below.refl _ _) _))
          have G3 : Hid (Gw 3 csX (((w12.alloc (.cells #[.int .i64 ver, .slice xa xn xc, .slice ya yn yc] 95)).alloc (.cells #[] 95)).drew) w12.heap.size 95 (.slice (some ⟨w12.heap.size + 1, 0, none⟩) 0 0) ([] : List NetX)) := by
            have := ((gw_lit layX (w12.alloc (.cells #[.int .i64 ver, .slice xa xn xc, .slice ya yn yc] 95)) 95 #[] ([] : List NetX) 0 rfl (by decide) rfl).below (bl_dr (Below.refl _ _))).mono (B' := w12.heap.size) (by simp)
            rw [show (w12.alloc (.cells #[.int .i64 ver, .slice xa xn xc, .slice ya yn yc] 95)).heap.size = w12.heap.size + 1 by simp] at this
            exact this
          have L2 : Hid (Gs 3 csX (((w12.alloc (.cells #[] 95)).alloc (.cells #[.int .i64 ver, .slice xa xn xc, .slice ya yn yc] 95)).drew) (.slice (some ⟨w12.heap.size + 1, 0, none⟩) 1 1) [((⟨ver, st, ln⟩, (xa, xn, xc), (ya, yn, yc)) : NetX)]) := by
            have := (gw_lit layX (w12.alloc (.cells #[] 95)) 95 #[.int .i64 ver, .slice xa xn xc, .slice ya yn yc] [((⟨ver, st, ln⟩, (xa, xn, xc), (ya, yn, yc)) : NetX)] 1 rfl (by decide) rfl).gs.below (bl_dr (Below.refl _ _))
            rw [show (w12.alloc (.cells #[] 95)).heap.size = w12.heap.size + 1 by simp] at this
            exact this
          have L3 : Hid (Gs 3 csX (((w12.alloc (.cells #[.int .i64 ver, .slice xa xn xc, .slice ya yn yc] 95)).alloc (.cells #[] 95)).drew) (.slice (some ⟨w12.heap.size, 0, none⟩) 1 1) [((⟨ver, st, ln⟩, (xa, xn, xc), (ya, yn, yc)) : NetX)]) := (gw_lit layX w12 95 #[.int .i64 ver, .slice xa xn xc, .slice ya yn yc] [((⟨ver, st, ln⟩, (xa, xn, xc), (ya, yn, yc)) : NetX)] 1 rfl (by decide) rfl).gs.below (bl_dr (bl_al (Below.refl _ _) _))
          have S1 : Hid ((([] : List NetX).length + l.length) * 56 ≤ 140737488355328) := by have := HN70.out; have := HN.out; show _ ≤ _; simp; omega
          have S2 : Hid ((([] : List NetX).length + l.length) ≤ 9223372036854775807) := by have := HN70.out; have := HN.out; show _ ≤ _; simp; omega
          have S3 : Hid (((([] : List NetX) ++ l).length + [((⟨ver, st, ln⟩, (xa, xn, xc), (ya, yn, yc)) : NetX)].length) * 56 ≤ 140737488355328) := by have := HN70.out; have := HN.out; show _ ≤ _; simp; omega
          have S4 : Hid (((([] : List NetX) ++ l).length + [((⟨ver, st, ln⟩, (xa, xn, xc), (ya, yn, yc)) : NetX)].length) ≤ 9223372036854775807) := by have := HN70.out; have := HN.out; show _ ≤ _; simp; omega
          have z0 : ∀ ob, (w12.alloc ob).cell? ⟨q, 0, none⟩ = some (.int .i64 ver) := fun ob => (CQ.out _ (bl_al (Below.refl _ _) ob)).1
          have z1 : ∀ ob, (w12.alloc ob).cell? ⟨q, 1, none⟩ = some (.slice xa xn xc) := fun ob => (CQ.out _ (bl_al (Below.refl _ _) ob)).2.1
          have z2 : ∀ ob, (w12.alloc ob).cell? ⟨q, 2, none⟩ = some (.slice ya yn yc) := fun ob => (CQ.out _ (bl_al (Below.refl _ _) ob)).2.2
          have HR0 := Lib.hid (And.intro p0 (And.intro p1 p2))
          go_upto_region 22 with fail
          go_cut [105, 106, 107] (fun s5 s6 s7 wx => ∃ a14 c14, s5 = .slice a14 (k + 1) c14 ∧ s6 = .int .i64 ((k + 1 : Nat) : Int) ∧ s7 = .int .i64 0 ∧ Hid (Gs 3 csX wx (.slice a14 (k + 1) c14) (l ++ [((⟨ver, st, ln⟩, (xa, xn, xc), (ya, yn, yc)) : NetX)])) ∧ Hid (Below w12.heap.size w12 wx))
          case first =>
--<A
           go_region_law (first
            | (refine step_append_gs2 layX G1.out R1.out elNet S1.out S2.out B1.out.size ?_ _ _ rfl rfl rfl rfl; intro v13 w13 hg13 hb13 hgr13; have hb1213 := B1.out.trans hb13; obtain ⟨t0, t1, t2⟩ := CQ.out w13 hb1213; have HG13 := Lib.hid hg13; have HB13 := Lib.hid hb1213; clear hg13 hb13 hgr13 hb1213)
            | (refine step_append_gs2 layX G2.out R2.out elNet S1.out S2.out B2.out.size ?_ _ _ rfl rfl rfl rfl; intro v13 w13 hg13 hb13 hgr13; have hb1213 := B2.out.trans hb13; obtain ⟨t0, t1, t2⟩ := CQ.out w13 hb1213; have LT := Lib.hid (Gs.only L2.out (grown_only hgr13) (fun k hk hk2 => by simp [Value.ownBlock] at hk hk2; omega)); have HG13 := Lib.hid hg13; have HB13 := Lib.hid hb1213; clear hg13 hb13 hgr13 hb1213)
            | (refine step_append_gs2 layX G3.out R3.out elNet S1.out S2.out B3.out.size ?_ _ _ rfl rfl rfl rfl; intro v13 w13 hg13 hb13 hgr13; have hb1213 := B3.out.trans hb13; obtain ⟨t0, t1, t2⟩ := CQ.out w13 hb1213; have LT := Lib.hid (Gs.only L3.out (grown_only hgr13) (fun k hk hk2 => by simp [Value.ownBlock] at hk hk2; omega)); have HG13 := Lib.hid hg13; have HB13 := Lib.hid hb1213; clear hg13 hb13 hgr13 hb1213)
            | (revert HG13; intro HG13; refine step_append_gs2 layX (HG13.out.below (bl_al (Below.refl _ _) _)) ((gw_lit layX w13 95 #[.int .i64 ver, .slice xa xn xc, .slice ya yn yc] [((⟨ver, st, ln⟩, (xa, xn, xc), (ya, yn, yc)) : NetX)] 1 rfl (by decide) rfl).gs) elNet S3.out S4.out (bl_al HB13.out (.cells #[.int .i64 ver, .slice xa xn xc, .slice ya yn yc] 95)).size ?_ _ _ rfl rfl rfl rfl; intro v14 w14 hg14 hb14 _; obtain ⟨a14, c14, hv14⟩ : ∃ a c, v14 = .slice a (k + 1) c := (by obtain ⟨a, c, h⟩ := hg14.gs.shape; exact ⟨a, c, (by rw [h]; simp [HN.out])⟩); subst hv14; have H14 := Lib.hid hg14.gs; have HB14 := Lib.hid ((bl_al HB13.out (.cells #[.int .i64 ver, .slice xa xn xc, .slice ya yn yc] 95)).trans hb14); clear hg14 hb14)
            | (revert HG13; intro HG13; refine step_append_gs2 layX HG13.out LT.out elNet S3.out S4.out HB13.out.size ?_ _ _ rfl rfl rfl rfl; intro v14 w14 hg14 hb14 _; obtain ⟨a14, c14, hv14⟩ : ∃ a c, v14 = .slice a (k + 1) c := (by obtain ⟨a, c, h⟩ := hg14.gs.shape; exact ⟨a, c, (by rw [h]; simp [HN.out])⟩); subst hv14; have H14 := Lib.hid hg14.gs; have HB14 := Lib.hid (HB13.out.trans hb14); clear hg14 hb14))
           all_goals
            go_wp2
            go_meet
            case rel => exact ⟨_, _, rfl, rfl, rfl, H14, HB14⟩
-->A
          case rest =>
            clear G1 G2 G3 L2 L3 R1 R2 R3 B1 B2 B3 z0 z1 z2 S1 S2 S3 S4 p0 p1 p2
            obtain ⟨a14, c14, rfl, rfl, rfl, H14, HB14⟩ := hcut
            obtain ⟨W0, hW0⟩ : ∃ V, V = wc := ⟨_, rfl⟩
            subst hW0
            have HB0 := Lib.hid (HB012.out.trans (HB14.out.mono HB012.out.size))
            obtain ⟨m, hm⟩ : ∃ m, l ++ [((⟨ver, st, ln⟩, (xa, xn, xc), (ya, yn, yc)) : NetX)] = m := ⟨_, rfl⟩
            have HM := Lib.hid hm
            have hinj := fun i j a b => pub_inj (l := l) (x := ((⟨ver, st, ln⟩, (xa, xn, xc), (ya, yn, yc)) : NetX)) HPZ.out i j a b
            have hmlen : m.length = k + 1 := by rw [← hm]; simp [HN.out]
            have hmv : ∀ y ∈ m, NetIs w y := by
              intro y hy
              rw [← hm] at hy
              rcases List.mem_append.1 hy with hy | hy
              · exact HH.out.2 y hy
              · simp only [List.mem_singleton] at hy
                subst hy
                exact HX.out
            have hlast : m[m.length - 1]? = some ((⟨ver, st, ln⟩, (xa, xn, xc), (ya, yn, yc)) : NetX) := by
              rw [hmlen, ← hm, List.getElem?_append_right (by have := HN.out; omega)]
              simp [HN.out]
            have hNN := HNN.out
            rw [hm] at H14 hinj hNN
            have HINJ := Lib.hid hinj
            have HMV := Lib.hid hmv
            have HMLEN := Lib.hid hmlen
            have CI2 := Lib.hid (fun (V : World) (zz : Int) (hV : Below w12.heap.size w12 V) => vFind_any _ _ zz V (hNN.below hV))
            have CLL := Lib.hid (fun (V : World) (hV : Below w12.heap.size w12 V) => vLatest_some _ _ _ V (hNN.below hV) hlast)
            obtain ⟨N, hNk⟩ : ∃ N, k + 1 = N := ⟨_, rfl⟩
            rw [hNk] at H14 ⊢
            have hmN : m.length = N := hmlen.trans hNk
            have HMN := Lib.hid hmN
            have HN71 : Hid (N ≤ 71) := by show N ≤ 71; have := HN70.out; omega
            obtain ⟨a15, c15, b5, o5, hsv5, k1, k2, hix5, hlt5, hcell5, -⟩ := H14.out.open_n layX elNet N hmN
            obtain ⟨rfl, rfl⟩ : a14 = a15 ∧ c14 = c15 := by simpa using hsv5
            have HC5 := Lib.hid hcell5
            have HLT5 := Lib.hid hlt5
            clear hm hinj hmlen hmv hlast hNN hNk hmN hsv5 hcell5 hlt5
            go_wp2_with fail
            go_loopw [107] (fun vi wr => ∃ j : Nat, j ≤ N ∧ vi = .int .i64 j ∧ Hid (Below W0.heap.size W0 wr)) (fun vi _ => N - (intOf vi).toNat)
            case atStart => exact ⟨0, by omega, rfl, Below.refl _ _⟩
            case round =>
              obtain ⟨j, hj, rfl, HBj⟩ := hrel
              by_cases hlt : j < N
              · have e2 : (j : Int) < N := by omega
                obtain ⟨y, hs⟩ : ∃ s, m[j]? = some s := ⟨_, List.getElem?_eq_getElem (by have := HMN.out; omega)⟩
                have c0 := HC5.out j y hs 0 _ rfl
                have c1 := HC5.out j y hs 1 _ rfl
                have c2 := HC5.out j y hs 2 _ rfl
                rw [Nat.add_zero] at c0
                have hbl := HLT5.out j hlt
                rw [← HBj.out.cell (by exact hbl)] at c0 c1 c2
                have hixk := fun W => hix5 W j hlt
                obtain ⟨W7, hW7⟩ : ∃ V, wr.alloc (.cells #[.int .i64 y.1.ver, Sl3.v y.2.1, Sl3.v y.2.2] 95) = V := ⟨_, rfl⟩
                obtain ⟨g7, hg7⟩ : ∃ g, wr.heap.size = g := ⟨_, rfl⟩
                have hr7 : NB W7 g7 y := by rw [← hW7, ← hg7]; exact NB.new _ _
                have hb7 : Below wr.heap.size wr W7 := by rw [← hW7]; exact (Below.refl _ _).alloc (Nat.le_refl _) _
                have hb07 := HBj.out.trans (hb7.mono HBj.out.size)
                have HB7 := Lib.hid hb07
                have hb127 := HB14.out.trans (hb07.mono HB14.out.size)
                have CIY := Lib.hid (CI2.out W7 y.1.ver hb127)
                have CSY := Lib.hid (fun (V : World) (hV : Below W7.heap.size W7 V) => CS.out y V ((HMV.out y (List.mem_of_getElem? hs)).below (HB012.out.trans ((hb127.trans (hV.mono hb127.size)).mono HB012.out.size))))
                have HYV : Hid (vnone m y.1.ver j) := fun i z2 hi hz2 he => by
                  have := HINJ.out i j z2 y hz2 hs he
                  omega
                have HS := Lib.hid hs
                have HR7 := Lib.hid hr7
                obtain ⟨u0, u1, u2⟩ := hr7.cells
                obtain ⟨⟨yv, yst, yln⟩, ⟨ya1, yn1, yc1⟩, ⟨yb1, ym1, yd1⟩⟩ := y
                unfold Net.agg at CSY
                unfold Sl3.v at c1 c2 hW7 CSY u1 u2
                simp only at c0 c1 c2 hW7 CSY CIY u0 u1 u2
                have HW7 := Lib.hid hW7
                have HG7 := Lib.hid hg7
                have HLTK := Lib.hid hlt
                clear hs hbl hr7 hb7 hb07 hb127 hW7 hg7 hlt
                go_upto_region 25 with fail
                rw [HW7.out, HG7.out]
                clear c0 c1 c2
                go_wp2_with fail
                refine CIY.out.mono ?_
                intro e w8 hf
                obtain ⟨okk, xf, rfl, hfnd, hb8⟩ := hf.fnd
                obtain ⟨rfl, heq⟩ := hfnd.1 j _ HYV.out HS.out rfl
                subst heq
                obtain ⟨W9, hW9⟩ : ∃ V, w8.alloc (.cells #[.int .i64 yv, .slice ya1 yn1 yc1, .slice yb1 ym1 yd1] 95) = V := ⟨_, rfl⟩
                obtain ⟨g9, hg9⟩ : ∃ g, w8.heap.size = g := ⟨_, rfl⟩
                have hr9 : NB W9 g9 (⟨yv, yst, yln⟩, (ya1, yn1, yc1), (yb1, ym1, yd1)) := by rw [← hW9, ← hg9]; exact NB.new w8 (⟨yv, yst, yln⟩, (ya1, yn1, yc1), (yb1, ym1, yd1))
                have hb9 : Below w8.heap.size w8 W9 := by rw [← hW9]; exact (Below.refl _ _).alloc (Nat.le_refl _) _
                have hb79 := hb8.trans (hb9.mono hb8.size)
                have HB9 := Lib.hid (HB7.out.trans (hb79.mono HB7.out.size))
                have CSZ := Lib.hid (CSY.out W9 hb79)
                obtain ⟨u0, u1, u2⟩ := (HR7.out.below hb79).cells
                obtain ⟨t0, t1, t2⟩ := hr9.cells
                unfold NetX.agg Net.agg
                unfold Sl3.v at u1 u2 t1 t2 ⊢
                simp only at u0 u1 u2 t0 t1 t2 ⊢
                have HW9 := Lib.hid hW9
                have HG9 := Lib.hid hg9
                clear hf hfnd hb8 hb9 hb79 hr9 hW9 hg9
                go_upto_region 26 with fail
                rw [HW9.out, HG9.out]
                go_wp2_with fail
                refine CSZ.out.mono ?_
                rintro e w10 ⟨rfl, hb10⟩
                have hf2 : Hid (Below W0.heap.size W0 w10) := HB9.out.trans (hb10.mono HB9.out.size)
                clear hb10 u0 u1 u2 t0 t1 t2
                go_wp2
                go_roundw
                case rel => exact ⟨j + 1, by have := HLTK.out; omega, by go_num, hf2⟩
                case measure => simp [intOf]; have := HLTK.out; omega
              · obtain rfl : j = N := by omega
                have e2 : ¬ (j : Int) < j := by omega
                have HB12j := Lib.hid (HB14.out.trans (HBj.out.mono HB14.out.size))
                have HB0j := Lib.hid (HB0.out.trans (HBj.out.mono HB0.out.size))
                go_wp2_with fail
                refine (CLL.out wr HB12j.out).mono ?_
                rintro e w8 ⟨rfl, hb8⟩
                obtain ⟨W9, hW9⟩ : ∃ V, w8.alloc (.cells #[.int .i64 ver, .slice xa xn xc, .slice ya yn yc] 95) = V := ⟨_, rfl⟩
                obtain ⟨g9, hg9⟩ : ∃ g, w8.heap.size = g := ⟨_, rfl⟩
                have hr9 : NB W9 g9 (⟨ver, st, ln⟩, (xa, xn, xc), (ya, yn, yc)) := by rw [← hW9, ← hg9]; exact NB.new w8 (⟨ver, st, ln⟩, (xa, xn, xc), (ya, yn, yc))
                have hb9 : Below w8.heap.size w8 W9 := by rw [← hW9]; exact (Below.refl _ _).alloc (Nat.le_refl _) _
                have hb79 := hb8.trans (hb9.mono hb8.size)
                have hb129 := HB12j.out.trans (hb79.mono HB12j.out.size)
                have hb09 := HB012.out.trans (hb129.mono HB012.out.size)
                have HB09 := Lib.hid hb09
                have CSZ := Lib.hid (CS.out _ W9 (HX.out.below hb09))
                obtain ⟨u0, u1, u2⟩ := HQX.out W9 (HB212.out.trans (hb129.mono HB212.out.size))
                obtain ⟨t0, t1, t2⟩ := hr9.cells
                unfold NetX.agg Net.agg
                unfold Net.agg at CSZ
                unfold Sl3.v at t1 t2 CSZ ⊢
                simp only at t0 t1 t2 CSZ ⊢
                have HW9 := Lib.hid hW9
                have HG9 := Lib.hid hg9
                clear hb8 hb9 hb79 hb129 hb09 hr9 hW9 hg9
                go_upto_region 30 with fail
                rw [HW9.out, HG9.out]
                go_wp2_with fail
                refine CSZ.out.mono ?_
                rintro e w10 ⟨rfl, hb10⟩
                have hf2 : Hid (Below w.heap.size w w10) := HB09.out.trans (hb10.mono HB09.out.size)
                clear hb10 u0 u1 u2 t0 t1 t2
                go_wp2
                go_ret
                exact ⟨rfl, hf2.out⟩
        · have e6 : (pe != 0) = true := by simpa using hp0
          clear hp0
          go_wp2
          go_ret
          exact ⟨rfl, HB012.out⟩

end Go.Proofs.Ytbonapdainlpjaa
