/- Layer 56 (roster), the document's side: Same of equal rosters; Class. -/
import Derived.Test.YtjnbdeopoohnmaaRt6
import Derived.Laws.StructEq
import Derived.Deep.DeepCutAuto
import Derived.Deep.CutBlock
import Derived.Lib.QuietBelow
import Derived.Lib.SliceRun
set_option linter.unusedSimpArgs false
namespace Go.Proofs.Ytjnbdeopoohnmaa
open Go.RowKit Go.Sort

theorem eq_spell (a b c d : Int) (w : World) : (Op.equalIn 10000 49 (.agg #[.int .i64 a, .int .i64 b]) (.agg #[.int .i64 c, .int .i64 d])).run Try.prog w = .ok (a == c && b == d) w := by
  have u3 := Try.underlying3
  have a3 := Try.isAgg3
  have z3 := Try.sizeOf3
  have hS : Try.prog.underlying 49 = some (.struct (Try.prog.fieldsOf 49)) := by kernel_rfl
  rw [show (10000 : Nat) = 9999 + 1 from rfl, run_equalIn_agg w 9999 49 _ _ hS (by kernel_rfl)]
  simp only [Program.fieldsOf, Try.underlying49]
  go_simp
  by_cases h1 : a = c <;> by_cases h2 : b = d <;> simp [h1, h2]

set_option maxRecDepth 100000 in
set_option maxHeartbeats 1600000 in
theorem rrtSame_yes (v u : Value) (l m : List AcX) (w : World) (h : Acs w v l) (hu : Acs w u m) (hD : accD l = accD m) : Calls Try.prog 26 #[v, u] w fun e w' => e = .returned (.bool true) ∧ Below w.heap.size w w' := by
  obtain ⟨n, hn⟩ : ∃ n, l.length = n := ⟨_, rfl⟩
  have hnm : m.length = n := by have := congrArg List.length hD; rw [accD_len, accD_len] at this; omega
  obtain ⟨a, c, b, o, rfl, h1, h2, hix, hlt', hcell, -⟩ := h.1.open_n layA elA n hn
  obtain ⟨a2, c2, b2, o2, rfl, h3, h4, hix2, hlt2, hcell2, -⟩ := hu.1.open_n layA elA n hnm
  have HC := Lib.hid hcell
  have HC2 := Lib.hid hcell2
  have HN := Lib.hid hn
  have HNM := Lib.hid hnm
  have HLT := Lib.hid hlt'
  have HLT2 := Lib.hid hlt2
  have HX := Lib.hid h.2
  have HX2 := Lib.hid hu.2
  have HD : Hid (∀ (k : Nat) (x y : AcX), l[k]? = some x → m[k]? = some y → x.1 = y.1) := fun k x y hx hy => by
    have h1 := accD_get hx
    rw [hD, accD_get hy] at h1
    exact (Option.some.inj h1).symm
  have hn63 : n ≤ 9223372036854775807 := by omega
  have hnn : ((n : Int) != n) = false := by simp
  clear h hu hn hnm hcell hlt' hcell2 hlt2 hD
  go_enter Try.func26, Try.ntmps26
  go_wp2_with fail
  go_loopw [5] (fun vi wr => ∃ k : Nat, k ≤ n ∧ vi = .int .i64 k ∧ Hid (Below w.heap.size w wr)) (fun vi _ => n - (intOf vi).toNat)
  case atStart => exact ⟨0, by omega, rfl, Below.refl _ _⟩
  case round =>
    obtain ⟨k, hk, rfl, HB⟩ := hrel
    by_cases hlt : k < n
    · have e2 : (k : Int) < n := by omega
      obtain ⟨x, hs⟩ : ∃ s, l[k]? = some s := ⟨_, List.getElem?_eq_getElem (by have := HN.out; omega)⟩
      obtain ⟨y, hy⟩ : ∃ s, m[k]? = some s := ⟨_, List.getElem?_eq_getElem (by have := HNM.out; omega)⟩
      have hxy := HD.out k x y hs hy
      have m0 := HC.out k x hs 0 _ rfl
      have m1 := HC.out k x hs 1 _ rfl
      have m2 := HC.out k x hs 2 _ rfl
      have p0 := HC2.out k y hy 0 _ rfl
      have p1 := HC2.out k y hy 1 _ rfl
      have p2 := HC2.out k y hy 2 _ rfl
      rw [Nat.add_zero] at m0 p0
      rw [← HB.out.cell (by exact HLT.out k hlt)] at m0 m1 m2
      rw [← HB.out.cell (by exact HLT2.out k hlt)] at p0 p1 p2
      have hixk := fun W => hix W k hlt
      have hixk2 := fun W => hix2 W k hlt
      have hxv := (HX.out x (List.mem_of_getElem? hs)).1
      have hyv := (HX2.out y (List.mem_of_getElem? hy)).1
      obtain ⟨⟨id, bl, sp⟩, ⟨xa, xn, xc⟩⟩ := x
      obtain ⟨⟨id2, bl2, sp2⟩, ⟨ya, yn, yc⟩⟩ := y
      simp only [AcD.mk.injEq] at hxy
      obtain ⟨rfl, rfl, rfl⟩ := hxy
      unfold Sl3.v at m2 p2 hxv hyv
      simp only at m0 m1 m2 p0 p1 p2 hxv hyv
      have hxl : sp.length = xn := hxv.len_eq.1.symm
      obtain rfl : yn = xn := by rw [← hxl]; exact hyv.len_eq.1
      obtain ⟨sa, sc, sb, so, he, y1, y2, yix, ylt, ycell, -⟩ := hxv.open_n layS elS yn hxl
      simp only [Value.slice.injEq, true_and] at he
      obtain ⟨rfl, rfl⟩ := he
      obtain ⟨ta, tc, tb, tq, he, y3, y4, zix, zlt, zcell, -⟩ := hyv.open_n layS elS yn hxl
      simp only [Value.slice.injEq, true_and] at he
      obtain ⟨rfl, rfl⟩ := he
      have HQ := Lib.hid (fun (V : World) (hV : Below wr.heap.size wr V) => (And.intro ((hV.cell (p := ⟨b, o k + 2, none⟩) (World.block_lt_of_cell? wr _ m2)).trans m2) ((hV.cell (p := ⟨b2, o2 k + 2, none⟩) (World.block_lt_of_cell? wr _ p2)).trans p2) : V.cell? ⟨b, o k + 2, none⟩ = some (.slice xa yn xc) ∧ V.cell? ⟨b2, o2 k + 2, none⟩ = some (.slice ya yn yc)))
      have r0 := fun d os => cell_regrown m0 d os
      have r1 := fun d os => cell_regrown m1 d os
      have r2 := fun d os => cell_regrown m2 d os
      have r3 := fun d os => cell_regrown p0 d os
      have r4 := fun d os => cell_regrown p1 d os
      have r5 := fun d os => cell_regrown p2 d os
      have HLTK := Lib.hid hlt
      have HYL := Lib.hid ylt
      have HZL := Lib.hid zlt
      have HYC := Lib.hid ycell
      have HZC := Lib.hid zcell
      have HXL := Lib.hid hxl
      have hyn63 : yn ≤ 9223372036854775807 := by omega
      have hnn2 : ((yn : Int) != yn) = false := by simp
      clear hs hy hxv hyv hxl ylt zlt ycell zcell hlt
      go_upto_region 6 with fail
      clear m0 m1 m2 p0 p1 p2
      refine wp_region_quiet_below (by kernel_rfl) (by kernel_rfl) ?_
      repeat (go_big_quiet_step ((fail)))
      refine wpQuiet_nil ?_
      intro _ hw'
      obtain ⟨⟨dq, osq⟩, hw''⟩ := hw'
      subst hw''
      have HB2 := below_regrown wr dq osq
      obtain ⟨W2, hwq⟩ : ∃ x, x = grow (redrawn wr dq) osq := ⟨_, rfl⟩
      rw [← hwq] at HB2 ⊢
      clear hwq
      have HB2' := Lib.hid HB2
      have hq2 := HQ.out W2 HB2
      obtain ⟨g0, g1⟩ := hq2
      have HBW2 := Lib.hid (HB.out.trans (HB2.mono HB.out.size))
      clear HB2 r0 r1 r2 r3 r4 r5
      go_wp2_with fail
      obtain ⟨V1, hV1⟩ : ∃ V, wr = V := ⟨_, rfl⟩
      rw [hV1] at HB2' HQ HB
      clear hV1
      go_loopw [6] (fun vi wr => ∃ j : Nat, j ≤ yn ∧ vi = .int .i64 j ∧ Hid (Below W2.heap.size W2 wr)) (fun vi _ => yn - (intOf vi).toNat)
      case atStart => exact ⟨0, by omega, rfl, Below.refl _ _⟩
      case round =>
        obtain ⟨j, hj, rfl, HBJ⟩ := hrel
        have hbv : Below V1.heap.size V1 wr := HB2'.out.trans (HBJ.out.mono HB2'.out.size)
        have hq2 := HQ.out wr hbv
        obtain ⟨g0, g1⟩ := hq2
        have hbw : Below w.heap.size w wr := HBW2.out.trans (HBJ.out.mono HBW2.out.size)
        by_cases hlt : j < yn
        · have e4 : (j : Int) < yn := by omega
          obtain ⟨s, hs⟩ : ∃ s, sp[j]? = some s := ⟨_, List.getElem?_eq_getElem (by have := HXL.out; omega)⟩
          have m0 := HYC.out j s hs 0 _ rfl
          have m1 := HYC.out j s hs 1 _ rfl
          have p0 := HZC.out j s hs 0 _ rfl
          have p1 := HZC.out j s hs 1 _ rfl
          rw [Nat.add_zero] at m0 p0
          rw [← hbw.cell (by exact HYL.out j hlt)] at m0 m1
          rw [← hbw.cell (by exact HZL.out j hlt)] at p0 p1
          have i1 := fun W => yix W j hlt
          have i2 := fun W => zix W j hlt
          obtain ⟨f, cc⟩ := s
          simp only at m0 m1 p0 p1
          have hEQ : ∀ V : World, (Op.equalIn 10000 49 (.agg #[.int .i64 f, .int .i64 cc]) (.agg #[.int .i64 f, .int .i64 cc])).run Try.prog V = .ok true V := fun V => by rw [eq_spell]; simp
          have r0 := fun d os => cell_regrown m0 d os
          have r1 := fun d os => cell_regrown m1 d os
          have r3 := fun d os => cell_regrown p0 d os
          have r4 := fun d os => cell_regrown p1 d os
          have r5 := fun d os => cell_regrown g0 d os
          have r6 := fun d os => cell_regrown g1 d os
          have HLTJ := Lib.hid hlt
          clear hs hbv hbw hlt
          go_upto_region 11 with fail
          clear m0 m1 p0 p1 g0 g1
          refine wp_region_quiet_below (by kernel_rfl) (by kernel_rfl) ?_
          repeat (go_big_quiet_step ((fail)))
          refine wpQuiet_nil ?_
          intro _ hw'
          obtain ⟨⟨dq, osq⟩, hw''⟩ := hw'
          subst hw''
          have HB3 := below_regrown wr dq osq
          obtain ⟨W3, hwq⟩ : ∃ x, x = grow (redrawn wr dq) osq := ⟨_, rfl⟩
          rw [← hwq] at HB3 ⊢
          clear hwq
          have hf : Hid (Below W2.heap.size W2 W3) := HBJ.out.trans (HB3.mono HBJ.out.size)
          clear HB3
          go_wp2
          go_roundw
          case rel => exact ⟨j + 1, by have := HLTJ.out; omega, by go_num, hf⟩
          case measure => simp [intOf]; have := HLTJ.out; omega
        · obtain rfl : j = yn := by omega
          have e4 : ¬ (j : Int) < j := by omega
          have HBW := Lib.hid hbw
          clear hbw hbv hlt
          go_wp2
          go_roundw
          case rel => exact ⟨k + 1, by have := HLTK.out; omega, by go_num, HBW⟩
          case measure => simp [intOf]; have := HLTK.out; omega
    · obtain rfl : k = n := by omega
      have e2 : ¬ (k : Int) < k := by omega
      go_wp2
      go_ret
      exact ⟨rfl, HB.out⟩
theorem aright_one (d : AcD) : aright [d] = aone d := by
  unfold aright
  show (aTo [d] 1 && decide (1 ≤ 4096)) = _
  rw [aTo_next, aAt0 rfl]
  simp [aTo]
theorem acs_one {w w' : World} {x : AcX} (h : AcV w x) (hb : Below w.heap.size w w') (hr : w'.heap[w.heap.size]? = some (.cells #[.int .i64 x.1.id, .int .i64 x.1.bl, Sl3.v x.2] 43 (0, 0))) : Acs w' (.slice (some ⟨w.heap.size, 0, none⟩) 1 1) [x] :=
  ⟨((⟨by simp, by decide, _, hr, rfl, by rfl⟩ : Row 3 csA w' 43 w.heap.size 1 [x]).gw layA (B := 0) (Nat.zero_le _)).gs, fun y hy => by simp only [List.mem_singleton] at hy; subst hy; exact h.below hb⟩

/-- the document's class begins with none -/
theorem classV_ref (x : AcD) (t : Int) (h1 : aone x = true) (h2 : 0 ≤ t) : sclass x.sp t (-1) = sclass x.sp t 0 := by
  obtain ⟨_, _, _, _, _, _, h3, _⟩ := aone_wf h1
  cases hsp : x.sp with
  | nil => rw [hsp] at h3; cases h3
  | cons s r =>
    rw [hsp] at h3
    have : s.1 = 0 := of_decide_eq_true h3
    exact sclass_start rfl (by omega) _ _

set_option maxRecDepth 100000 in
set_option maxHeartbeats 1600000 in
theorem rrtClass_any (x : AcX) (t : Int) (w : World) (h : AcV w x) : Calls Try.prog 34 #[x.agg, .int .i64 t] w fun e w' => e = .returned (.tuple #[.int .i64 (classV x.1 t), .int .i64 (classE x.1 t)]) ∧ Below w.heap.size w w' := by
  obtain ⟨q, hq⟩ : ∃ q, w.heap.size = q := ⟨_, rfl⟩
  obtain ⟨W, hW⟩ : ∃ W, w.alloc (.cells #[.int .i64 x.1.id, .int .i64 x.1.bl, Sl3.v x.2] 43) = W := ⟨_, rfl⟩
  have hb0 : Below w.heap.size w W := by rw [← hW]; exact (Below.refl _ _).alloc (Nat.le_refl _) _
  have hr0 : W.heap[q]? = some (.cells #[.int .i64 x.1.id, .int .i64 x.1.bl, Sl3.v x.2] 43 (0, 0)) := by rw [← hW, ← hq]; exact heap_alloc_new _ _
  obtain ⟨W2, hW2⟩ : ∃ V, W.alloc (.cells #[.int .i64 x.1.id, .int .i64 x.1.bl, Sl3.v x.2] 43) = V := ⟨_, rfl⟩
  have hb2 : Below W.heap.size W W2 := by rw [← hW2]; exact (Below.refl _ _).alloc (Nat.le_refl _) _
  have hr2 : W2.heap[W.heap.size]? = some (.cells #[.int .i64 x.1.id, .int .i64 x.1.bl, Sl3.v x.2] 43 (0, 0)) := by rw [← hW2]; exact heap_alloc_new _ _
  have hsz : W.heap.size = q + 1 := by rw [← hW, ← hq]; simp
  have C1 := Lib.hid (rrtRight_any _ [x] W2 (acs_one (h.below hb0) hb2 hr2))
  rw [show accD [x] = [x.1] from rfl, aright_one, hsz] at C1
  have C2 := Lib.hid (fun V => from_any t 0 1099511627776 V)
  have C3 := Lib.hid (fun V (hV : Below w.heap.size w V) => rrtclass_any (Sl3.v x.2) x.1.sp t V (h.1.below hV))
  obtain ⟨b0, hb0'⟩ : ∃ b, aone x.1 = b := ⟨_, rfl⟩
  obtain ⟨b1, hb1'⟩ : ∃ b, decide (0 ≤ t ∧ t ≤ 1099511627776) = b := ⟨_, rfl⟩
  rw [hb0'] at C1
  rw [hb1'] at C2
  obtain ⟨E, hE⟩ : ∃ E, classE x.1 t = E := ⟨_, rfl⟩
  obtain ⟨Z, hZ⟩ : ∃ Z, classV x.1 t = Z := ⟨_, rfl⟩
  have HE : Hid (E = if b0 = false ∨ b1 = false then 2 else if t ≤ x.1.bl then 23 else 0) := by
    show _ = _
    rw [← hE, ← hb0', ← hb1']
    unfold classE
    simp only [decide_eq_false_iff_not]
  have HZ : Hid (Z = if E = 0 then sclass x.1.sp t 0 else 0) := by show _ = _; rw [← hZ]; unfold classV; rw [hE]
  have HCR : Hid (b0 = true → b1 = true → sclass x.1.sp t (-1) = sclass x.1.sp t 0) := fun h1 h2 => classV_ref x.1 t (by rw [hb0', h1]) (of_decide_eq_true (hb1'.trans h2)).1
  rw [hE, hZ]
  have HB := Lib.hid (hb0.trans (hb2.mono hb0.size))
  have HQX := Lib.hid (fun (V : World) (hV : Below W.heap.size W V) => acct_cells ((hV.block q (heap_lt hr0)).trans hr0))
  have HB2 := Lib.hid hb2
  obtain ⟨z0, z1, z2⟩ := HQX.out W (Below.refl _ _)
  obtain ⟨⟨id, bl, sp⟩, ⟨xa, xn, xc⟩⟩ := x
  unfold Sl3.v at *
  unfold AcX.agg at *
  unfold Sl3.v at *
  simp only at *
  clear h hb0 hr0 hb2 hr2 hb0' hb1' hE hZ
  go_enter Try.func34, Try.ntmps34
  go_wp2_with fail
  refine C1.out.mono ?_
  rintro e w2 ⟨rfl, hb2⟩
  have HBW2 := Lib.hid (HB.out.trans (hb2.mono HB.out.size))
  have hq2 := HQX.out w2 (HB2.out.trans (hb2.mono HB2.out.size))
  clear z0 z1 z2 C1
  obtain ⟨z0, z1, z2⟩ := hq2
  clear hb2 hq hW hW2 hsz
  cases b0 with
  | false =>
    have HEE : Hid (E = 2) := by show _ = _; rw [HE.out]; rfl
    have HZZ : Hid (Z = 0) := by show _ = _; rw [HZ.out, HEE.out]; rfl
    go_wp2
    go_ret2
    exact ⟨by rw [HEE.out, HZZ.out]; rfl, HBW2.out⟩
  | true =>
  cases b1 with
  | false =>
    have HEE : Hid (E = 2) := by show _ = _; rw [HE.out]; rfl
    have HZZ : Hid (Z = 0) := by show _ = _; rw [HZ.out, HEE.out]; rfl
    go_wp2_with (go_at_call 61; (with_reducible refine (C2.out _).mono ?_); rintro e w' ⟨rfl, rfl⟩)
    go_ret2
    exact ⟨by rw [HEE.out, HZZ.out]; rfl, HBW2.out⟩
  | true =>
  have HE2 : Hid (E = if t ≤ bl then 23 else 0) := by show _ = _; rw [HE.out]; simp
  by_cases e3 : t ≤ bl
  · have HEE : Hid (E = 23) := by show _ = _; rw [HE2.out, if_pos e3]
    have HZZ : Hid (Z = 0) := by show _ = _; rw [HZ.out, HEE.out]; rfl
    go_wp2_with (go_at_call 61; (with_reducible refine (C2.out _).mono ?_); rintro e w' ⟨rfl, rfl⟩)
    go_ret2
    exact ⟨by rw [HEE.out, HZZ.out]; rfl, HBW2.out⟩
  have HEE : Hid (E = 0) := by show _ = _; rw [HE2.out, if_neg e3]
  have HZZ : Hid (Z = sclass sp t (-1)) := by show _ = _; rw [HZ.out, if_pos HEE.out, HCR.out rfl rfl]
  have C4 := Lib.hid (C3.out w2 HBW2.out)
  clear C3
  go_wp2_with (first | (go_at_call 61; (with_reducible refine (C2.out _).mono ?_); rintro e w' ⟨rfl, rfl⟩) | (go_at_call 64; refine C4.out.mono ?_; rintro e w' ⟨rfl, rfl⟩))
  go_ret2
  exact ⟨by rw [HEE.out, HZZ.out]; rfl, HBW2.out⟩
end Go.Proofs.Ytjnbdeopoohnmaa
