/- Layer 12 (revoke), the document's side: Add and Same. -/
import Derived.Test.YtjnbdeopoohnmaaRv2
import Derived.Laws.StructEq
import Derived.Deep.RegionHeld3
import Derived.Deep.DeepCutAuto
import Derived.Deep.CutBlock
import Derived.Lib.QuietBelow
set_option linter.unusedSimpArgs false
namespace Go.Proofs.Ytjnbdeopoohnmaa
open Go.RowKit Go.Sort

theorem eq_rev (a b c d : Int) (w : World) : (Op.equalIn 10000 29 (.agg #[.int .i64 a, .int .i64 b]) (.agg #[.int .i64 c, .int .i64 d])).run Try.prog w = .ok (a == c && b == d) w := by
  have u3 := Try.underlying3
  have a3 := Try.isAgg3
  have z3 := Try.sizeOf3
  have hS : Try.prog.underlying 29 = some (.struct (Try.prog.fieldsOf 29)) := by kernel_rfl
  rw [show (10000 : Nat) = 9999 + 1 from rfl, run_equalIn_agg w 9999 29 _ _ hS (by kernel_rfl)]
  simp only [Program.fieldsOf, Try.underlying29]
  go_simp
  by_cases h1 : a = c <;> by_cases h2 : b = d <;> simp [h1, h2]

set_option maxRecDepth 100000 in
set_option maxHeartbeats 800000 in
theorem rrSame_yes (v u : Value) (l : List RT) (w : World) (h : Gs 2 csR w v l) (hu : Gs 2 csR w u l) (hl : l.length ≤ 100000) : Calls Try.prog 13 #[v, u] w fun e w' => e = .returned (.bool true) ∧ Below w.heap.size w w' := by
  obtain ⟨n, hn⟩ : ∃ n, l.length = n := ⟨_, rfl⟩
  obtain ⟨a, c, b, o, rfl, h1, h2, hix, hlt', hcell, -⟩ := h.open_n layR elR n hn
  obtain ⟨a2, c2, b2, o2, rfl, h3, h4, hix2, hlt2, hcell2, -⟩ := hu.open_n layR elR n hn
  have HC := Lib.hid hcell
  have HC2 := Lib.hid hcell2
  have HN := Lib.hid hn
  have HLT := Lib.hid hlt'
  have HLT2 := Lib.hid hlt2
  have hn1 : n ≤ 100000 := by omega
  have hnn : ((n : Int) != n) = false := by simp
  clear h hu hn hcell hlt' hcell2 hlt2 hl
  go_enter Try.func13, Try.ntmps13
  go_wp2_with fail
  go_loopw [5] (fun vi wr => ∃ k : Nat, k ≤ n ∧ vi = .int .i64 k ∧ Hid (Below w.heap.size w wr)) (fun vi _ => n - (intOf vi).toNat)
  case atStart => exact ⟨0, by omega, rfl, Below.refl _ _⟩
  case round =>
    obtain ⟨k, hk, rfl, HB⟩ := hrel
    by_cases hlt : k < n
    · have e2 : (k : Int) < n := by omega
      obtain ⟨x, hs⟩ : ∃ s, l[k]? = some s := ⟨_, List.getElem?_eq_getElem (by have := HN.out; omega)⟩
      have m0 := HC.out k x hs 0 _ rfl
      have m1 := HC.out k x hs 1 _ rfl
      have p0 := HC2.out k x hs 0 _ rfl
      have p1 := HC2.out k x hs 1 _ rfl
      rw [Nat.add_zero] at m0 p0
      rw [← HB.out.cell (by exact HLT.out k hlt)] at m0 m1
      rw [← HB.out.cell (by exact HLT2.out k hlt)] at p0 p1
      have hixk := fun W => hix W k hlt
      have hixk2 := fun W => hix2 W k hlt
      obtain ⟨x, y⟩ := x
      simp only at m0 m1 p0 p1
      have hEQ : ∀ V : World, (Op.equalIn 10000 29 (.agg #[.int .i64 x, .int .i64 y]) (.agg #[.int .i64 x, .int .i64 y])).run Try.prog V = .ok true V := fun V => by rw [eq_rev]; simp
      have r0 := fun d os => cell_regrown m0 d os
      have r1 := fun d os => cell_regrown m1 d os
      have r3 := fun d os => cell_regrown p0 d os
      have r4 := fun d os => cell_regrown p1 d os
      have HLTK := Lib.hid hlt
      clear hs
      go_upto_region 6 with fail
      clear m0 m1 p0 p1
      refine wp_region_quiet_below (by kernel_rfl) (by kernel_rfl) ?_
      repeat (go_big_quiet_step ((fail)))
      refine wpQuiet_nil ?_
      intro _ hw'
      obtain ⟨⟨dq, osq⟩, hw''⟩ := hw'
      subst hw''
      have HB2 := below_regrown wr dq osq
      obtain ⟨W2, hwq⟩ : ∃ x, x = grow (redrawn wr dq) osq := ⟨_, rfl⟩
      rw [← hwq] at HB2 ⊢
      clear hwq
      have hf : Hid (Below w.heap.size w W2) := HB.out.trans (HB2.mono HB.out.size)
      clear HB2
      go_wp2
      go_roundw
      case rel => exact ⟨k + 1, by have := HLTK.out; omega, by go_num, hf⟩
      case measure => simp [intOf]; have := HLTK.out; omega
    · obtain rfl : k = n := by omega
      have e2 : ¬ (k : Int) < k := by omega
      go_wp2
      go_ret
      exact ⟨rfl, HB.out⟩

theorem radd_drop {l : List RT} {k : Nat} {y x : RT} {d : Bool} (h : l[k]? = some y) : radd d (l.drop k) x =
    (if x.1 < y.1 ∧ d = false then [x] else []) ++ (if y.1 = x.1 then (y.1, max y.2 x.2) else y) :: radd (d || decide (y.1 = x.1) || decide (x.1 < y.1)) (l.drop (k + 1)) x := by
  obtain ⟨hk, hx⟩ := List.getElem?_eq_some_iff.1 h
  rw [List.drop_eq_getElem_cons hk, hx]
  rfl

set_option maxRecDepth 100000 in
set_option maxHeartbeats 1600000 in
theorem rrAdd_any (v : Value) (l : List RT) (x : RT) (w : World) (h : Gs 2 csR w v l) (hl : l.length ≤ 10000) : Calls Try.prog 12 #[v, .agg #[.int .i64 x.1, .int .i64 x.2]] w fun e w' => ∃ v', e = .returned v' ∧ Gs 2 csR w' v' (radd false l x) ∧ Below w.heap.size w w' := by
  obtain ⟨n, hn⟩ : ∃ n, l.length = n := ⟨_, rfl⟩
  obtain ⟨a, c, b, o, rfl, h1, h2, hix, hlt', hcell, -⟩ := h.open_n layR elR n hn
  have HC := Lib.hid hcell
  have HN := Lib.hid hn
  have HLT := Lib.hid hlt'
  have hn1 : n ≤ 10000 := by omega
  obtain ⟨xt, xu⟩ := x
  simp only
  obtain ⟨W, hW⟩ : ∃ V, w.alloc (.cells #[.int .i64 xt, .int .i64 xu] 29) = V := ⟨_, rfl⟩
  obtain ⟨q, hq⟩ : ∃ q, w.heap.size = q := ⟨_, rfl⟩
  have hB : Below w.heap.size w W := by rw [← hW]; exact (Below.refl _ _).alloc (Nat.le_refl _) _
  have hr : W.heap[q]? = some (.cells #[.int .i64 xt, .int .i64 xu] 29 (0, 0)) := by rw [← hW, ← hq]; exact heap_alloc_new _ _
  have HQX := Lib.hid (fun (V : World) (hV : Below W.heap.size W V) => rev_cells ((hV.block q (heap_lt hr)).trans hr))
  have HW := Lib.hid hW
  have HQ := Lib.hid hq
  have HB := Lib.hid hB
  obtain ⟨T, hT⟩ : ∃ T, radd false l (xt, xu) = T := ⟨_, rfl⟩
  have HTT := Lib.hid hT
  rw [hT]
  clear h hn hcell hlt' hl hW hq hB hr hT
  go_enter Try.func12, Try.ntmps12
  go_upto_region 1 with fail
  rw [HW.out, HQ.out]
  go_wp2_with fail
  go_loopw [7, 5, 6] (fun vi v5 v6 wr => ∃ (k : Nat) (d : Bool) (O : List RT) (y5 : Value), y5 = v5 ∧ k ≤ n ∧ O.length ≤ 2 * k ∧ vi = .int .i64 k ∧ v6 = .bool d ∧ Hid (Gw 2 csR wr W.heap.size 29 y5 O) ∧ Hid (O ++ radd d (l.drop k) (xt, xu) = T) ∧ Hid (Below W.heap.size W wr)) (fun vi _ _ _ => n - (intOf vi).toNat)
  case atStart => exact ⟨0, false, [], _, rfl, by omega, by simp, rfl, rfl, Gw.nil _ _ _, HTT, Below.refl _ _⟩
  case round =>
    obtain ⟨k, d, O, y5, rfl, hk, hO2, rfl, rfl, HO, HE, HBr⟩ := hrel
    by_cases hlt : k < n
    · have e2 : (k : Int) < n := by omega
      obtain ⟨y, hs⟩ : ∃ s, l[k]? = some s := ⟨_, List.getElem?_eq_getElem (by have := HN.out; omega)⟩
      have hb0 := HB.out.trans (HBr.out.mono HB.out.size)
      have c0 := HC.out k y hs 0 _ rfl
      have c1 := HC.out k y hs 1 _ rfl
      rw [Nat.add_zero] at c0
      rw [← hb0.cell (by exact HLT.out k hlt)] at c0 c1
      have hixk := fun W => hix W k hlt
      have HD := Lib.hid (radd_drop (x := (xt, xu)) (d := d) hs)
      obtain ⟨yt, yu⟩ := y
      simp only at c0 c1 HD
      obtain ⟨W2, hW2⟩ : ∃ V, wr.alloc (.cells #[.int .i64 yt, .int .i64 yu] 29) = V := ⟨_, rfl⟩
      obtain ⟨q2, hq2⟩ : ∃ z, wr.heap.size = z := ⟨_, rfl⟩
      have hr2 : W2.heap[q2]? = some (.cells #[.int .i64 yt, .int .i64 yu] 29 (0, 0)) := by rw [← hW2, ← hq2]; exact heap_alloc_new _ _
      have hb2 : Below wr.heap.size wr W2 := by rw [← hW2]; exact (Below.refl _ _).alloc (Nat.le_refl _) _
      have HNE : Hid (∀ t : Nat, y5.ownBlock = some t → t ≠ q2) := fun t ht he => by have := (HO.out.lt t ht).2; omega
      have HB2 := Lib.hid (HBr.out.trans (hb2.mono HBr.out.size))
      have HO2 := Lib.hid (HO.out.below hb2)
      have HR2 := Lib.hid hr2
      have HQW : Hid (W.heap.size ≤ q2) := by rw [← hq2]; exact HBr.out.size
      obtain ⟨d0, d1⟩ := rev_cells hr2
      have f1 := row_free hr2 1
      obtain ⟨s0, s1⟩ := HQX.out W2 HB2.out
      have HW2 := Lib.hid hW2
      have HQ2 := Lib.hid hq2
      have HLTK := Lib.hid hlt
      obtain ⟨e, he⟩ : ∃ e : Bool, decide (yt = xt) = e := ⟨_, rfl⟩
      obtain ⟨yn, hyn⟩ : ∃ z : Int, (if yt = xt then max yu xu else yu) = z := ⟨_, rfl⟩
      have HE1 := Lib.hid he
      have HYN := Lib.hid hyn
      clear hs hb2 hr2 hW2 hq2 hb0 hlt he hyn
      go_upto_region 7 with fail
      rw [HW2.out, HQ2.out]
      clear c0 c1
      go_upto_if 23 with fail
      go_cut [6] (fun s6 wx => s6 = .bool (d || e) ∧ Hid (wx.heap[q2]? = some (.cells #[.int .i64 yt, .int .i64 yn] 29 (0, 0))) ∧ Hid (Gw 2 csR wx W.heap.size 29 y5 O) ∧ Hid (Below W.heap.size W wx))
      case first =>
        by_cases h1 : yt = xt
        · have e5 : (yt == xt) = true := by simpa using h1
          have he : e = true := by rw [← HE1.out]; exact decide_eq_true h1
          by_cases h2 : yu < xu
          · have hy : Hid (yn = xu) := by show _ = _; rw [← HYN.out, if_pos h1]; omega
            have hset : (W2.setCell ⟨q2, 1, none⟩ (.int .i64 xu)).heap[q2]? = some (.cells #[.int .i64 yt, .int .i64 xu] 29 (0, 0)) := row_setCell HR2.out 1 (.int .i64 xu)
            have hon := set_only W2 q2 1 (.int .i64 xu)
            have hbs : Below W.heap.size W (W2.setCell ⟨q2, 1, none⟩ (.int .i64 xu)) := HB2.out.trans (hon.below (fun t ht => by have := HQW.out; omega) HB2.out.size)
            have hgs : Gw 2 csR (W2.setCell ⟨q2, 1, none⟩ (.int .i64 xu)) W.heap.size 29 y5 O := by
              refine ⟨HO2.out.1, ?_⟩
              rcases HO2.out.2 with g | ⟨g, cap, cur, g1, g2, g3, g4⟩
              · exact .inl g
              · refine .inr ⟨g, cap, cur, g1, g2, ?_, g4⟩
                rw [hon.block g (heap_lt g3) (fun hh => HNE.out g (by rw [g1]; rfl) hh)]
                exact g3
            have H1 := Lib.hid hset
            have H2 := Lib.hid hbs
            have H3 := Lib.hid hgs
            clear hset hon hbs hgs h1
            go_wp2
            go_meet
            case rel => exact ⟨by rw [he]; simp, by rw [hy.out]; exact H1, H3, H2⟩
          · have hy : Hid (yn = yu) := by show _ = _; rw [← HYN.out, if_pos h1]; omega
            clear h1
            go_wp2
            go_meet
            case rel => exact ⟨by rw [he]; simp, by rw [hy.out]; exact HR2, HO2, HB2⟩
        · have e5 : (yt == xt) = false := by simpa using h1
          have he : e = false := by rw [← HE1.out]; exact decide_eq_false h1
          have hy : Hid (yn = yu) := by show _ = _; rw [← HYN.out, if_neg h1]
          clear h1
          go_wp2
          go_meet
          case rel => exact ⟨by rw [he]; simp, by rw [hy.out]; exact HR2, HO2, HB2⟩
      case rest =>
        obtain ⟨rfl, HR3, HO3, HB3⟩ := hcut
        obtain ⟨w3, hw3⟩ : ∃ V, V = wc := ⟨_, rfl⟩
        subst hw3
        clear d0 d1 s0 s1 f1
        obtain ⟨d0, d1⟩ := rev_cells HR3.out
        obtain ⟨s0, s1⟩ := HQX.out w3 HB3.out
        obtain ⟨P, hP⟩ : ∃ P : List RT, (if xt < yt ∧ d = false then [(xt, xu)] else []) = P := ⟨_, rfl⟩
        obtain ⟨d2, hd2⟩ : ∃ d2 : Bool, (d || e || decide (xt < yt)) = d2 := ⟨_, rfl⟩
        have HDD : Hid (radd d (l.drop k) (xt, xu) = P ++ (yt, yn) :: radd d2 (l.drop (k + 1)) (xt, xu)) := by
          show _ = _
          rw [HD.out, hP, HE1.out, hd2]
          congr 2
          rw [← HYN.out]
          split <;> rfl
        have HP := Lib.hid hP
        have HD2 := Lib.hid hd2
        have hPl : P.length ≤ 1 := by rw [← hP]; split <;> simp
        obtain ⟨NL, hNL⟩ : ∃ N, O.length = N := ⟨_, rfl⟩
        obtain ⟨pv, pcv, hsv⟩ := HO3.out.gs.shape
        rw [hNL] at hsv
        subst hsv
        have HNLL := Lib.hid hNL
        clear hP hd2 hNL
        obtain ⟨b4, hb4⟩ : ∃ b : Bool, (decide (xt < yt) && !(d || e)) = b := ⟨_, rfl⟩
        have HB4' := Lib.hid hb4
        clear hb4
        go_upto_region 11 with fail
        go_cut [40] (fun c wx => c = .bool b4 ∧ wx = w3)
        case first =>
          by_cases h1 : xt < yt
          · have hb : Hid (b4 = !(d || e)) := by show _ = _; rw [← HB4'.out, decide_eq_true h1]; rfl
            go_wp2
            go_meet
            case rel => exact ⟨by rw [hb.out]; cases d <;> cases e <;> rfl, rfl⟩
          · have hb : Hid (b4 = false) := by show _ = _; rw [← HB4'.out, decide_eq_false h1]; rfl
            go_wp2
            go_meet
            case rel => exact ⟨by rw [hb.out], rfl⟩
        case rest =>
          obtain ⟨rfl, hwc⟩ := hcut
          rw [hwc]
          clear hwc
          go_upto_if 40 with fail
          go_cut [5, 6] (fun s5 s6 wx => ∃ b5, b5 = s5 ∧ s6 = .bool d2 ∧ Hid (wx.heap[q2]? = some (.cells #[.int .i64 yt, .int .i64 yn] 29 (0, 0))) ∧ Hid (Gw 2 csR wx W.heap.size 29 b5 (O ++ P)) ∧ Hid (Below W.heap.size W wx))
          case first =>
            by_cases h1 : xt < yt
            · have hef : e = false := by rw [← HE1.out]; exact decide_eq_false (by omega)
              subst hef
              cases d with
              | false =>
                have hPP : Hid (P = [(xt, xu)]) := by show _ = _; rw [← HP.out, if_pos ⟨h1, rfl⟩]
                have hdd : Hid (d2 = true) := by show _ = _; rw [← HD2.out, decide_eq_true h1]; rfl
                have hbt : b4 = true := by rw [← HB4'.out, decide_eq_true h1]; rfl
                subst hbt
                have hOl : O.length ≤ 20000 := by omega
                have hal : Below w3.heap.size w3 (w3.alloc (.cells #[.int .i64 xt, .int .i64 xu] 29)) := (Below.refl _ _).alloc (Nat.le_refl _) _
                have hown := HO3.out.below hal
                have hlit : Gs 2 csR (w3.alloc (.cells #[.int .i64 xt, .int .i64 xu] 29)) (.slice (some ⟨w3.heap.size, 0, none⟩) 1 1) [((xt, xu) : RT)] := (gw_lit layR w3 29 #[.int .i64 xt, .int .i64 xu] [(xt, xu)] 1 rfl (by decide) rfl).gs
                have HAL := Lib.hid hal
                clear hal
                go_wp2_with (at_builtin; go_must (refine wpList_append_gs layR hown hlit elR (by simp; omega) (by simp; omega) (by have := HB3.out.size; have := HAL.out.size; omega) ?_ _ _ rfl rfl rfl rfl); intro v8 w8 h8 hg8 hb8 _; have H8 := Lib.hid h8; have HG8 := Lib.hid hg8; have HB8 := Lib.hid hb8; clear h8 hg8 hb8)
                have hrow : w8.heap[q2]? = some (.cells #[.int .i64 yt, .int .i64 yn] 29 (0, 0)) := (HG8.out.block q2 (heap_lt ((HAL.out.block q2 (heap_lt HR3.out)).trans HR3.out)) (fun he => HNE.out q2 he.symm rfl)).trans ((HAL.out.block q2 (heap_lt HR3.out)).trans HR3.out)
                have HROW := Lib.hid hrow
                have HBX := Lib.hid ((HB3.out.trans (HAL.out.mono HB3.out.size)).trans HB8.out)
                clear hown hlit hrow
                go_meet
                case rel => exact ⟨_, rfl, by rw [hdd.out], HROW, by rw [hPP.out]; exact H8, HBX⟩
              | true =>
                have hPP : Hid (P = []) := by show _ = _; rw [← HP.out, if_neg (by simp)]
                have hdd : Hid (d2 = true) := by show _ = _; rw [← HD2.out]; rfl
                have hbt : b4 = false := by rw [← HB4'.out]; simp
                subst hbt
                go_wp2
                go_meet
                case rel => exact ⟨_, rfl, by rw [hdd.out]; rfl, HR3, by rw [hPP.out, List.append_nil]; exact HO3, HB3⟩
            · have hPP : Hid (P = []) := by show _ = _; rw [← HP.out, if_neg (by omega)]
              have hdd : Hid (d2 = (d || e)) := by show _ = _; rw [← HD2.out, decide_eq_false h1]; simp
              have hbt : b4 = false := by rw [← HB4'.out, decide_eq_false h1]; rfl
              subst hbt
              go_wp2
              go_meet
              case rel => exact ⟨_, rfl, by rw [hdd.out], HR3, by rw [hPP.out, List.append_nil]; exact HO3, HB3⟩
          case rest =>
            obtain ⟨b5, rfl, rfl, HR4, HO4, HB4⟩ := hcut
            obtain ⟨w4, hw4⟩ : ∃ V, V = wc := ⟨_, rfl⟩
            subst hw4
            clear d0 d1 s0 s1
            obtain ⟨d0, d1⟩ := rev_cells HR4.out
            obtain ⟨Q, hQ⟩ : ∃ Q, O ++ P = Q := ⟨_, rfl⟩
            have HQQ := Lib.hid hQ
            rw [hQ] at HO4
            have hQl : Q.length ≤ 20010 := by rw [← hQ, List.length_append]; omega
            have hQk : Q.length + 1 ≤ 2 * (k + 1) := by rw [← hQ, List.length_append]; omega
            obtain ⟨pw, pcw, hsw⟩ := HO4.out.gs.shape
            subst hsw
            have hal : Below w4.heap.size w4 (w4.alloc (.cells #[.int .i64 yt, .int .i64 yn] 29)) := (Below.refl _ _).alloc (Nat.le_refl _) _
            have hown := HO4.out.below hal
            have hlit : Gs 2 csR (w4.alloc (.cells #[.int .i64 yt, .int .i64 yn] 29)) (.slice (some ⟨w4.heap.size, 0, none⟩) 1 1) [((yt, yn) : RT)] := (gw_lit layR w4 29 #[.int .i64 yt, .int .i64 yn] [(yt, yn)] 1 rfl (by decide) rfl).gs
            have HAL := Lib.hid hal
            clear hal hQ
            have HQK := Lib.hid hQk
            go_wp2_with (at_builtin; go_must (refine wpList_append_gs layR hown hlit elR (by simp; omega) (by simp; omega) (by have := HB4.out.size; have := HAL.out.size; omega) ?_ _ _ rfl rfl rfl rfl); intro v8 w8 h8 hg8 hb8 _; have H8 := Lib.hid h8; have HB8 := Lib.hid hb8; clear h8 hg8 hb8)
            have hf1 : Hid ((Q ++ [(yt, yn)]) ++ radd d2 (l.drop (k + 1)) (xt, xu) = T) := by
              show _ = _
              rw [← HE.out, HDD.out, ← HQQ.out]
              simp
            have hf2 := Lib.hid ((HB4.out.trans (HAL.out.mono HB4.out.size)).trans HB8.out)
            clear hown hlit d0 d1
            go_wp2
            go_roundw
            case rel => exact ⟨k + 1, d2, _, _, rfl, by have := HLTK.out; omega, by have := HQK.out; simp; omega, by go_num, rfl, H8, hf1, hf2⟩
            case measure => simp [intOf]; have := HLTK.out; omega
    · obtain rfl : k = n := by omega
      have e2 : ¬ (k : Int) < k := by omega
      have hE := HE.out
      rw [List.drop_of_length_le (by rw [HN.out]; exact Nat.le_refl _)] at hE
      have HEE := Lib.hid hE
      have HB0r := Lib.hid (HB.out.trans (HBr.out.mono HB.out.size))
      clear hE
      cases d with
      | true =>
        have HF : Hid (Gs 2 csR wr y5 T) := by rw [← HEE.out]; simp only [radd, if_true, List.append_nil]; exact HO.out.gs
        go_wp2
        go_ret
        exact ⟨_, rfl, HF.out, HB0r.out⟩
      | false =>
        obtain ⟨s0, s1⟩ := HQX.out wr HBr.out
        have hOl : O.length ≤ 20000 := by omega
        obtain ⟨pv, pcv, hsv⟩ := HO.out.gs.shape
        subst hsv
        have hal : Below wr.heap.size wr (wr.alloc (.cells #[.int .i64 xt, .int .i64 xu] 29)) := (Below.refl _ _).alloc (Nat.le_refl _) _
        have hown := HO.out.below hal
        have hlit : Gs 2 csR (wr.alloc (.cells #[.int .i64 xt, .int .i64 xu] 29)) (.slice (some ⟨wr.heap.size, 0, none⟩) 1 1) [((xt, xu) : RT)] := (gw_lit layR wr 29 #[.int .i64 xt, .int .i64 xu] [(xt, xu)] 1 rfl (by decide) rfl).gs
        have HAL := Lib.hid hal
        clear hal
        go_wp2_with (at_builtin; go_must (refine wpList_append_gs layR hown hlit elR (by simp; omega) (by simp; omega) (by have := HBr.out.size; have := HAL.out.size; omega) ?_ _ _ rfl rfl rfl rfl); intro v8 w8 h8 hg8 hb8 _; have H8 := Lib.hid h8; have HB8 := Lib.hid hb8; clear h8 hg8 hb8)
        have HF : Hid (Gs 2 csR w8 v8 T) := by rw [← HEE.out]; simp only [radd]; exact H8.out.gs
        have HBF := Lib.hid (HB0r.out.trans ((HAL.out.mono HB0r.out.size).trans (HB8.out.mono HB.out.size)))
        clear hown hlit
        go_wp2
        go_ret
        exact ⟨_, rfl, HF.out, HBF.out⟩

end Go.Proofs.Ytjnbdeopoohnmaa
