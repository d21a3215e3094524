/- Layer 56 (roster): CompactFunc of the spells of one class. -/
import Derived.Test.YtjnbdeopoohnmaaRt17
import Derived.Lib.SliceRun
import Derived.Deep.RegionLaw
import Derived.Deep.DeepCutAuto
import Derived.Deep.CutBlock
import Derived.Lib.QuietBelow
set_option linter.unusedSimpArgs false
namespace Go.Proofs.Ytjnbdeopoohnmaa
open Go.RowKit Go.Sort

theorem rtS12_any (x y : SpT) (w : World) : Calls Try.prog 54 #[.agg #[.int .i64 x.1, .int .i64 x.2], .agg #[.int .i64 y.1, .int .i64 y.2]] w fun e w' => e = .returned (.bool (decide (x.2 = y.2))) ∧ Below w.heap.size w w' := by
  obtain ⟨t, u⟩ := x
  obtain ⟨t', u'⟩ := y
  simp only
  have HB := Lib.hid (bw_al (bw_al (Below.refl w.heap.size w) (.cells #[.int .i64 t, .int .i64 u] 49)) (.cells #[.int .i64 t', .int .i64 u'] 49))
  go_enter Try.func54, Try.ntmps54
  go_wp2
  go_ret
  exact ⟨rfl, HB.out⟩

/-- what CompactFunc has done: the first i hold what is kept of the first j -/
def CSt (m M : List SpT) (i j : Nat) : Prop := M.length = m.length ∧ i < j ∧ j ≤ m.length ∧ M.take i = scomp (m.take j) ∧ ∀ t, i ≤ t → M[t]? = m[t]?
theorem take_last {m : List SpT} {j : Nat} {y : SpT} (hj : 0 < j) (h : m[j - 1]? = some y) : (m.take j).getLast? = some y := by
  obtain ⟨k, rfl⟩ : ∃ k, j = k + 1 := ⟨j - 1, by omega⟩
  rw [take_next (k := k) (x := y) (by simpa using h)]
  simp
theorem scomp_step {m : List SpT} {j : Nat} {x y : SpT} (hj : 0 < j) (hx : m[j]? = some x) (hy : m[j - 1]? = some y) : scomp (m.take (j + 1)) = if y.2 = x.2 then scomp (m.take j) else scomp (m.take j) ++ [x] := by
  rw [take_next hx, scomp_next _ _ _ (take_last hj hy)]
theorem CSt.drop {m M : List SpT} {i j : Nat} {x y : SpT} (h : CSt m M i j) (hx : m[j]? = some x) (hy : m[j - 1]? = some y) (he : x.2 = y.2) : CSt m M i (j + 1) := by
  obtain ⟨h1, h2, h3, h4, h5⟩ := h
  have hj := (List.getElem?_eq_some_iff.1 hx).1
  exact ⟨h1, by omega, by omega, by rw [scomp_step (by omega) hx hy, if_pos he.symm, h4], h5⟩
theorem CSt.keep {m M : List SpT} {i j : Nat} {x y : SpT} (h : CSt m M i j) (hx : m[j]? = some x) (hy : m[j - 1]? = some y) (he : ¬ x.2 = y.2) : CSt m (M.set i x) (i + 1) (j + 1) := by
  obtain ⟨h1, h2, h3, h4, h5⟩ := h
  have hj := (List.getElem?_eq_some_iff.1 hx).1
  refine ⟨by simpa using h1, by omega, by omega, ?_, fun t ht => ?_⟩
  · rw [scomp_step (by omega) hx hy, if_neg (fun e => he e.symm), ← h4, List.take_add_one, List.getElem?_set_self (by omega), List.take_set_of_le (by omega)]
    rfl
  · rw [List.getElem?_set_ne (by omega)]
    exact h5 t (by omega)

theorem own_ixT (G k n cap t : Nat) (ht : t < n) (W : World) : (Instr.indexAt 41 (.slice (some ⟨G, k * 2, none⟩) n cap) (.int .i64 (t : Int))).run Try.prog W = .ok (.pointer (some ⟨G, (k + t) * 2, none⟩)) W := by
  have hT := elS.1
  have hu : Try.prog.elem 41 = 49 := by simp [Program.elem, hT]
  rw [run_indexAt_slice W 41 _ n cap .i64 t (by rw [hu]; exact hT), if_pos ⟨by omega, by omega⟩, hu, elS.sizeOf]
  simp [Result.andThen, Addr.add_lit, Nat.add_mul]

set_option maxRecDepth 100000 in
set_option maxHeartbeats 1600000 in
theorem sComp_any (v : Value) (m : List SpT) (B : Nat) (w : World) (h : Gw 2 csS w B 49 v m) (hm : m.length ≤ 100000) (hB : B ≤ w.heap.size) :
    Calls Try.prog 53 #[v, .func (Fn.func 54) #[] #[]] w fun e w' => ∃ v', e = .returned v' ∧ Gw 2 csS w' B 49 v' (scomp m) ∧ Below B w w' := by
  obtain ⟨n, hn⟩ : ∃ n, m.length = n := ⟨_, rfl⟩
  have HN := Lib.hid hn
  rw [hn] at hm
  have HM := Lib.hid hm
  have HG := Lib.hid h
  have HBB := Lib.hid hB
  obtain ⟨i0, hi0, hz0, hs0, hb0⟩ := elS.2.1
  have HZV : Hid (∀ w : World, (zeroValue 49).run Try.prog w = .ok (.agg #[.int .i64 0, .int .i64 0]) w) := fun w => by simp [zeroValue, typeInfo, hi0, hz0]
  obtain ⟨ya, yc, hys⟩ := h.gs.shape
  subst hys
  rw [hn] at HG ⊢
  clear h hm hB hi0 hz0 hs0 hb0
  by_cases h2 : n < 2
  · have e1 : (n : Int) < 2 := by omega
    have hsc : scomp m = m := by
      match m, hn with
      | [], _ => rfl
      | [x], _ => rfl
      | x :: y :: r, hn => simp at hn; omega
    have HF : Hid (Gw 2 csS w B 49 (.slice ya n yc) (scomp m)) := by rw [hsc]; exact HG.out
    have HBF : Hid (Below B w w) := Below.refl _ _
    clear hn h2 hsc
    go_enter Try.func53, Try.ntmps53
    go_wp2
    go_ret
    exact ⟨_, rfl, HF.out, HBF.out⟩
  · have e1 : ¬ (n : Int) < 2 := by omega
    obtain ⟨G, cap, hsl, hBG, hrow⟩ := HG.out.row (by intro h; rw [h] at hn; simp at hn; omega)
    rw [hn] at hsl
    simp only [Value.slice.injEq] at hsl
    obtain ⟨rfl, -, rfl⟩ := hsl
    have HROW := Lib.hid hrow
    have HBG := Lib.hid hBG
    have hcap : n ≤ yc := by have := hrow.le; omega
    have hcap2 : yc ≤ 9223372036854775807 := by have := hrow.mx; simpa [maxLen] using this
    have hn2 : 2 ≤ n := by omega
    clear hrow hBG h2 hn
    go_enter Try.func53, Try.ntmps53
    go_wp2_with fail
    go_loopw [5] (fun vi wr => ∃ k : Nat, 1 ≤ k ∧ k ≤ n ∧ vi = .int .i64 k ∧ Hid (scomp (m.take k) = m.take k) ∧ Hid (Row 2 csS wr 49 G yc m) ∧ Hid (Below B w wr)) (fun vi _ => n - (intOf vi).toNat)
    case atStart =>
      refine ⟨1, by omega, by omega, rfl, ?_, HROW, Below.refl _ _⟩
      obtain ⟨x, hx⟩ : ∃ s, m[0]? = some s := ⟨_, List.getElem?_eq_getElem (by have := HN.out; omega)⟩
      show scomp (m.take (0 + 1)) = m.take (0 + 1)
      rw [take_next hx]
      rfl
    case round =>
      obtain ⟨k, hk1, hk, rfl, HS, HR, HB⟩ := hrel
      have hn1000 : n ≤ 100000 := HM.out
      by_cases hlt : k < n
      · have e2 : (k : Int) < n := by omega
        obtain ⟨x, hx⟩ : ∃ s, m[k]? = some s := ⟨_, List.getElem?_eq_getElem (by have := HN.out; omega)⟩
        obtain ⟨y, hy⟩ : ∃ s, m[k - 1]? = some s := ⟨_, List.getElem?_eq_getElem (by have := HN.out; omega)⟩
        have c0 := HR.out.cell layS hx (j := 0) rfl
        have c1 := HR.out.cell layS hx (j := 1) rfl
        rw [Nat.add_zero] at c0
        have d0 := HR.out.cell layS hy (j := 0) rfl
        have d1 := HR.out.cell layS hy (j := 1) rfl
        rw [Nat.add_zero] at d0
        have hixk := own_ixS G n yc k hlt
        have hixj := own_ixS G n yc (k - 1) (by omega)
        rw [show ((k - 1 : Nat) : Int) = (k : Int) - 1 by omega] at hixj
        have KS := Lib.hid (fun (V : World) (hV : Below wr.heap.size wr V) => And.intro ((hV.cell (by exact HR.out.lt)).trans c0) (And.intro ((hV.cell (by exact HR.out.lt)).trans c1) (And.intro ((hV.cell (by exact HR.out.lt)).trans d0) ((hV.cell (by exact HR.out.lt)).trans d1))))
        have CG := Lib.hid (fun V => rtS12_any x y V)
        have HX := Lib.hid hx
        have HY := Lib.hid hy
        have HSTP := Lib.hid (scomp_step (by omega) hx hy)
        obtain ⟨xt, xu⟩ := x
        obtain ⟨yt, yu⟩ := y
        simp only at c0 c1 d0 d1 CG HSTP
        obtain ⟨lo, hlo⟩ : ∃ d, decide (xu = yu) = d := ⟨_, rfl⟩
        rw [hlo] at CG
        have HLO := Lib.hid hlo
        have HLTK := Lib.hid hlt
        clear hx hy hlo
        have hw1 : IntKind.i64.wrap ((k : Int) - 1) = (k : Int) - 1 := by rw [IntKind.wrap_i64]; omega
        go_wp2_with fail
        go_region_held3 (fun W => W.cell? ⟨G, k * 2, none⟩ = some (.int .i64 xt) ∧ W.cell? ⟨G, k * 2 + 1, none⟩ = some (.int .i64 xu) ∧ W.cell? ⟨G, (k - 1) * 2, none⟩ = some (.int .i64 yt) ∧ W.cell? ⟨G, (k - 1) * 2 + 1, none⟩ = some (.int .i64 yu)) (first
          | (with_reducible exact KS.out _ b2)
          | (with_reducible exact KS.out _ (bw_dr (Below.refl _ _)))) (first
          | (go_at_call 54; (with_reducible refine (CG.out _).mono ?_); rintro e w2 ⟨rfl, hb2⟩; have b2 : Below wr.heap.size wr w2 := (bw_dr (Below.refl _ _)).trans (hb2.mono (by simp)); have HR2 := Lib.hid (HR.out.below b2); have HB2 := Lib.hid (HB.out.trans (b2.mono (Nat.le_trans HBB.out HB.out.size))); clear hb2))
        cases lo with
        | false =>
          have hf : Hid (scomp (m.take (k + 1)) = m.take (k + 1)) := by
            show _ = _
            rw [HSTP.out, if_neg (fun e => of_decide_eq_false HLO.out e.symm), HS.out, take_next HX.out]
          clear c0 c1 d0 d1
          go_simp
          go_wp2
          go_roundw
          case rel => exact ⟨k + 1, by omega, by have := HLTK.out; omega, by go_num, hf, HR2, HB2⟩
          case measure => simp [intOf]; have := HLTK.out; omega
        | true =>
          have h0 : CSt m m k (k + 1) := ⟨rfl, by omega, by have := HN.out; have := HLTK.out; omega, by rw [HSTP.out, if_pos (of_decide_eq_true HLO.out).symm, HS.out], fun t _ => rfl⟩
          have HST := Lib.hid h0
          have hT := elS.1
          have hel : Try.prog.elem 41 = 49 := by simp [Program.elem, hT]
          have hsz := elS.sizeOf
          obtain ⟨q2, hq2⟩ : ∃ q, n - k = q := ⟨_, rfl⟩
          obtain ⟨c2, hc2⟩ : ∃ q, yc - k = q := ⟨_, rfl⟩
          have hnk : n = k + q2 := by have := HLTK.out; omega
          have R0 : ∀ W : World, (Instr.sliceAt 41 (.slice (some ⟨G, 0, none⟩) n yc) (some (.int .i64 (k : Int))) none none).run Try.prog W = .ok (.slice (some ⟨G, k * 2, none⟩) q2 c2) W := fun W => by
            rw [run_sliceAt_slice (h := by rw [hel]; exact hT), run_slice_l (ht := by rw [hel]; exact hT) (h0 := by omega) (h1 := by omega), hel, hsz]
            rw [show ((k : Int)).toNat = k by omega]
            simp only [Result.andThen, sliced]
            rw [if_neg (by omega), hq2, hc2]
            simp [Addr.add_lit]
          have HNK := Lib.hid hnk
          have hq63 : q2 ≤ 100000 := by omega
          clear c0 c1 d0 d1 h0 hq2 hc2 hw1 hixk hixj hnk
          go_simp
          go_wp2_with fail
          obtain ⟨V1, hV1⟩ : ∃ V, wr = V := ⟨_, rfl⟩
          rw [hV1] at HR HB
          clear hV1
          go_loopw [7, 5] (fun vt vi wi => ∃ (i t : Nat) (M : List SpT), 1 ≤ t ∧ t ≤ q2 ∧ i < k + t ∧ vt = .int .i64 t ∧ vi = .int .i64 i ∧ Hid (CSt m M i (k + t)) ∧ Hid (Row 2 csS wi 49 G yc M) ∧ Hid (Below B w wi)) (fun vt _ _ => q2 - (intOf vt).toNat)
          case atStart => exact ⟨k, 1, m, by omega, by have := HNK.out; have := HLTK.out; omega, by omega, rfl, rfl, HST, HR2, HB2⟩
          case round =>
            obtain ⟨i, t, M, ht1, ht, hit, rfl, rfl, HD, HRi, HBi⟩ := hrel
            by_cases hlt2 : t < q2
            · have e3 : (t : Int) < q2 := by omega
              obtain ⟨x, hx⟩ : ∃ s, m[k + t]? = some s := ⟨_, List.getElem?_eq_getElem (by have := HN.out; have := HNK.out; omega)⟩
              obtain ⟨y, hy⟩ : ∃ s, m[k + (t - 1)]? = some s := ⟨_, List.getElem?_eq_getElem (by have := HN.out; have := HNK.out; omega)⟩
              have hxM : M[k + t]? = some x := (HD.out.2.2.2.2 _ (by omega)).trans hx
              have hyM : M[k + (t - 1)]? = some y := (HD.out.2.2.2.2 _ (by omega)).trans hy
              have hMn : M.length = n := HD.out.1.trans HN.out
              obtain ⟨z, hz⟩ : ∃ s, M[i]? = some s := ⟨_, List.getElem?_eq_getElem (by have := HNK.out; omega)⟩
              have c0 := HRi.out.cell layS hxM (j := 0) rfl
              have c1 := HRi.out.cell layS hxM (j := 1) rfl
              rw [Nat.add_zero] at c0
              have d0 := HRi.out.cell layS hyM (j := 0) rfl
              have d1 := HRi.out.cell layS hyM (j := 1) rfl
              rw [Nat.add_zero] at d0
              have hixt := own_ixT G k q2 c2 t hlt2
              have hixs := own_ixT G k q2 c2 (t - 1) (by omega)
              rw [show ((t - 1 : Nat) : Int) = (t : Int) - 1 by omega] at hixs
              have hixi := own_ixS G n yc i (by have := HNK.out; omega)
              have hw2 : IntKind.i64.wrap ((t : Int) - 1) = (t : Int) - 1 := by rw [IntKind.wrap_i64]; omega
              have KS2 := Lib.hid (fun (V : World) (hV : Below wr.heap.size wr V) => And.intro ((hV.cell (by exact HRi.out.lt)).trans c0) (And.intro ((hV.cell (by exact HRi.out.lt)).trans c1) (And.intro ((hV.cell (by exact HRi.out.lt)).trans d0) ((hV.cell (by exact HRi.out.lt)).trans d1))))
              have CG2 := Lib.hid (fun V => rtS12_any x y V)
              have HX2 := Lib.hid hxM
              have HZ := Lib.hid hz
              have HMN := Lib.hid hMn
              have HLT2 := Lib.hid hlt2
              have hy' : m[k + t - 1]? = some y := by rw [show k + t - 1 = k + (t - 1) by omega]; exact hy
              have HKEEP := Lib.hid (fun he => HD.out.keep hx hy' he)
              have HDROP := Lib.hid (fun he => HD.out.drop hx hy' he)
              obtain ⟨at_, au⟩ := x
              obtain ⟨bt, bu⟩ := y
              simp only at c0 c1 d0 d1 CG2 HKEEP HDROP
              obtain ⟨lo2, hlo2⟩ : ∃ d, decide (au = bu) = d := ⟨_, rfl⟩
              rw [hlo2] at CG2
              have HLO2 := Lib.hid hlo2
              clear hx hy hxM hyM hz hy' hlo2 hlt2 hMn
              go_wp2_with fail
              go_region_held3 (fun W => W.cell? ⟨G, (k + t) * 2, none⟩ = some (.int .i64 at_) ∧ W.cell? ⟨G, (k + t) * 2 + 1, none⟩ = some (.int .i64 au) ∧ W.cell? ⟨G, (k + (t - 1)) * 2, none⟩ = some (.int .i64 bt) ∧ W.cell? ⟨G, (k + (t - 1)) * 2 + 1, none⟩ = some (.int .i64 bu)) (first
                | (with_reducible exact KS2.out _ b8)
                | (with_reducible exact KS2.out _ (bw_dr (Below.refl _ _)))) (first
                | (go_at_call 54; (with_reducible refine (CG2.out _).mono ?_); rintro e w8 ⟨rfl, hb8⟩; have b8 : Below wr.heap.size wr w8 := (bw_dr (Below.refl _ _)).trans (hb8.mono (by simp)); have HR8 := Lib.hid (HRi.out.below b8); have HB8 := Lib.hid (HBi.out.trans (b8.mono (Nat.le_trans HBB.out HBi.out.size))); clear hb8))
              clear c0 c1 d0 d1 b8
              cases lo2 with
              | true =>
                have hf : Hid (CSt m M i (k + (t + 1))) := HDROP.out (of_decide_eq_true HLO2.out)
                go_wp2
                go_roundw
                case rel => exact ⟨i, t + 1, M, by omega, by have := HLT2.out; omega, by omega, by go_num, rfl, hf, HR8, HB8⟩
                case measure => simp [intOf]; have := HLT2.out; omega
              | false =>
                have hf : Hid (CSt m _ (i + 1) (k + (t + 1))) := HKEEP.out (of_decide_eq_false HLO2.out)
                have c0 := HR8.out.cell layS HX2.out (j := 0) rfl
                have c1 := HR8.out.cell layS HX2.out (j := 1) rfl
                rw [Nat.add_zero] at c0
                simp only at c0 c1
                have d0 := HR8.out.cell layS HZ.out (j := 0) rfl
                have d1 := HR8.out.cell layS HZ.out (j := 1) rfl
                rw [Nat.add_zero] at d0
                have f0 := HR8.out.free (i * 2)
                have f1 := HR8.out.free (i * 2 + 1)
                obtain ⟨k1, k2⟩ := HR8.out.set layS i (by have := HMN.out; have := HLT2.out; have := HNK.out; omega) (at_, au)
                have hB9 : Below B w (w8.setCells G (i * 2) (csS (at_, au))) := HB8.out.trans (k2.below (fun t ht => by have := HBG.out; omega) (Nat.le_trans HBB.out HB8.out.size))
                have HB9 := Lib.hid hB9
                have HK1 := Lib.hid k1
                clear k1 k2 hB9
                go_wp2
                go_roundw
                case rel => exact ⟨i + 1, t + 1, _, by omega, by have := HLT2.out; omega, by omega, by go_num, by go_num, hf, HK1, HB9⟩
                case measure => simp [intOf]; have := HLT2.out; omega
            · obtain rfl : t = q2 := by omega
              have e3 : ¬ (t : Int) < t := by omega
              obtain ⟨j, hj⟩ : ∃ j, k + t = j := ⟨_, rfl⟩
              have hnj : n = j := by have := HNK.out; omega
              subst hnj
              rw [hj] at HD hit
              have hMn : M.length = n := HD.out.1.trans HN.out
              have R1 : ∀ W : World, (Instr.sliceAt 41 (.slice (some ⟨G, 0, none⟩) n yc) none (some (.int .i64 (i : Int))) none).run Try.prog W = .ok (.slice (some ⟨G, 0, none⟩) i yc) W := fun W => by
                rw [run_sliceAt_slice (h := by rw [hel]; exact hT), run_slice_h (ht := by rw [hel]; exact hT) (h0 := by omega) (h2 := by omega), hel, hsz]
                simp [Result.andThen, sliced, Addr.add_zero']
              have R2 : ∀ W : World, (Instr.sliceAt 41 (.slice (some ⟨G, 0, none⟩) n yc) (some (.int .i64 (i : Int))) none none).run Try.prog W = .ok (.slice (some ⟨G, i * 2, none⟩) (n - i) (yc - i)) W := fun W => by
                rw [run_sliceAt_slice (h := by rw [hel]; exact hT), run_slice_l (ht := by rw [hel]; exact hT) (h0 := by omega) (h1 := by omega), hel, hsz]
                rw [show ((i : Int)).toNat = i by omega]
                simp only [Result.andThen, sliced]
                rw [if_neg (by omega)]
                simp [Addr.add_lit]
              have hle : n * 2 ≤ yc * 2 := Nat.mul_le_mul_right _ hcap
              have hclr := run_clear_n (P := Try.prog) wr 41 49 0 (.agg #[.int .i64 0, .int .i64 0]) Try.underlying41 HZV.out (by simp [Value.cells, Value.oneCell']) (by simp [Value.cells]) G (i * 2) (n - i) (yc - i)
                (fun t ht => HRi.out.some _ (by simp [Value.cells] at ht; omega)) (fun t _ => HRi.out.free _)
              obtain ⟨k1, k2⟩ := HRi.out.cut layS i (by omega) (Builtin.zeroCells (Value.agg #[.int .i64 0, .int .i64 0]).cells (n - i)).toList
              obtain ⟨W2, hW2⟩ : ∃ W2, wr.setCells G (i * 2) (Builtin.zeroCells (Value.agg #[.int .i64 0, .int .i64 0]).cells (n - i)).toList = W2 := ⟨_, rfl⟩
              rw [hW2] at hclr k1 k2
              have hfin : Gw 2 csS W2 B 49 (.slice (some ⟨G, 0, none⟩) i yc) (scomp m) := by
                have h4 := HD.out.2.2.2.1
                rw [List.take_of_length_le (l := m) (i := n) (by rw [HN.out]; exact Nat.le_refl _)] at h4
                rw [← h4]
                have := k1.gw layS (B := B) HBG.out
                rwa [show (M.take i).length = i by simp; omega] at this
              have HFIN := Lib.hid hfin
              have HBF := Lib.hid (HBi.out.trans (k2.below (fun t ht => by have := HBG.out; omega) (Nat.le_trans HBB.out HBi.out.size)))
              clear hT hel hsz hle k1 k2 hW2 hfin hMn hj
              go_wp2
              go_ret
              exact ⟨_, rfl, HFIN.out, HBF.out⟩
      · obtain rfl : k = n := by omega
        have e2 : ¬ (k : Int) < k := by omega
        have HF : Hid (Gw 2 csS wr B 49 (.slice (some ⟨G, 0, none⟩) k yc) (scomp m)) := by
          have h4 := HS.out
          rw [List.take_of_length_le (l := m) (i := k) (by rw [HN.out]; exact Nat.le_refl _)] at h4
          rw [h4]
          have := HR.out.gw layS (B := B) HBG.out
          rwa [HN.out] at this
        go_wp2
        go_ret
        exact ⟨_, rfl, HF.out, HB.out⟩
end Go.Proofs.Ytjnbdeopoohnmaa
