/- Layer 12 (revoke): place, find, Has. -/
import Derived.Test.YtjnbdeopoohnmaaRv3
import Derived.Deep.RegionHeld3
import Derived.Deep.DeepCutAuto
import Derived.Deep.CutBlock
import Derived.Lib.QuietBelow
set_option linter.unusedSimpArgs false
namespace Go.Proofs.Ytjnbdeopoohnmaa
open Go.RowKit Go.Sort

theorem rlt_get {k : Int} : ∀ {l : List RT}, rlt k l → ∀ (i j : Nat) (x y : RT), i < j → l[i]? = some x → l[j]? = some y → x.1 < y.1
  | [], _, i, j, x, y, _, h, _ => by simp at h
  | z :: r, h, i, j, x, y, hij, hx, hy => by
    cases j with
    | zero => omega
    | succ j =>
      cases i with
      | zero =>
        simp at hx
        subst hx
        exact rlt_all h.2 y (List.mem_of_getElem? (by simpa using hy))
      | succ i => exact rlt_get h.2 i j x y (by omega) (by simpa using hx) (by simpa using hy)

/-- where a trip is, or would be -/
structure RFd (l : List RT) (z : Int) (i : Nat) : Prop where
  le : i ≤ l.length
  lo : ∀ (j : Nat) (x : RT), j < i → l[j]? = some x → x.1 < z
  hi : ∀ (j : Nat) (x : RT), i ≤ j → l[j]? = some x → z ≤ x.1
/-- while it is looked for -/
structure RFs (l : List RT) (z : Int) (i k : Nat) : Prop where
  le : i ≤ k
  len : k ≤ l.length
  lo : ∀ (j : Nat) (x : RT), j < i → l[j]? = some x → x.1 < z
  hi : ∀ (j : Nat) (x : RT), k ≤ j → l[j]? = some x → z ≤ x.1

theorem rIs1_any (x : RT) (z : Int) (g : Nat) (w : World) (hc : w.cell? ⟨g, 0, none⟩ = some (.int .i64 z)) : Calls Try.prog 80 #[.agg #[.int .i64 x.1, .int .i64 x.2], .pointer (some ⟨g, 0, none⟩)] w fun e w' => e = .returned (.bool (decide (z ≤ x.1))) ∧ Below w.heap.size w w' := by
  obtain ⟨t, u⟩ := x
  simp only
  have HB := Lib.hid ((Below.refl w.heap.size w).alloc (Nat.le_refl _) (.cells #[.int .i64 t, .int .i64 u] 29))
  have hlt : g < w.heap.size := by have := World.block_lt_of_cell? w _ hc; simpa using this
  have hc2 : (w.alloc (.cells #[.int .i64 t, .int .i64 u] 29)).cell? ⟨g, 0, none⟩ = some (.int .i64 z) := by rw [HB.out.cell hlt]; exact hc
  clear hlt
  go_enter Try.func80, Try.ntmps80
  go_wp2
  go_ret
  exact ⟨rfl, HB.out⟩

set_option maxRecDepth 100000 in
set_option maxHeartbeats 800000 in
theorem rPlace_any (v : Value) (l : List RT) (z : Int) (g : Nat) (k0 : Int) (w : World) (h : Gs 2 csR w v l) (hl : l.length ≤ 100000) (hs : rlt k0 l) (hc : w.cell? ⟨g, 0, none⟩ = some (.int .i64 z)) :
    Calls Try.prog 79 #[v, .func (Fn.func 80) #[] #[.pointer (some ⟨g, 0, none⟩)]] w fun e w' => ∃ i : Nat, e = .returned (.int .i64 (i : Int)) ∧ RFd l z i ∧ Below w.heap.size w w' := by
  obtain ⟨n, hn⟩ : ∃ n, l.length = n := ⟨_, rfl⟩
  obtain ⟨a, c, b, o, rfl, h1, h2, hix, hlt', hcell, -⟩ := h.open_n layR elR n hn
  have HC := Lib.hid hcell
  have HN := Lib.hid hn
  have HLT := Lib.hid hlt'
  have HUP := Lib.hid (rlt_get hs)
  have hn1 : n ≤ 100000 := by omega
  have hlt : g < w.heap.size := by have := World.block_lt_of_cell? w _ hc; simpa using this
  have HCZ := Lib.hid (fun (V : World) (hV : Below w.heap.size w V) => (hV.cell (by exact hlt)).trans hc)
  have H0 : Hid (RFs l z 0 n) := ⟨by omega, by omega, fun j x hj => absurd hj (by omega), fun j x hj hx => by have := (List.getElem?_eq_some_iff.1 hx).1; omega⟩
  clear h hn hcell hlt' hl hs hc hlt
  go_enter Try.func79, Try.ntmps79
  go_wp2_with fail
  go_loopw [5, 6] (fun v5 v6 wr => ∃ (i k : Nat), i ≤ k ∧ k ≤ n ∧ v5 = .int .i64 i ∧ v6 = .int .i64 k ∧ Hid (RFs l z i k) ∧ Hid (Below w.heap.size w wr)) (fun v5 v6 _ => (intOf v6).toNat - (intOf v5).toNat)
  case atStart => exact ⟨0, n, by omega, by omega, rfl, rfl, H0, Below.refl _ _⟩
  case round =>
    obtain ⟨i, k, hik, hkn, rfl, rfl, HP, HB⟩ := hrel
    by_cases hlt : i < k
    · have e1 : (i : Int) < k := by omega
      obtain ⟨m, hm⟩ : ∃ m, (i + k) / 2 = m := ⟨_, rfl⟩
      have hmi : i ≤ m := by omega
      have hmk : m < k := by omega
      have hdiv : ((i : Int) + k).tdiv 2 = m := by rw [Int.tdiv_eq_ediv_of_nonneg (by omega)]; omega
      obtain ⟨x, hx⟩ : ∃ s, l[m]? = some s := ⟨_, List.getElem?_eq_getElem (by have := HN.out; omega)⟩
      have c0 := HC.out m x hx 0 _ rfl
      have c1 := HC.out m x hx 1 _ rfl
      rw [Nat.add_zero] at c0
      rw [← HB.out.cell (by exact HLT.out m (by omega))] at c0 c1
      have hixm := fun W => hix W m (by omega)
      have CG := Lib.hid (rIs1_any x z g wr (HCZ.out wr HB.out))
      have HX := Lib.hid hx
      obtain ⟨xt, xu⟩ := x
      simp only at c0 c1 CG
      obtain ⟨r, hr⟩ : ∃ r, decide (z ≤ xt) = r := ⟨_, rfl⟩
      rw [hr] at CG
      have HR := Lib.hid hr
      have HM := Lib.hid (And.intro hmi hmk)
      have HLTK := Lib.hid hlt
      clear hx hr hm
      go_wp2_with fail
      refine CG.out.mono ?_
      rintro e w2 ⟨rfl, hb2⟩
      have HB2 := Lib.hid (HB.out.trans (hb2.mono HB.out.size))
      clear hb2 c0 c1
      cases r with
      | true =>
        have hf : Hid (RFs l z i m) := ⟨HM.out.1, by have := HP.out.len; have := HM.out.2; omega, HP.out.lo, fun j y hj hy => by
          have hz := of_decide_eq_true HR.out
          rcases Nat.lt_or_ge m j with h | h
          · have := HUP.out m j _ y h HX.out hy
            simp only at this; omega
          · obtain rfl : j = m := by omega
            rw [HX.out] at hy; cases hy; exact hz⟩
        go_wp2
        go_roundw
        case rel => exact ⟨i, m, hmi, by omega, rfl, rfl, hf, HB2⟩
        case measure => simp [intOf]; omega
      | false =>
        have hf : Hid (RFs l z (m + 1) k) := ⟨by have := HM.out.2; omega, HP.out.len, fun j y hj hy => by
          have hz := of_decide_eq_false HR.out
          rcases Nat.lt_or_ge j m with h | h
          · have := HUP.out j m y _ h hy HX.out
            simp only at this; omega
          · obtain rfl : j = m := by omega
            rw [HX.out] at hy; cases hy; simp only; omega, HP.out.hi⟩
        go_wp2
        go_roundw
        case rel => exact ⟨m + 1, k, by omega, hkn, by go_num, rfl, hf, HB2⟩
        case measure => simp [intOf]; omega
    · have e1 : ¬ (i : Int) < k := by omega
      have hf : RFd l z i := ⟨by have := HP.out.len; omega, HP.out.lo, fun j x hj => HP.out.hi j x (by omega)⟩
      have HF := Lib.hid hf
      clear hf
      go_wp2
      go_ret
      exact ⟨i, rfl, HF.out, HB.out⟩

def rok (l : List RT) (z : Int) (i : Nat) : Bool := match l[i]? with | none => false | some x => decide (x.1 = z)

set_option maxRecDepth 100000 in
set_option maxHeartbeats 800000 in
theorem rFind_any (v : Value) (l : List RT) (z : Int) (k0 : Int) (w : World) (h : Gs 2 csR w v l) (hl : l.length ≤ 100000) (hs : rlt k0 l) :
    Calls Try.prog 44 #[v, .int .i64 z] w fun e w' => ∃ i : Nat, e = .returned (.tuple #[.int .i64 (i : Int), .bool (rok l z i)]) ∧ RFd l z i ∧ Below w.heap.size w w' := by
  obtain ⟨W, hW⟩ : ∃ V, w.alloc (.cells #[.int .i64 z] 3) = V := ⟨_, rfl⟩
  obtain ⟨q, hq⟩ : ∃ q, w.heap.size = q := ⟨_, rfl⟩
  have hB : Below w.heap.size w W := by rw [← hW]; exact (Below.refl _ _).alloc (Nat.le_refl _) _
  have hr : W.heap[q]? = some (.cells #[.int .i64 z] 3 (0, 0)) := by rw [← hW, ← hq]; exact heap_alloc_new _ _
  have hc : W.cell? ⟨q, 0, none⟩ = some (.int .i64 z) := cell_of_row W _ _ _ _ _ hr
  have hqW : q < W.heap.size := heap_lt hr
  have CP := Lib.hid (rPlace_any v l z q k0 W (h.below hB) hl hs hc)
  have HCZ := Lib.hid (fun (V : World) (hV : Below W.heap.size W V) => (hV.cell (by exact hqW)).trans hc)
  obtain ⟨n, hn⟩ : ∃ n, l.length = n := ⟨_, rfl⟩
  obtain ⟨a, c, b, o, rfl, h1, h2, hix, hlt', hcell, -⟩ := h.open_n layR elR n hn
  have HC := Lib.hid hcell
  have HN := Lib.hid hn
  have HLT := Lib.hid hlt'
  have hn1 : n ≤ 100000 := by omega
  have HW := Lib.hid hW
  have HQ := Lib.hid hq
  have HB := Lib.hid hB
  clear h hl hs hW hq hB hr hc hqW hn hcell hlt'
  go_enter Try.func44, Try.ntmps44
  go_upto_region 1 with fail
  rw [HW.out, HQ.out]
  go_wp2_with fail
  refine CP.out.mono ?_
  rintro e w2 ⟨i, rfl, hfd, hb2⟩
  have HB2 := Lib.hid (HB.out.trans (hb2.mono HB.out.size))
  have hcz := HCZ.out w2 hb2
  have rz := fun d os => cell_regrown hcz d os
  have HFD := Lib.hid hfd
  clear hb2 hfd
  have hin : i ≤ n := by have := HFD.out.le; have := HN.out; omega
  go_upto_region 2 with fail
  clear hcz
  by_cases hlt : i < n
  · have e1 : (i : Int) < n := by omega
    obtain ⟨x, hx⟩ : ∃ s, l[i]? = some s := ⟨_, List.getElem?_eq_getElem (by have := HN.out; omega)⟩
    have c0 := HC.out i x hx 0 _ rfl
    rw [Nat.add_zero] at c0
    rw [← HB2.out.cell (by exact HLT.out i hlt)] at c0
    have r0 := fun d os => cell_regrown c0 d os
    have hixi := fun W => hix W i hlt
    have hok : Hid (rok l z i = decide (x.1 = z)) := by show _ = _; unfold rok; rw [hx]
    obtain ⟨xt, xu⟩ := x
    simp only at c0 r0 hok
    clear hx c0
    by_cases he : xt = z
    · have e2 : (xt == z) = true := by simpa using he
      have HF : Hid (rok l z i = true) := by show _ = _; rw [hok.out]; exact decide_eq_true he
      clear he
      refine wp_region_quiet_below (by kernel_rfl) (by kernel_rfl) ?_
      repeat (go_big_quiet_step ((fail)))
      refine wpQuiet_nil ?_
      intro _ hw'
      obtain ⟨⟨dq, osq⟩, hw''⟩ := hw'
      subst hw''
      have HB3 := below_regrown w2 dq osq
      obtain ⟨W3, hwq⟩ : ∃ x, x = grow (redrawn w2 dq) osq := ⟨_, rfl⟩
      rw [← hwq] at HB3 ⊢
      clear hwq
      have HFIN := Lib.hid (HB2.out.trans (HB3.mono HB2.out.size))
      clear HB3
      go_wp2
      go_ret2
      exact ⟨i, by rw [HF.out]; rfl, HFD.out, HFIN.out⟩
    · have e2 : (xt == z) = false := by simpa using he
      have HF : Hid (rok l z i = false) := by show _ = _; rw [hok.out]; exact decide_eq_false he
      clear he
      refine wp_region_quiet_below (by kernel_rfl) (by kernel_rfl) ?_
      repeat (go_big_quiet_step ((fail)))
      refine wpQuiet_nil ?_
      intro _ hw'
      obtain ⟨⟨dq, osq⟩, hw''⟩ := hw'
      subst hw''
      have HB3 := below_regrown w2 dq osq
      obtain ⟨W3, hwq⟩ : ∃ x, x = grow (redrawn w2 dq) osq := ⟨_, rfl⟩
      rw [← hwq] at HB3 ⊢
      clear hwq
      have HFIN := Lib.hid (HB2.out.trans (HB3.mono HB2.out.size))
      clear HB3
      go_wp2
      go_ret2
      exact ⟨i, by rw [HF.out]; rfl, HFD.out, HFIN.out⟩
  · have e1 : decide (i < n) = false := by simpa using hlt
    have HF : Hid (rok l z i = false) := by show _ = _; unfold rok; rw [List.getElem?_eq_none (by have := HN.out; omega)]
    clear hlt
    refine wp_region_quiet_below (by kernel_rfl) (by kernel_rfl) ?_
    repeat (go_big_quiet_step ((fail)))
    refine wpQuiet_nil ?_
    intro _ hw'
    obtain ⟨⟨dq, osq⟩, hw''⟩ := hw'
    subst hw''
    have HB3 := below_regrown w2 dq osq
    obtain ⟨W3, hwq⟩ : ∃ x, x = grow (redrawn w2 dq) osq := ⟨_, rfl⟩
    rw [← hwq] at HB3 ⊢
    clear hwq
    have HFIN := Lib.hid (HB2.out.trans (HB3.mono HB2.out.size))
    clear HB3
    go_wp2
    go_ret2
    exact ⟨i, by rw [HF.out]; rfl, HFD.out, HFIN.out⟩

/-- is it revoked at a time -/
def rhas (l : List RT) (z t : Int) : Bool := l.any fun x => decide (x.1 = z) && decide (t ≤ x.2)
theorem rhas_at {l : List RT} {z t k0 : Int} {i : Nat} (hs : rlt k0 l) (h : RFd l z i) : rhas l z t = (match l[i]? with | none => false | some x => decide (x.1 = z) && decide (t ≤ x.2)) := by
  have hno : ∀ (j : Nat) (y : RT), l[j]? = some y → j ≠ i → y.1 ≠ z := by
    intro j y hy hj he
    rcases Nat.lt_or_gt_of_ne hj with h1 | h1
    · have := h.lo j y h1 hy; omega
    · obtain ⟨x, hx⟩ : ∃ x, l[i]? = some x := ⟨_, List.getElem?_eq_getElem (by have := (List.getElem?_eq_some_iff.1 hy).1; omega)⟩
      have := h.hi i x (Nat.le_refl _) hx
      have := rlt_get hs i j x y h1 hx hy
      omega
  unfold rhas
  rw [Bool.eq_iff_iff, List.any_eq_true]
  constructor
  · rintro ⟨y, hy, hb⟩
    simp only [Bool.and_eq_true, decide_eq_true_eq] at hb
    obtain ⟨j, hj⟩ := List.getElem?_of_mem hy
    by_cases hji : j = i
    · subst hji
      rw [hj]
      simp [hb.1, hb.2]
    · exact absurd hb.1 (hno j y hj hji)
  · intro hb
    cases hx : l[i]? with
    | none => rw [hx] at hb; cases hb
    | some x => rw [hx] at hb; exact ⟨x, List.mem_of_getElem? hx, hb⟩

set_option maxRecDepth 100000 in
set_option maxHeartbeats 800000 in
theorem rHas_any (v : Value) (l : List RT) (z t : Int) (k0 : Int) (w : World) (h : Gs 2 csR w v l) (hl : l.length ≤ 100000) (hs : rlt k0 l) :
    Calls Try.prog 17 #[v, .int .i64 z, .int .i64 t] w fun e w' => e = .returned (.bool (rhas l z t)) ∧ Below w.heap.size w w' := by
  have CF := Lib.hid (rFind_any v l z k0 w h hl hs)
  have HAT := Lib.hid (fun i (hi : RFd l z i) => rhas_at (t := t) hs hi)
  obtain ⟨n, hn⟩ : ∃ n, l.length = n := ⟨_, rfl⟩
  obtain ⟨a, c, b, o, rfl, h1, h2, hix, hlt', hcell, -⟩ := h.open_n layR elR n hn
  have HC := Lib.hid hcell
  have HN := Lib.hid hn
  have HLT := Lib.hid hlt'
  have hn1 : n ≤ 100000 := by omega
  obtain ⟨R, hR⟩ : ∃ R, rhas l z t = R := ⟨_, rfl⟩
  rw [hR] at HAT ⊢
  clear h hl hs hn hcell hlt' hR
  go_enter Try.func17, Try.ntmps17
  go_wp2_with fail
  refine CF.out.mono ?_
  rintro e w2 ⟨i, rfl, hfd, hb2⟩
  have hat := HAT.out i hfd
  have HB2 := Lib.hid hb2
  cases hx : l[i]? with
  | none =>
    rw [hx] at hat
    have hro : rok l z i = false := by unfold rok; rw [hx]
    rw [hro]
    have HF : Hid (R = false) := hat
    clear hfd hb2 hat hro hx
    go_wp2
    go_ret
    exact ⟨by rw [HF.out]; rfl, HB2.out⟩
  | some x =>
    have hin : i < n := by have := (List.getElem?_eq_some_iff.1 hx).1; have := HN.out; omega
    have c1 := HC.out i x hx 1 _ rfl
    rw [← HB2.out.cell (by exact HLT.out i hin)] at c1
    have hixi := fun W => hix W i hin
    rw [hx] at hat
    have hro : rok l z i = decide (x.1 = z) := by unfold rok; rw [hx]
    obtain ⟨xt, xu⟩ := x
    simp only at c1 hat hro
    by_cases he : xt = z
    · rw [decide_eq_true he] at hro hat
      rw [hro]
      have HF : Hid (R = decide (t ≤ xu)) := by show _ = _; rw [hat]; rfl
      clear hfd hb2 hat hro hx he
      go_wp2
      go_ret
      exact ⟨by rw [HF.out]; rfl, HB2.out⟩
    · rw [decide_eq_false he] at hro hat
      rw [hro]
      have HF : Hid (R = false) := by show _ = _; rw [hat]; rfl
      clear hfd hb2 hat hro hx he
      go_wp2
      go_ret
      exact ⟨by rw [HF.out]; rfl, HB2.out⟩

end Go.Proofs.Ytjnbdeopoohnmaa
