/- Dv2: Dv1, Dv2 as one text. -/
import Derived.Test.YtjnbdeopoohnmaaGreatDoorCh3
import Derived.Test.YtjnbdeopoohnmaaGreatDoorTraceP
import Derived.Test.YtjnbdeopoohnmaaGreatDoorTrace0
import Derived.Deep.RegionLaw
import Derived.Deep.RegionHeld3
import Derived.Deep.DeepCutAuto
import Derived.Deep.CutBlock
import Derived.Lib.QuietBelow
/- Layer 48 (device): devices that are read; ordered. -/
set_option linter.unusedSimpArgs false
namespace Go.Proofs.YtjnbdeopoohnmaaGreatDoor
open Go.RowKit Go.Sort

structure DvD where
  tk : List UInt8
  ky : List UInt8
  sm : List Smp
/-- a device's three slices -/
structure Dv (w : World) (vt vk vs : Value) (d : DvD) : Prop where
  tk : Bs w vt d.tk
  ky : Bs w vk d.ky
  sm : Ss w vs d.sm
theorem Dv.below {w w' : World} {vt vk vs : Value} {d : DvD} (h : Dv w vt vk vs d) (hb : Below w.heap.size w w') : Dv w' vt vk vs d := ⟨h.tk.below hb, h.ky.below hb, h.sm.below hb⟩
def dvz : DvD := ⟨[], [], []⟩
theorem dv_zero (w : World) : Dv w (.slice none 0 0) (.slice none 0 0) (.slice none 0 0) dvz := ⟨Rd.nil _ _, Rd.nil _ _, Rd.nil _ _⟩
def DRight (d : DvD) : Prop := (topen d.tk).2.2 = 0 ∧ d.ky.length = 32 ∧ SRight d.sm ∧ d.sm.length ≤ 2048
noncomputable def pB (p : Prop) : Bool := @decide p (Classical.propDecidable p)
theorem pB_yes {p : Prop} (h : p) : pB p = true := @decide_eq_true _ (Classical.propDecidable _) h
theorem pB_no {p : Prop} (h : ¬ p) : pB p = false := @decide_eq_false _ (Classical.propDecidable _) h
theorem pB_iff {p : Prop} : pB p = true ↔ p := ⟨fun h => @of_decide_eq_true _ (Classical.propDecidable _) h, pB_yes⟩
theorem three_at {w : World} {q : Nat} {a b c : Value} {T : Nat} (h : w.heap[q]? = some (.cells #[a, b, c] T (0, 0))) : w.cell? ⟨q, 0, none⟩ = some a ∧ w.cell? ⟨q, 1, none⟩ = some b ∧ w.cell? ⟨q, 2, none⟩ = some c :=
  ⟨cell_of_row w _ _ _ _ _ h, cell_of_row w _ _ _ _ _ h, cell_of_row w _ _ _ _ _ h⟩

set_option maxRecDepth 100000 in
set_option maxHeartbeats 1600000 in
theorem dvord_any (ta ka : Option Addr) (tn tc kn kc : Nat) (vs : Value) (l : List Smp) (w : World) (h : Ss w vs l) :
    Calls Tryz.prog 85 #[.agg #[.slice ta tn tc, .slice ka kn kc, vs]] w fun e w' => e = .returned (.bool (pB (SRight l ∧ l.length ≤ 2048))) ∧ Below w.heap.size w w' := by
  obtain ⟨n, hn⟩ : ∃ n, l.length = n := ⟨_, rfl⟩
  obtain ⟨a, c, b1, o1, rfl, ha1, ha2, ha3, ha4, ha5⟩ := Ss.open_n elS h n hn
  obtain ⟨R, hR⟩ : ∃ R, pB (SRight l ∧ l.length ≤ 2048) = R := ⟨_, rfl⟩
  rw [hR]
  obtain ⟨q, hq⟩ : ∃ q, w.heap.size = q := ⟨_, rfl⟩
  obtain ⟨W, hW⟩ : ∃ W, w.alloc (.cells #[.slice ta tn tc, .slice ka kn kc, .slice a n c] 83) = W := ⟨_, rfl⟩
  have hb0 : Below w.heap.size w W := by rw [← hW]; exact (Below.refl _ _).alloc (Nat.le_refl _) _
  have hr0 : W.heap[q]? = some (.cells #[.slice ta tn tc, .slice ka kn kc, .slice a n c] 83 (0, 0)) := by rw [← hW, ← hq]; exact heap_alloc_new _ _
  have HQX := Lib.hid (fun (V : World) (hV : Below W.heap.size W V) => three_at ((hV.block q (heap_lt hr0)).trans hr0))
  have HB0 := Lib.hid hb0
  have HN := Lib.hid hn
  have HRR := Lib.hid hR
  have HA3 := Lib.hid ha3
  have HA4 := Lib.hid ha4
  have HA5 := Lib.hid ha5
  obtain ⟨z0, z1, z2⟩ := HQX.out W (Below.refl _ _)
  clear h hn hR hb0 hr0 ha3 ha4 ha5
  go_enter Tryz.func85, Tryz.ntmps85
  go_wp2_with fail
  go_loopg [9] n (fun qq vi wr => ∃ k : Nat, qq = n - k ∧ k ≤ n ∧ vi = .int .i64 k ∧ Hid (Below W.heap.size W wr) ∧ Hid (∀ i s, i < k → l[i]? = some s → SMay s ∧ (0 < i → ∀ p, l[i - 1]? = some p → p.t < s.t)))
  case atStart => exact ⟨0, by omega, by omega, rfl, Below.refl _ _, fun i s hi => by omega⟩
  case round =>
    obtain ⟨k, rfl, hk, rfl, HB, HS⟩ := hrel
    clear z0 z1 z2
    have HBW : Hid (Below w.heap.size w wr) := HB0.out.trans (HB.out.mono HB0.out.size)
    obtain ⟨z0, z1, z2⟩ := HQX.out wr HB.out
    by_cases hlt : k < n
    · obtain ⟨s, hs⟩ : ∃ s, l[k]? = some s := ⟨_, List.getElem?_eq_getElem (by have := HN.out; omega)⟩
      have e1 : (k : Int) < n := by omega
      have hlb := HA4.out k hlt
      obtain ⟨p0, p1, p2⟩ := HA5.out k s hs
      rw [← HBW.out.cell (by exact hlb)] at p0 p1 p2
      have hixk := fun W => HA3.out W (k : Int) (by omega) e1
      rw [show ((k : Int)).toNat = k by omega] at hixk
      obtain ⟨t, x, y⟩ := s
      simp only at p0 p1 p2
      have hal : Below wr.heap.size wr (wr.alloc (.cells #[.int .i64 t, .int .i64 x, .int .i64 y] 55)) := (Below.refl _ _).alloc (Nat.le_refl _) _
      have hr4 : (wr.alloc (.cells #[.int .i64 t, .int .i64 x, .int .i64 y] 55)).heap[wr.heap.size]? = some (.cells #[.int .i64 t, .int .i64 x, .int .i64 y] 55 (0, 0)) := heap_alloc_new _ _
      obtain ⟨p, hp⟩ : ∃ p, wr.heap.size = p := ⟨_, rfl⟩
      obtain ⟨V1, hV1⟩ : ∃ V, wr.alloc (.cells #[.int .i64 t, .int .i64 x, .int .i64 y] 55) = V := ⟨_, rfl⟩
      rw [hV1] at hal hr4
      rw [hp] at hr4
      obtain ⟨y0, y1, y2⟩ := three_at hr4
      have HB1 : Hid (Below W.heap.size W V1) := HB.out.trans (hal.mono HB.out.size)
      have HBW1 : Hid (Below w.heap.size w V1) := HB0.out.trans (HB1.out.mono HB0.out.size)
      obtain ⟨x0, x1, x2⟩ := HQX.out V1 HB1.out
      obtain ⟨mb, hmb⟩ : ∃ b, mayB ⟨t, x, y⟩ = b := ⟨_, rfl⟩
      have CM := Lib.hid (fun V => smay_is ⟨t, x, y⟩ mb hmb V)
      have ry0 := fun d os => cell_regrown y0 d os
      have ry1 := fun d os => cell_regrown y1 d os
      have ry2 := fun d os => cell_regrown y2 d os
      have rx2 := fun d os => cell_regrown x2 d os
      have HMB := Lib.hid hmb
      have HLT := Lib.hid hlt
      have HSK := Lib.hid hs
      have HNO : Hid (¬ (SMay ⟨t, x, y⟩ ∧ (0 < k → ∀ p, l[k - 1]? = some p → p.t < t)) → R = false) := fun h => by
        rw [← HRR.out]
        exact pB_no fun hR => h (hR.1 k ⟨t, x, y⟩ HSK.out)
      have HYES : Hid (SMay ⟨t, x, y⟩ ∧ (0 < k → ∀ p, l[k - 1]? = some p → p.t < t) → ∀ i s, i < k + 1 → l[i]? = some s → SMay s ∧ (0 < i → ∀ p, l[i - 1]? = some p → p.t < s.t)) := fun h i s' hi hs' => by
        by_cases hik : i < k
        · exact HS.out i s' hik hs'
        · have hik2 : i = k := by omega
          rw [hik2] at hs' ⊢
          have := Option.some.inj (HSK.out.symm.trans hs')
          subst this
          exact h
      have HV1 := Lib.hid hV1
      have HP := Lib.hid hp
      clear hmb hlt hs hlb hal hr4 y0 y1 y2 hV1 hp
      go_upto_region 4 with (with_reducible refine wpList_store_new rfl _ _ rfl rfl rfl (by kernel_rfl) (by simp) (by simp [Value.oneCell']) ?_)
      rw [HV1.out, HP.out]
      clear p0 p1 p2 z0 z1 z2
      cases mb with
      | false =>
        have HF : Hid (R = false) := HNO.out fun h => by have := (mayB_iff _).2 h.1; rw [HMB.out] at this; cases this
        try simp only [Act.put]
        refine wp_region_quiet_below (by kernel_rfl) (by kernel_rfl) ?_
        repeat (go_big_quiet_step ((go_at_call 39; with_reducible exact Calls.regrown_of (CM.out _))))
        refine wpQuiet_nil ?_
        intro _ hw'
        obtain ⟨⟨dq, osq⟩, hw''⟩ := hw'
        subst hw''
        have HB2 := below_regrown V1 dq osq
        obtain ⟨V2, hwq⟩ : ∃ x, x = grow (redrawn V1 dq) osq := ⟨_, rfl⟩
        rw [← hwq] at HB2 ⊢
        clear hwq
        have HBF : Hid (Below w.heap.size w V2) := HBW1.out.trans (HB2.mono HBW1.out.size)
        go_wp2
        go_ret
        exact ⟨by rw [HF.out]; rfl, by rw [← hq]; exact HBF.out⟩
      | true =>
        have hsm : SMay ⟨t, x, y⟩ := (mayB_iff _).1 HMB.out
        have HSM := Lib.hid hsm
        clear hsm
        by_cases hk0 : 0 < k
        · obtain ⟨pp, hpp⟩ : ∃ s, l[k - 1]? = some s := ⟨_, List.getElem?_eq_getElem (by have := HN.out; have := HLT.out; omega)⟩
          obtain ⟨d0, -, -⟩ := HA5.out (k - 1) pp hpp
          rw [← HBW1.out.cell (by exact HA4.out (k - 1) (by have := HLT.out; omega))] at d0
          have rd0 := fun d os => cell_regrown d0 d os
          have hixp := fun W => HA3.out W ((k : Int) - 1) (by omega) (by have := HLT.out; omega)
          rw [show ((k : Int) - 1).toNat = k - 1 by omega] at hixp
          have hkb : k ≤ 9223372036854775807 := by have := HLT.out; omega
          have HPP := Lib.hid hpp
          clear hpp d0
          by_cases hle : t ≤ pp.t
          · have HF : Hid (R = false) := HNO.out fun h => by have := h.2 hk0 pp HPP.out; omega
            try simp only [Act.put]
            refine wp_region_quiet_below (by kernel_rfl) (by kernel_rfl) ?_
            repeat (go_big_quiet_step ((go_at_call 39; with_reducible exact Calls.regrown_of (CM.out _))))
            refine wpQuiet_nil ?_
            intro _ hw'
            obtain ⟨⟨dq, osq⟩, hw''⟩ := hw'
            subst hw''
            have HB2 := below_regrown V1 dq osq
            obtain ⟨V2, hwq⟩ : ∃ x, x = grow (redrawn V1 dq) osq := ⟨_, rfl⟩
            rw [← hwq] at HB2 ⊢
            clear hwq
            have HBF : Hid (Below w.heap.size w V2) := HBW1.out.trans (HB2.mono HBW1.out.size)
            go_wp2
            go_ret
            exact ⟨by rw [HF.out]; rfl, by rw [← hq]; exact HBF.out⟩
          · have HY := Lib.hid (HYES.out ⟨HSM.out, fun _ p hp => by rw [HPP.out] at hp; cases hp; omega⟩)
            try simp only [Act.put]
            refine wp_region_quiet_below (by kernel_rfl) (by kernel_rfl) ?_
            repeat (go_big_quiet_step ((go_at_call 39; with_reducible exact Calls.regrown_of (CM.out _))))
            refine wpQuiet_nil ?_
            intro _ hw'
            obtain ⟨⟨dq, osq⟩, hw''⟩ := hw'
            subst hw''
            have HB2 := below_regrown V1 dq osq
            obtain ⟨V2, hwq⟩ : ∃ x, x = grow (redrawn V1 dq) osq := ⟨_, rfl⟩
            rw [← hwq] at HB2 ⊢
            clear hwq
            have HBF : Hid (Below W.heap.size W V2) := HB1.out.trans (HB2.mono HB1.out.size)
            go_wp2
            go_roundg (n - (k + 1))
            case rel => exact ⟨k + 1, rfl, by have := HLT.out; omega, by go_num, HBF, HY⟩
            case measure => have := HLT.out; omega
        · have HY := Lib.hid (HYES.out ⟨HSM.out, fun h => absurd h hk0⟩)
          try simp only [Act.put]
          refine wp_region_quiet_below (by kernel_rfl) (by kernel_rfl) ?_
          repeat (go_big_quiet_step ((go_at_call 39; with_reducible exact Calls.regrown_of (CM.out _))))
          refine wpQuiet_nil ?_
          intro _ hw'
          obtain ⟨⟨dq, osq⟩, hw''⟩ := hw'
          subst hw''
          have HB2 := below_regrown V1 dq osq
          obtain ⟨V2, hwq⟩ : ∃ x, x = grow (redrawn V1 dq) osq := ⟨_, rfl⟩
          rw [← hwq] at HB2 ⊢
          clear hwq
          have HBF : Hid (Below W.heap.size W V2) := HB1.out.trans (HB2.mono HB1.out.size)
          go_wp2
          go_roundg (n - (k + 1))
          case rel => exact ⟨k + 1, rfl, by have := HLT.out; omega, by go_num, HBF, HY⟩
          case measure => have := HLT.out; omega
    · obtain rfl : k = n := by omega
      have e1 : ¬ (k : Int) < k := by omega
      have hsr : SRight l := fun i s hi => HS.out i s (by have := (List.getElem?_eq_some_iff.1 hi).1; have := HN.out; omega) hi
      by_cases h48 : k ≤ 2048
      · have e2 : (k : Int) ≤ 2048 := by omega
        have HF : Hid (R = true) := by show _ = _; rw [← HRR.out]; exact pB_yes ⟨hsr, by rw [HN.out]; exact h48⟩
        clear hsr
        go_wp2
        go_ret
        exact ⟨by rw [HF.out]; rfl, by rw [← hq]; exact HBW.out⟩
      · have e2 : ¬ (k : Int) ≤ 2048 := by omega
        have HF : Hid (R = false) := by show _ = _; rw [← HRR.out]; exact pB_no fun h => h48 (by have := h.2; rwa [HN.out] at this)
        clear hsr
        go_wp2
        go_ret
        exact ⟨by rw [HF.out]; rfl, by rw [← hq]; exact HBW.out⟩
end Go.Proofs.YtjnbdeopoohnmaaGreatDoor
/- Layer 48 (device): Right of both sides, few, same, with. -/
set_option linter.unusedSimpArgs false
namespace Go.Proofs.YtjnbdeopoohnmaaGreatDoor
open Go.RowKit Go.Sort

set_option maxRecDepth 100000 in
set_option maxHeartbeats 1600000 in
theorem dvhright_any (vt vk vs : Value) (d : DvD) (w : World) (h : Dv w vt vk vs d) (hl : d.tk.length ≤ 1048576) :
    Calls Tryz.prog 49 #[.agg #[vt, vk, vs]] w fun e w' => e = .returned (.bool (pB (DRight d))) ∧ Below w.heap.size w w' := by
  obtain ⟨R, hR⟩ : ∃ R, pB (DRight d) = R := ⟨_, rfl⟩
  rw [hR]
  obtain ⟨q, hq⟩ : ∃ q, w.heap.size = q := ⟨_, rfl⟩
  obtain ⟨W, hW⟩ : ∃ W, w.alloc (.cells #[vt, vk, vs] 83) = W := ⟨_, rfl⟩
  have hb0 : Below w.heap.size w W := by rw [← hW]; exact (Below.refl _ _).alloc (Nat.le_refl _) _
  have hr0 : W.heap[q]? = some (.cells #[vt, vk, vs] 83 (0, 0)) := by rw [← hW, ← hq]; exact heap_alloc_new _ _
  have HQX := Lib.hid (fun (V : World) (hV : Below W.heap.size W V) => three_at ((hV.block q (heap_lt hr0)).trans hr0))
  have CO := Lib.hid (open_any vt d.tk W (h.tk.below hb0) hl)
  unfold OpenPost at CO
  have HB0 := Lib.hid hb0
  have HH := Lib.hid h
  have HRR := Lib.hid hR
  obtain ⟨ta, tc, rfl⟩ := h.tk.shape
  obtain ⟨ka, kc, rfl⟩ := h.ky.shape
  obtain ⟨sa, sc, rfl⟩ := h.sm.shape
  obtain ⟨tn, htn⟩ : ∃ n, d.tk.length = n := ⟨_, rfl⟩
  obtain ⟨kn, hkn⟩ : ∃ n, d.ky.length = n := ⟨_, rfl⟩
  obtain ⟨sn, hsn⟩ : ∃ n, d.sm.length = n := ⟨_, rfl⟩
  rw [htn] at HH CO
  rw [hkn] at HH
  rw [hsn] at HH
  rw [htn, hkn, hsn] at HQX hW ⊢
  have CS := Lib.hid (fun V (hV : Below w.heap.size w V) => dvord_any ta ka tn tc kn kc (.slice sa sn sc) d.sm V (HH.out.sm.below hV))
  obtain ⟨ro, hro⟩ : ∃ b, pB (SRight d.sm ∧ d.sm.length ≤ 2048) = b := ⟨_, rfl⟩
  rw [hro] at CS
  have HRO := Lib.hid hro
  have HKN := Lib.hid hkn
  obtain ⟨⟨⟨x1, x2, x3, x4, x5, x6⟩, tg, e0⟩, hto⟩ : ∃ x, topen d.tk = x := ⟨_, rfl⟩
  rw [hto] at CO
  unfold Tok.row at CO
  simp only at CO
  have HE0 : Hid ((topen d.tk).2.2 = e0) := by show _ = _; rw [hto]
  obtain ⟨z0, z1, z2⟩ := HQX.out W (Below.refl _ _)
  clear h hR hb0 hr0 htn hkn hsn hro hto hl
  go_enter Tryz.func49, Tryz.ntmps49
  go_wp2_with fail
  refine CO.out.mono ?_
  rintro e w1 ⟨v1, rfl, hv1, hb1⟩
  obtain ⟨ga, gc, rfl⟩ := hv1.shape
  obtain ⟨gn, hgn⟩ : ∃ n, tg.length = n := ⟨_, rfl⟩
  rw [hgn]
  obtain ⟨W2, hW2⟩ : ∃ V, w1.alloc (.cells #[.int .i64 x1, .int .i64 x2, .int .i64 x3, .int .i64 x4, .int .i64 x5, .int .i64 x6] 62) = V := ⟨_, rfl⟩
  have hb2 : Below W.heap.size W W2 := by rw [← hW2]; exact hb1.alloc hb1.size _
  have HB2 := Lib.hid hb2
  have HBW := Lib.hid (HB0.out.trans (hb2.mono HB0.out.size))
  have HW2 := Lib.hid hW2
  clear hv1 hb1 hgn hb2 hW2 z0 z1 z2 CO
  go_upto_region 2 with (with_reducible refine wpList_store_new rfl _ _ rfl rfl rfl (by kernel_rfl) (by simp) (by simp [Value.oneCell']) ?_)
  rw [HW2.out]
  obtain ⟨z0, z1, z2⟩ := HQX.out W2 HB2.out
  by_cases he0 : e0 = 0
  · subst he0
    by_cases hk : kn = 32
    · subst hk
      have CSS := Lib.hid (CS.out W2 HBW.out)
      have HF : Hid (R = ro) := by
        show _ = _
        rw [← HRR.out, ← HRO.out, Bool.eq_iff_iff, pB_iff, pB_iff]
        unfold DRight
        rw [HE0.out, HKN.out]
        simp
      clear CS
      go_wp2_with fail
      refine CSS.out.mono ?_
      rintro e w3 ⟨rfl, hb3⟩
      have HB3 := Lib.hid (HBW.out.trans (hb3.mono HBW.out.size))
      clear hb3
      go_wp2
      go_ret
      exact ⟨by rw [HF.out]; rfl, HB3.out⟩
    · have e1 : ((kn : Int) == 32) = false := by simp; omega
      have HF : Hid (R = false) := by show _ = _; rw [← HRR.out]; exact pB_no fun h => hk (by have := h.2.1; rwa [HKN.out] at this)
      clear hk
      go_wp2
      go_ret
      exact ⟨by rw [HF.out]; rfl, HBW.out⟩
  · have e1 : ((e0 : Int) == 0) = false := by simp; omega
    have HF : Hid (R = false) := by show _ = _; rw [← HRR.out]; exact pB_no fun h => he0 (by have := h.1; rwa [HE0.out] at this)
    clear he0
    go_wp2
    go_ret
    exact ⟨by rw [HF.out]; rfl, HBW.out⟩

set_option maxRecDepth 100000 in
theorem dvright_any (vt vk vs : Value) (d : DvD) (w : World) (h : Dv w vt vk vs d) (hl : d.tk.length ≤ 1048576) :
    Calls Tryz.prog 21 #[.agg #[vt, vk, vs]] w fun e w' => e = .returned (.bool (pB (DRight d))) ∧ Below w.heap.size w w' := by
  obtain ⟨ta, tc, rfl⟩ := h.tk.shape
  obtain ⟨ka, kc, rfl⟩ := h.ky.shape
  obtain ⟨sa, sc, rfl⟩ := h.sm.shape
  have hb0 : Below w.heap.size w (w.alloc (.cells #[.slice ta d.tk.length tc, .slice ka d.ky.length kc, .slice sa d.sm.length sc] 28)) := (Below.refl _ _).alloc (Nat.le_refl _) _
  have C := Lib.hid (dvhright_any _ _ _ d (w.alloc (.cells #[.slice ta d.tk.length tc, .slice ka d.ky.length kc, .slice sa d.sm.length sc] 28)) (h.below hb0) hl)
  have HB0 := Lib.hid hb0
  obtain ⟨R, hR⟩ : ∃ R, pB (DRight d) = R := ⟨_, rfl⟩
  rw [hR] at C ⊢
  obtain ⟨tn, htn⟩ : ∃ n, d.tk.length = n := ⟨_, rfl⟩
  obtain ⟨kn, hkn⟩ : ∃ n, d.ky.length = n := ⟨_, rfl⟩
  obtain ⟨sn, hsn⟩ : ∃ n, d.sm.length = n := ⟨_, rfl⟩
  rw [htn, hkn, hsn] at C HB0 ⊢
  clear h hl hb0 hR htn hkn hsn
  go_enter Tryz.func21, Tryz.ntmps21
  go_wp2_with fail
  refine C.out.mono ?_
  rintro e w1 ⟨rfl, hb1⟩
  have HB1 := Lib.hid (HB0.out.trans (hb1.mono HB0.out.size))
  clear hb1
  go_wp2
  go_ret
  exact ⟨rfl, HB1.out⟩
set_option maxRecDepth 100000 in
set_option maxHeartbeats 1600000 in
theorem dvlright_any (vt vk vs : Value) (d : DvD) (w : World) (h : Dv w vt vk vs d) (hl : d.tk.length ≤ 1048576) :
    Calls Tryz.prog 12 #[.agg #[vt, vk, vs]] w fun e w' => e = .returned (.bool (pB (DRight d))) ∧ Below w.heap.size w w' := by
  obtain ⟨R, hR⟩ : ∃ R, pB (DRight d) = R := ⟨_, rfl⟩
  rw [hR]
  obtain ⟨q, hq⟩ : ∃ q, w.heap.size = q := ⟨_, rfl⟩
  obtain ⟨W, hW⟩ : ∃ W, w.alloc (.cells #[vt, vk, vs] 28) = W := ⟨_, rfl⟩
  have hb0 : Below w.heap.size w W := by rw [← hW]; exact (Below.refl _ _).alloc (Nat.le_refl _) _
  have hr0 : W.heap[q]? = some (.cells #[vt, vk, vs] 28 (0, 0)) := by rw [← hW, ← hq]; exact heap_alloc_new _ _
  have HQX := Lib.hid (fun (V : World) (hV : Below W.heap.size W V) => three_at ((hV.block q (heap_lt hr0)).trans hr0))
  have CO := Lib.hid (uopen_any vt d.tk W (h.tk.below hb0) hl)
  unfold OpenPost at CO
  have HB0 := Lib.hid hb0
  have HH := Lib.hid h
  have HRR := Lib.hid hR
  obtain ⟨ta, tc, rfl⟩ := h.tk.shape
  obtain ⟨ka, kc, rfl⟩ := h.ky.shape
  obtain ⟨sa, sc, rfl⟩ := h.sm.shape
  obtain ⟨tn, htn⟩ : ∃ n, d.tk.length = n := ⟨_, rfl⟩
  obtain ⟨kn, hkn⟩ : ∃ n, d.ky.length = n := ⟨_, rfl⟩
  obtain ⟨sn, hsn⟩ : ∃ n, d.sm.length = n := ⟨_, rfl⟩
  rw [htn] at HH CO
  rw [hkn] at HH
  rw [hsn] at HH
  rw [htn, hkn, hsn] at HQX hW ⊢
  have CS := Lib.hid (fun V (hV : Below w.heap.size w V) => rright_any (.slice sa sn sc) d.sm V (HH.out.sm.below hV))
  unfold RightPost at CS
  have HSN := Lib.hid hsn
  have HKN := Lib.hid hkn
  obtain ⟨⟨⟨x1, x2, x3, x4, x5, x6⟩, tg, e0⟩, hto⟩ : ∃ x, topen d.tk = x := ⟨_, rfl⟩
  rw [hto] at CO
  unfold Tok.row at CO
  simp only at CO
  have HE0 : Hid ((topen d.tk).2.2 = e0) := by show _ = _; rw [hto]
  obtain ⟨z0, z1, z2⟩ := HQX.out W (Below.refl _ _)
  clear h hR hb0 hr0 htn hkn hsn hto hl
  go_enter Tryz.func12, Tryz.ntmps12
  go_wp2_with fail
  refine CO.out.mono ?_
  rintro e w1 ⟨v1, rfl, hv1, hb1⟩
  obtain ⟨ga, gc, rfl⟩ := hv1.shape
  obtain ⟨gn, hgn⟩ : ∃ n, tg.length = n := ⟨_, rfl⟩
  rw [hgn]
  obtain ⟨W2, hW2⟩ : ∃ V, w1.alloc (.cells #[.int .i64 x1, .int .i64 x2, .int .i64 x3, .int .i64 x4, .int .i64 x5, .int .i64 x6] 62) = V := ⟨_, rfl⟩
  have hb2 : Below W.heap.size W W2 := by rw [← hW2]; exact hb1.alloc hb1.size _
  have HB2 := Lib.hid hb2
  have HBW := Lib.hid (HB0.out.trans (hb2.mono HB0.out.size))
  have HW2 := Lib.hid hW2
  clear hv1 hb1 hgn hb2 hW2 z0 z1 z2 CO
  go_upto_region 2 with (with_reducible refine wpList_store_new rfl _ _ rfl rfl rfl (by kernel_rfl) (by simp) (by simp [Value.oneCell']) ?_)
  rw [HW2.out]
  obtain ⟨z0, z1, z2⟩ := HQX.out W2 HB2.out
  by_cases he0 : e0 = 0
  · subst he0
    by_cases hk : kn = 32
    · subst hk
      have CSS := Lib.hid (CS.out W2 HBW.out)
      clear CS
      go_wp2_with fail
      refine CSS.out.mono ?_
      rintro e w3 ⟨rb, rfl, hrb, hb3⟩
      have HB3 := Lib.hid (HBW.out.trans (hb3.mono HBW.out.size))
      have HB23 := Lib.hid (HB2.out.trans (hb3.mono HB2.out.size))
      have HRB := Lib.hid hrb
      clear hb3 hrb z0 z1 z2
      obtain ⟨z0, z1, z2⟩ := HQX.out w3 HB23.out
      cases rb with
      | false =>
        have HF : Hid (R = false) := by show _ = _; rw [← HRR.out]; exact pB_no fun h => by have := HRB.out.2 h.2.2.1; cases this
        go_wp2
        go_ret
        exact ⟨by rw [HF.out]; rfl, HB3.out⟩
      | true =>
        by_cases h48 : sn ≤ 2048
        · have e2 : (sn : Int) ≤ 2048 := by omega
          have HF : Hid (R = true) := by show _ = _; rw [← HRR.out]; exact pB_yes ⟨HE0.out, HKN.out, HRB.out.1 rfl, by rw [HSN.out]; exact h48⟩
          clear h48
          go_wp2
          go_ret
          exact ⟨by rw [HF.out]; rfl, HB3.out⟩
        · have e2 : decide ((sn : Int) ≤ 2048) = false := by simp; omega
          have HF : Hid (R = false) := by show _ = _; rw [← HRR.out]; exact pB_no fun h => h48 (by have := h.2.2.2; rwa [HSN.out] at this)
          clear h48
          go_wp2
          go_ret
          exact ⟨by rw [HF.out]; rfl, HB3.out⟩
    · have e1 : ((kn : Int) == 32) = false := by simp; omega
      have HF : Hid (R = false) := by show _ = _; rw [← HRR.out]; exact pB_no fun h => hk (by have := h.2.1; rwa [HKN.out] at this)
      clear hk
      go_wp2
      go_ret
      exact ⟨by rw [HF.out]; rfl, HBW.out⟩
  · have e1 : ((e0 : Int) == 0) = false := by simp; omega
    have HF : Hid (R = false) := by show _ = _; rw [← HRR.out]; exact pB_no fun h => he0 (by have := h.1; rwa [HE0.out] at this)
    clear he0
    go_wp2
    go_ret
    exact ⟨by rw [HF.out]; rfl, HBW.out⟩


def DFew (d : DvD) : Prop := d.tk.length ≤ 500 ∧ d.ky.length ≤ 100 ∧ d.sm.length ≤ 200
set_option maxRecDepth 100000 in
theorem dvfew_any (vt vk vs : Value) (d : DvD) (w : World) (h : Dv w vt vk vs d) :
    Calls Tryz.prog 6 #[.agg #[vt, vk, vs]] w fun e w' => e = .returned (.bool (pB (DFew d))) ∧ Below w.heap.size w w' := by
  obtain ⟨ta, tc, rfl⟩ := h.tk.shape
  obtain ⟨ka, kc, rfl⟩ := h.ky.shape
  obtain ⟨sa, sc, rfl⟩ := h.sm.shape
  obtain ⟨R, hR⟩ : ∃ R, pB (DFew d) = R := ⟨_, rfl⟩
  rw [hR]
  have HRR := Lib.hid hR
  have HD : Hid (DFew d ↔ d.tk.length ≤ 500 ∧ d.ky.length ≤ 100 ∧ d.sm.length ≤ 200) := Iff.rfl
  obtain ⟨tn, htn⟩ : ∃ n, d.tk.length = n := ⟨_, rfl⟩
  obtain ⟨kn, hkn⟩ : ∃ n, d.ky.length = n := ⟨_, rfl⟩
  obtain ⟨sn, hsn⟩ : ∃ n, d.sm.length = n := ⟨_, rfl⟩
  rw [htn, hkn, hsn] at HD ⊢
  have HB0 := Lib.hid (((Below.refl w.heap.size w).alloc (Nat.le_refl _) (.cells #[.slice ta tn tc, .slice ka kn kc, .slice sa sn sc] 28)))
  clear h hR htn hkn hsn
  go_enter Tryz.func6, Tryz.ntmps6
  by_cases h1 : tn ≤ 500
  · have e1 : (tn : Int) ≤ 500 := by omega
    by_cases h2 : kn ≤ 100
    · have e2 : (kn : Int) ≤ 100 := by omega
      by_cases h3 : sn ≤ 200
      · have e3 : (sn : Int) ≤ 200 := by omega
        have HF : Hid (R = true) := by show _ = _; rw [← HRR.out]; exact pB_yes (HD.out.2 ⟨h1, h2, h3⟩)
        clear h1 h2 h3
        go_wp2
        go_ret
        exact ⟨by rw [HF.out]; rfl, HB0.out⟩
      · have e3 : ¬ (sn : Int) ≤ 200 := by omega
        have HF : Hid (R = false) := by show _ = _; rw [← HRR.out]; exact pB_no fun h => h3 (HD.out.1 h).2.2
        clear h1 h2 h3
        go_wp2
        go_ret
        exact ⟨by rw [HF.out]; rfl, HB0.out⟩
    · have e2 : ¬ (kn : Int) ≤ 100 := by omega
      have HF : Hid (R = false) := by show _ = _; rw [← HRR.out]; exact pB_no fun h => h2 (HD.out.1 h).2.1
      clear h1 h2
      go_wp2
      go_ret
      exact ⟨by rw [HF.out]; rfl, HB0.out⟩
  · have e1 : ¬ (tn : Int) ≤ 500 := by omega
    have HF : Hid (R = false) := by show _ = _; rw [← HRR.out]; exact pB_no fun h => h1 (HD.out.1 h).1
    clear h1
    go_wp2
    go_ret
    exact ⟨by rw [HF.out]; rfl, HB0.out⟩

set_option maxRecDepth 100000 in
theorem dvsame_yes (vt vk vs ut uk us : Value) (d : DvD) (w : World) (h : Dv w vt vk vs d) (k : Dv w ut uk us d) :
    Calls Tryz.prog 9 #[.agg #[vt, vk, vs], .agg #[ut, uk, us]] w fun e w' => e = .returned (.bool true) ∧ Below w.heap.size w w' := by
  obtain ⟨W, hW⟩ : ∃ W, (w.alloc (.cells #[vt, vk, vs] 28)).alloc (.cells #[ut, uk, us] 28) = W := ⟨_, rfl⟩
  obtain ⟨q, hq⟩ : ∃ q, w.heap.size = q := ⟨_, rfl⟩
  have hb1 : Below w.heap.size w (w.alloc (.cells #[vt, vk, vs] 28)) := (Below.refl _ _).alloc (Nat.le_refl _) _
  have hb2 : Below (w.alloc (.cells #[vt, vk, vs] 28)).heap.size (w.alloc (.cells #[vt, vk, vs] 28)) W := by rw [← hW]; exact (Below.refl _ _).alloc (Nat.le_refl _) _
  have hb0 : Below w.heap.size w W := hb1.trans (hb2.mono hb1.size)
  have hr1 : W.heap[q]? = some (.cells #[vt, vk, vs] 28 (0, 0)) := (hb2.block q (by simp [hq])).trans (by rw [← hq]; exact heap_alloc_new _ _)
  have hr2 : W.heap[q + 1]? = some (.cells #[ut, uk, us] 28 (0, 0)) := by
    rw [← hW]
    have := heap_alloc_new (w.alloc (.cells #[vt, vk, vs] 28)) (.cells #[ut, uk, us] 28)
    rwa [show (w.alloc (.cells #[vt, vk, vs] 28)).heap.size = q + 1 by simp [hq]] at this
  have HQ1 := Lib.hid (fun (V : World) (hV : Below W.heap.size W V) => three_at ((hV.block q (heap_lt hr1)).trans hr1))
  have HQ2 := Lib.hid (fun (V : World) (hV : Below W.heap.size W V) => three_at ((hV.block (q + 1) (heap_lt hr2)).trans hr2))
  have HB0 := Lib.hid hb0
  have C1 := Lib.hid (same_any vt ut d.tk d.tk W (h.tk.below hb0) (k.tk.below hb0))
  have C2 := Lib.hid (fun V (hV : Below w.heap.size w V) => same_any vk uk d.ky d.ky V (h.ky.below hV) (k.ky.below hV))
  have C3 := Lib.hid (fun V (hV : Below w.heap.size w V) => ssame_any vs us d.sm V (h.sm.below hV) (k.sm.below hV))
  rw [show (d.tk == d.tk) = true by simp] at C1
  rw [show (d.ky == d.ky) = true by simp] at C2
  obtain ⟨ta, tc, rfl⟩ := h.tk.shape
  obtain ⟨ka, kc, rfl⟩ := h.ky.shape
  obtain ⟨sa, sc, rfl⟩ := h.sm.shape
  obtain ⟨ta', tc', rfl⟩ := k.tk.shape
  obtain ⟨ka', kc', rfl⟩ := k.ky.shape
  obtain ⟨sa', sc', rfl⟩ := k.sm.shape
  obtain ⟨tn, htn⟩ : ∃ n, d.tk.length = n := ⟨_, rfl⟩
  obtain ⟨kn, hkn⟩ : ∃ n, d.ky.length = n := ⟨_, rfl⟩
  obtain ⟨sn, hsn⟩ : ∃ n, d.sm.length = n := ⟨_, rfl⟩
  rw [htn] at C1
  rw [hkn] at C2
  rw [hsn] at C3
  rw [htn, hkn, hsn] at hW HQ1 HQ2 ⊢
  obtain ⟨x0, x1, x2⟩ := HQ1.out W (Below.refl _ _)
  obtain ⟨y0, y1, y2⟩ := HQ2.out W (Below.refl _ _)
  clear h k hb0 hb1 hb2 hr1 hr2 htn hkn hsn
  go_enter Tryz.func9, Tryz.ntmps9
  go_wp2_with fail
  refine C1.out.mono ?_
  rintro e w1 ⟨rfl, hb1⟩
  have HBA := Lib.hid hb1
  have HB1 := Lib.hid (HB0.out.trans (hb1.mono HB0.out.size))
  clear hb1 x0 x1 x2 y0 y1 y2
  obtain ⟨x0, x1, x2⟩ := HQ1.out w1 HBA.out
  obtain ⟨y0, y1, y2⟩ := HQ2.out w1 HBA.out
  go_wp2_with fail
  refine (C2.out w1 HB1.out).mono ?_
  rintro e w2 ⟨rfl, hb2⟩
  have HBB := Lib.hid (HBA.out.trans (hb2.mono HBA.out.size))
  have HB2 := Lib.hid (HB1.out.trans (hb2.mono HB1.out.size))
  clear hb2 x0 x1 x2 y0 y1 y2
  obtain ⟨x0, x1, x2⟩ := HQ1.out w2 HBB.out
  obtain ⟨y0, y1, y2⟩ := HQ2.out w2 HBB.out
  go_wp2_with fail
  refine (C3.out w2 HB2.out).mono ?_
  rintro e w3 ⟨rfl, hb3⟩
  have HB3 := Lib.hid (HB2.out.trans (hb3.mono HB2.out.size))
  clear hb3
  go_wp2
  go_ret
  exact ⟨rfl, HB3.out⟩

set_option maxRecDepth 100000 in
theorem dvwith_any (ta ka sa ya : Option Addr) (tn tc kn kc sn sc yn yc : Nat) (w : World) :
    Calls Tryz.prog 40 #[.agg #[.slice ta tn tc, .slice ka kn kc, .slice sa sn sc], .slice ya yn yc] w fun e w' => e = .returned (.agg #[.slice ta tn tc, .slice ka kn kc, .slice ya yn yc]) ∧ Below w.heap.size w w' := by
  go_enter Tryz.func40, Tryz.ntmps40
  go_wp2
  obtain ⟨V, hV⟩ : ∃ V, w.alloc (.cells #[.slice ta tn tc, .slice ka kn kc, .slice ya yn yc] 83) = V := ⟨_, rfl⟩
  have hs : V.heap.size = w.heap.size + 1 := by rw [← hV]; simp
  have hb : Below w.heap.size w V := by rw [← hV]; exact (Below.refl _ _).alloc (Nat.le_refl _) _
  rw [hV, ← hs]
  obtain ⟨c0, c1, c2⟩ := three_at (heap_alloc_new V (.cells #[.slice ta tn tc, .slice ka kn kc, .slice ya yn yc] 28))
  refine bodyPost_ret (v := .agg #[.slice ta tn tc, .slice ka kn kc, .slice ya yn yc]) ?_ rfl ⟨rfl, hb.alloc hb.size _⟩
  simp [results, Tryz.results40, go_sem, c0, c1, c2]
end Go.Proofs.YtjnbdeopoohnmaaGreatDoor
