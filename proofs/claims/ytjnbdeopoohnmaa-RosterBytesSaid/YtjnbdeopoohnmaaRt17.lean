/- Layer 56 (roster): DeleteFunc of the spells that begin at a time. -/
import Derived.Test.YtjnbdeopoohnmaaRt16
import Derived.Lib.SliceRun
import Derived.Deep.DeepCutAuto
import Derived.Deep.CutBlock
import Derived.Lib.QuietBelow
set_option linter.unusedSimpArgs false
namespace Go.Proofs.Ytjnbdeopoohnmaa
open Go.RowKit Go.Sort

theorem rtS11_any (x : SpT) (z : Int) (g : Nat) (w : World) (hc : w.cell? ⟨g, 0, none⟩ = some (.int .i64 z)) : Calls Try.prog 51 #[.agg #[.int .i64 x.1, .int .i64 x.2], .pointer (some ⟨g, 0, none⟩)] w fun e w' => e = .returned (.bool (decide (x.1 = z))) ∧ Below w.heap.size w w' := by
  obtain ⟨t, u⟩ := x
  simp only
  have HB := Lib.hid ((Below.refl w.heap.size w).alloc (Nat.le_refl _) (.cells #[.int .i64 t, .int .i64 u] 49))
  have hlt : g < w.heap.size := by have := World.block_lt_of_cell? w _ hc; simpa using this
  have hc2 : (w.alloc (.cells #[.int .i64 t, .int .i64 u] 49)).cell? ⟨g, 0, none⟩ = some (.int .i64 z) := by rw [HB.out.cell hlt]; exact hc
  clear hlt
  go_enter Try.func51, Try.ntmps51
  go_wp2
  go_ret
  exact ⟨rfl, HB.out⟩

/-- none of the first ones is over -/
def vne (l : List SpT) (z : Int) (k : Nat) : Prop := ∀ (j : Nat) (y : SpT), j < k → l[j]? = some y → ¬ y.1 = z
def SIdxIs (l : List SpT) (z : Int) (e : Ending) : Prop :=
  (∃ (k : Nat) (x : SpT), l[k]? = some x ∧ x.1 = z ∧ vne l z k ∧ e = .returned (.int .i64 (k : Int))) ∨ (vne l z l.length ∧ e = .returned (.int .i64 (-1)))

set_option maxRecDepth 100000 in
theorem sIdx_any (v : Value) (l : List SpT) (z : Int) (g : Nat) (w : World) (h : Gs 2 csS w v l) (hc : w.cell? ⟨g, 0, none⟩ = some (.int .i64 z)) :
    Calls Try.prog 83 #[v, .func (Fn.func 51) #[] #[.pointer (some ⟨g, 0, none⟩)]] w fun e w' => SIdxIs l z e ∧ Below w.heap.size w w' := by
  obtain ⟨n, hn⟩ : ∃ n, l.length = n := ⟨_, rfl⟩
  obtain ⟨a, c, b, o, rfl, h1, h2, hix, hlt', hcell, -⟩ := h.open_n layS elS n hn
  have HC := Lib.hid hcell
  have HN := Lib.hid hn
  have HLT := Lib.hid hlt'
  have hlt : g < w.heap.size := by have := World.block_lt_of_cell? w _ hc; simpa using this
  have HCZ := Lib.hid (fun (V : World) (hV : Below w.heap.size w V) => (hV.cell hlt).trans hc)
  clear h hn hcell hlt' hc hlt
  go_enter Try.func83, Try.ntmps83
  go_wp2_with fail
  go_loopw [8, 5] (fun vi v5 wr => ∃ k : Nat, k ≤ n ∧ vi = .int .i64 k ∧ Hid (vne l z k) ∧ Hid (Below w.heap.size w wr)) (fun vi _ _ => n - (intOf vi).toNat)
  case atStart => exact ⟨0, by omega, rfl, fun j y hj => absurd hj (by omega), Below.refl _ _⟩
  case round =>
    obtain ⟨k, hk, rfl, HP, HB⟩ := hrel
    by_cases hlt : k < n
    · have e1 : (k : Int) < n := by omega
      obtain ⟨x, hs⟩ : ∃ s, l[k]? = some s := ⟨_, List.getElem?_eq_getElem (by have := HN.out; omega)⟩
      have c0 := HC.out k x hs 0 _ rfl
      have c1 := HC.out k x hs 1 _ rfl
      rw [Nat.add_zero] at c0
      have hbl := HLT.out k hlt
      rw [← HB.out.cell (by exact hbl)] at c0 c1
      have hixk := fun W => hix W k hlt
      have CG := Lib.hid (rtS11_any x z g wr (HCZ.out wr HB.out))
      obtain ⟨xt, xu⟩ := x
      simp only at c0 c1 CG
      obtain ⟨lo, hlo⟩ : ∃ d, decide (xt = z) = d := ⟨_, rfl⟩
      rw [hlo] at CG
      have HLO := Lib.hid hlo
      have HS := Lib.hid hs
      have HLTK := Lib.hid hlt
      clear hs hbl hlo
      go_wp2_with fail
      refine CG.out.mono ?_
      rintro e w2 ⟨rfl, hb2⟩
      have HB2 := Lib.hid (HB.out.trans (hb2.mono HB.out.size))
      clear hb2 c0 c1
      cases lo with
      | false =>
        have hf : Hid (vne l z (k + 1)) := fun j y hj hy => by
          by_cases hjk : j < k
          · exact HP.out j y hjk hy
          · obtain rfl : j = k := by omega
            rw [HS.out] at hy
            cases hy
            exact of_decide_eq_false HLO.out
        go_wp2
        go_roundw
        case rel => exact ⟨k + 1, by have := HLTK.out; omega, by go_num, hf, HB2⟩
        case measure => simp [intOf]; have := HLTK.out; omega
      | true =>
        go_wp2
        go_ret
        exact ⟨.inl ⟨k, _, HS.out, of_decide_eq_true HLO.out, HP.out, rfl⟩, HB2.out⟩
    · obtain rfl : k = n := by omega
      have e1 : ¬ (k : Int) < k := by omega
      go_wp2
      go_ret
      exact ⟨.inr ⟨by rw [HN.out]; exact HP.out, rfl⟩, HB.out⟩

def vnot (l : List SpT) (z : Int) : List SpT := l.filter fun x => decide (¬ x.1 = z)
theorem vnot_all {l : List SpT} {z : Int} (h : vne l z l.length) : vnot l z = l := by
  unfold vnot
  rw [List.filter_eq_self]
  intro x hx
  obtain ⟨j, hj⟩ := List.getElem?_of_mem hx
  exact decide_eq_true (h j x (List.getElem?_eq_some_iff.1 hj).1 hj)
theorem vnot_hi {l : List SpT} {z : Int} {k : Nat} (h : vne l z k) : vnot (l.take k) z = l.take k := by
  refine vnot_all fun j y hj hy => ?_
  rw [List.getElem?_take] at hy
  by_cases hk : j < k
  · rw [if_pos hk] at hy; exact h j y hk hy
  · rw [if_neg hk] at hy; cases hy
theorem vnot_next {l : List SpT} {z : Int} {k : Nat} {x : SpT} (h : l[k]? = some x) : vnot (l.take (k + 1)) z = vnot (l.take k) z ++ (if x.1 = z then [] else [x]) := by
  unfold vnot
  rw [List.take_add_one, h, List.filter_append]
  by_cases hx : x.1 = z
  · simp [hx]
  · simp [hx]

theorem own_ixS (G n cap t : Nat) (ht : t < n) (W : World) : (Instr.indexAt 41 (.slice (some ⟨G, 0, none⟩) n cap) (.int .i64 (t : Int))).run Try.prog W = .ok (.pointer (some ⟨G, t * 2, none⟩)) W := by
  have hT := elS.1
  have hu : Try.prog.elem 41 = 49 := by simp [Program.elem, hT]
  rw [run_indexAt_slice W 41 _ n cap .i64 t (by rw [hu]; exact hT), if_pos ⟨by omega, by omega⟩, hu, elS.sizeOf]
  simp [Result.andThen, Addr.add_lit]

def SDel (m M : List SpT) (z : Int) (i j : Nat) : Prop := M.length = m.length ∧ i < j ∧ j ≤ m.length ∧ M.take i = vnot (m.take j) z ∧ ∀ t, j ≤ t → M[t]? = m[t]?
theorem SDel.drop {m M : List SpT} {z : Int} {i j : Nat} {x : SpT} (h : SDel m M z i j) (hx : m[j]? = some x) (hz : x.1 = z) : SDel m M z i (j + 1) := by
  obtain ⟨h1, h2, h3, h4, h5⟩ := h
  have hj := (List.getElem?_eq_some_iff.1 hx).1
  refine ⟨h1, by omega, by omega, ?_, fun t ht => h5 t (by omega)⟩
  rw [vnot_next hx, if_pos hz, List.append_nil, h4]
theorem SDel.keep {m M : List SpT} {z : Int} {i j : Nat} {x : SpT} (h : SDel m M z i j) (hx : m[j]? = some x) (hz : ¬ x.1 = z) : SDel m (M.set i x) z (i + 1) (j + 1) := by
  obtain ⟨h1, h2, h3, h4, h5⟩ := h
  have hj := (List.getElem?_eq_some_iff.1 hx).1
  refine ⟨by simpa using h1, by omega, by omega, ?_, fun t ht => ?_⟩
  · rw [vnot_next hx, if_neg hz, ← h4, List.take_add_one, List.getElem?_set_self (by omega), List.take_set_of_le (by omega)]
    rfl
  · rw [List.getElem?_set_ne (by omega)]
    exact h5 t (by omega)

set_option maxRecDepth 100000 in
set_option maxHeartbeats 1600000 in
theorem sDel_any (v : Value) (m : List SpT) (z : Int) (g B : Nat) (w : World) (h : Gw 2 csS w B 49 v m) (hm : m.length ≤ 100000) (hc : w.cell? ⟨g, 0, none⟩ = some (.int .i64 z)) (hg : g < B) (hB : B ≤ w.heap.size) :
    Calls Try.prog 50 #[v, .func (Fn.func 51) #[] #[.pointer (some ⟨g, 0, none⟩)]] w fun e w' => ∃ v', e = .returned v' ∧ Gw 2 csS w' B 49 v' (vnot m z) ∧ Below B w w' := by
  have C1 := Lib.hid (sIdx_any v m z g w h.gs hc)
  obtain ⟨n, hn⟩ : ∃ n, m.length = n := ⟨_, rfl⟩
  have HN := Lib.hid hn
  rw [hn] at hm
  have HM := Lib.hid hm
  have HG := Lib.hid h
  have HCZ := Lib.hid (fun (V : World) (hV : Below B w V) => (hV.cell (by exact hg)).trans hc)
  have HBB := Lib.hid hB
  obtain ⟨i0, hi0, hz0, hs0, hb0⟩ := elS.2.1
  have HZV : Hid (∀ w : World, (zeroValue 49).run Try.prog w = .ok (.agg #[.int .i64 0, .int .i64 0]) w) := fun w => by simp [zeroValue, typeInfo, hi0, hz0]
  obtain ⟨ya, yc, hys⟩ := h.gs.shape
  subst hys
  rw [hn] at C1 HG ⊢
  clear h hn hm hc hg hB hi0 hz0 hs0 hb0
  go_enter Try.func50, Try.ntmps50
  go_wp2_with fail
  refine C1.out.mono ?_
  rintro e w2 ⟨hidx, hb2⟩
  have hb2B : Below B w w2 := hb2.mono HBB.out
  have HB2 := Lib.hid hb2B
  have HG2 := Lib.hid (HG.out.below hb2)
  rcases hidx with ⟨k, x, hk, hxz, hhi, rfl⟩ | ⟨hhi, rfl⟩
  · have hkn : k < n := by have := (List.getElem?_eq_some_iff.1 hk).1; have := HN.out; omega
    obtain ⟨G, cap, hsl, hBG, hrow⟩ := HG2.out.row (by intro h; rw [h] at hk; simp at hk)
    have h0 : SDel m m z k (k + 1) := ⟨rfl, by omega, by have := HN.out; omega, by rw [vnot_next hk, if_pos hxz, List.append_nil]; exact (vnot_hi hhi).symm, fun t _ => rfl⟩
    have HST := Lib.hid h0
    rw [HN.out] at hsl
    simp only [Value.slice.injEq] at hsl
    obtain ⟨rfl, -, rfl⟩ := hsl
    have HROW := Lib.hid hrow
    have HBG := Lib.hid hBG
    have hcap : n ≤ yc := by have := hrow.le; have := HN.out; omega
    have hcap2 : yc ≤ 9223372036854775807 := by have := hrow.mx; simpa [maxLen] using this
    have ek : ((k : Int) == -1) = false := by simp
    have hk100 : k ≤ 100000 := by have := HM.out; omega
    have HKN := Lib.hid hkn
    clear hb2 hb2B hk hxz hhi h0 hrow hBG hkn
    go_wp2_with fail
    go_loopw [6, 5] (fun vj vi wr => ∃ (i j : Nat) (M : List SpT), j ≤ n ∧ i < j ∧ vj = .int .i64 j ∧ vi = .int .i64 i ∧ Hid (SDel m M z i j) ∧ Hid (Row 2 csS wr 49 G yc M) ∧ Hid (Below B w wr)) (fun vj _ _ => n - (intOf vj).toNat)
    case atStart =>
      refine ⟨k, k + 1, m, HKN.out, ?_, ?_, rfl, HST, HROW, HB2⟩
      · simp
      · simp
    case round =>
      obtain ⟨i, j, M, hj, hij, rfl, rfl, HD, HR, HB⟩ := hrel
      have hn1000 : n ≤ 100000 := HM.out
      by_cases hlt : j < n
      · have e1 : (j : Int) < n := by omega
        obtain ⟨x, hs⟩ : ∃ s, m[j]? = some s := ⟨_, List.getElem?_eq_getElem (by have := HN.out; omega)⟩
        have hsM : M[j]? = some x := (HD.out.2.2.2.2 j (Nat.le_refl _)).trans hs
        have hMn : M.length = n := HD.out.1.trans HN.out
        obtain ⟨y, hy⟩ : ∃ s, M[i]? = some s := ⟨_, List.getElem?_eq_getElem (by omega)⟩
        have c0 := HR.out.cell layS hsM (j := 0) rfl
        have c1 := HR.out.cell layS hsM (j := 1) rfl
        rw [Nat.add_zero] at c0
        have hixj := own_ixS G n yc j hlt
        have hixi := own_ixS G n yc i (by omega)
        obtain ⟨W7, hW7⟩ : ∃ V, wr.alloc (.cells #[.int .i64 x.1, .int .i64 x.2] 49) = V := ⟨_, rfl⟩
        obtain ⟨g7, hg7⟩ : ∃ g, wr.heap.size = g := ⟨_, rfl⟩
        have hr7 : W7.heap[g7]? = some (.cells #[.int .i64 x.1, .int .i64 x.2] 49 (0, 0)) := by rw [← hW7, ← hg7]; exact heap_alloc_new _ _
        have hb7 : Below wr.heap.size wr W7 := by rw [← hW7]; exact (Below.refl _ _).alloc (Nat.le_refl _) _
        have hBw7 : Below B w W7 := HB.out.trans (hb7.mono (Nat.le_trans HBB.out HB.out.size))
        have CG := Lib.hid (rtS11_any x z g W7 (HCZ.out W7 hBw7))
        have HR7 := Lib.hid (HR.out.below hb7)
        have HN7 := Lib.hid hr7
        have HBw7 := Lib.hid hBw7
        have HY := Lib.hid hy
        have HS := Lib.hid hs
        have HLTK := Lib.hid hlt
        have HMN := Lib.hid hMn
        obtain ⟨u0, u1⟩ := spell_cells hr7
        obtain ⟨lo, hlo⟩ : ∃ d, decide (x.1 = z) = d := ⟨_, rfl⟩
        rw [hlo] at CG
        have HLO := Lib.hid hlo
        have HKEEP := Lib.hid (fun hz => HD.out.keep (z := z) hs hz)
        have HDROP := Lib.hid (fun hz => HD.out.drop (z := z) hs hz)
        obtain ⟨xt, xu⟩ := x
        simp only at c0 c1 CG u0 u1 hW7
        have HW7 := Lib.hid hW7
        have HG7 := Lib.hid hg7
        clear hs hsM hy hr7 hb7 hBw7 hlo hW7 hg7 hMn hlt
        go_upto_region 8 with fail
        rw [HW7.out, HG7.out]
        clear c0 c1
        go_wp2_with fail
        refine CG.out.mono ?_
        rintro e w8 ⟨rfl, hb8⟩
        have hR8 := HR7.out.below hb8
        have hB8 : Below B w w8 := HBw7.out.trans (hb8.mono (Nat.le_trans HBB.out HBw7.out.size))
        have HB8 := Lib.hid hB8
        have HR8 := Lib.hid hR8
        cases lo with
        | true =>
          have hf : Hid (SDel m M z i (j + 1)) := HDROP.out (of_decide_eq_true HLO.out)
          clear hb8 hR8 hB8 u0 u1
          go_wp2
          go_roundw
          case rel => exact ⟨i, j + 1, M, by have := HLTK.out; omega, by omega, by go_num, rfl, hf, HR8, HB8⟩
          case measure => simp [intOf]; have := HLTK.out; omega
        | false =>
          have hf : Hid (SDel m _ z (i + 1) (j + 1)) := HKEEP.out (by have := of_decide_eq_false HLO.out; omega)
          have d0 := hR8.cell layS HY.out (j := 0) rfl
          have d1 := hR8.cell layS HY.out (j := 1) rfl
          rw [Nat.add_zero] at d0
          have f0 := hR8.free (i * 2)
          have f1 := hR8.free (i * 2 + 1)
          obtain ⟨u0, u1⟩ := spell_cells ((hb8.block g7 (heap_lt HN7.out)).trans HN7.out)
          obtain ⟨k1, k2⟩ := hR8.set layS i (by have := HMN.out; have := HLTK.out; omega) (xt, xu)
          have hB9 : Below B w (w8.setCells G (i * 2) (csS (xt, xu))) := hB8.trans (k2.below (fun t ht => by have := HBG.out; omega) (Nat.le_trans HBB.out hB8.size))
          have HB9 := Lib.hid hB9
          have HK1 := Lib.hid k1
          clear hb8 hR8 hB8 k1 k2 hB9
          go_wp2
          go_roundw
          case rel => exact ⟨i + 1, j + 1, _, by have := HLTK.out; omega, by omega, by go_num, by go_num, hf, HK1, HB9⟩
          case measure => simp [intOf]; have := HLTK.out; omega
      · obtain rfl : j = n := by omega
        have e1 : ¬ (j : Int) < j := by omega
        have hMn : M.length = j := HD.out.1.trans HN.out
        have hT := elS.1
        have hel : Try.prog.elem 41 = 49 := by simp [Program.elem, hT]
        have hsz := elS.sizeOf
        have R1 : ∀ W : World, (Instr.sliceAt 41 (.slice (some ⟨G, 0, none⟩) j yc) none (some (.int .i64 (i : Int))) none).run Try.prog W = .ok (.slice (some ⟨G, 0, none⟩) i yc) W := fun W => by
          rw [run_sliceAt_slice (h := by rw [hel]; exact hT), run_slice_h (ht := by rw [hel]; exact hT) (h0 := by omega) (h2 := by omega), hel, hsz]
          simp [Result.andThen, sliced, Addr.add_zero']
        have R2 : ∀ W : World, (Instr.sliceAt 41 (.slice (some ⟨G, 0, none⟩) j yc) (some (.int .i64 (i : Int))) none none).run Try.prog W = .ok (.slice (some ⟨G, i * 2, none⟩) (j - i) (yc - i)) W := fun W => by
          rw [run_sliceAt_slice (h := by rw [hel]; exact hT), run_slice_l (ht := by rw [hel]; exact hT) (h0 := by omega) (h1 := by omega), hel, hsz]
          rw [show ((i : Int)).toNat = i by omega]
          simp only [Result.andThen, sliced]
          rw [if_neg (by omega)]
          simp [Addr.add_lit]
        have hle : j * 2 ≤ yc * 2 := Nat.mul_le_mul_right _ hcap
        have hclr := run_clear_n (P := Try.prog) wr 41 49 0 (.agg #[.int .i64 0, .int .i64 0]) Try.underlying41 HZV.out (by simp [Value.cells, Value.oneCell']) (by simp [Value.cells]) G (i * 2) (j - i) (yc - i)
          (fun t ht => HR.out.some _ (by simp [Value.cells] at ht; omega)) (fun t _ => HR.out.free _)
        obtain ⟨k1, k2⟩ := HR.out.cut layS i (by omega) (Builtin.zeroCells (Value.agg #[.int .i64 0, .int .i64 0]).cells (j - i)).toList
        obtain ⟨W2, hW2⟩ : ∃ W2, wr.setCells G (i * 2) (Builtin.zeroCells (Value.agg #[.int .i64 0, .int .i64 0]).cells (j - i)).toList = W2 := ⟨_, rfl⟩
        rw [hW2] at hclr k1 k2
        have hfin : Gw 2 csS W2 B 49 (.slice (some ⟨G, 0, none⟩) i yc) (vnot m z) := by
          have h4 := HD.out.2.2.2.1
          rw [List.take_of_length_le (l := m) (i := j) (by rw [HN.out]; exact Nat.le_refl _)] at h4
          rw [← h4]
          have := k1.gw layS (B := B) HBG.out
          rwa [show (M.take i).length = i by simp; omega] at this
        have HFIN := Lib.hid hfin
        have HBF := Lib.hid (HB.out.trans (k2.below (fun t ht => by have := HBG.out; omega) (Nat.le_trans HBB.out HB.out.size)))
        clear hT hel hsz hle k1 k2 hW2 hfin hMn
        go_wp2
        go_ret
        exact ⟨_, rfl, HFIN.out, HBF.out⟩
  · have hf : Hid (Gw 2 csS w2 B 49 (.slice ya n yc) (vnot m z)) := by rw [vnot_all hhi]; exact HG2.out
    clear hb2 hb2B hhi
    go_wp2
    go_ret
    exact ⟨_, rfl, hf.out, HB2.out⟩

end Go.Proofs.Ytjnbdeopoohnmaa
