/- Layer 12 (revoke): Add. -/
import Derived.Test.YtjnbdeopoohnmaaRv9
import Derived.StillTailTactics
import Derived.Deep.RegionLaw
import Derived.Deep.DeepCutAuto
import Derived.Deep.CutBlock
import Derived.Lib.QuietBelow
set_option linter.unusedSimpArgs false
namespace Go.Proofs.Ytjnbdeopoohnmaa
open Go.RowKit Go.Sort

/-- the second cell of an element set anew -/
theorem Row.poke {w : World} {e G cap i : Nat} {l : List RT} {t u : Int} (h : Row 2 csR w e G cap l) (hi : l[i]? = Option.some (t, u)) (m : Int) :
    Row 2 csR (w.setCell ⟨G, i * 2 + 1, none⟩ (.int .i64 m)) e G cap (l.set i (t, m)) ∧ Only (fun k => k = G) w (w.setCell ⟨G, i * 2 + 1, none⟩ (.int .i64 m)) := by
  have hil : i < l.length := (List.getElem?_eq_some_iff.1 hi).1
  obtain ⟨cur, g1, g2, g3⟩ := h.row
  have hle := Nat.mul_le_mul_right 2 h.le
  obtain ⟨c1, k1, k2, k3, k4⟩ := setCells_row G e (csR (t, m)) w cur (i * 2) g1
  obtain ⟨r1, -⟩ := h.set layR i hil (t, m)
  obtain ⟨d, e1, e2, e3⟩ := r1.row
  rw [k1] at e1
  simp only [Option.some.injEq, Obj.cells.injEq, and_true] at e1
  subst e1
  obtain ⟨c2, m1, m2, m3, m4⟩ := setCells_row G e [.int .i64 m] w cur (i * 2 + 1) g1
  refine ⟨⟨by simpa using h.le, h.mx, c2, m1, m3.trans g2, ?_⟩, m2⟩
  rw [← e3]
  apply List.ext_getElem?
  intro q
  rw [List.getElem?_take, List.getElem?_take]
  by_cases hq : q < (l.set i (t, m)).length * 2
  · have hql : q < l.length * 2 := by simpa using hq
    rw [if_pos hq, if_pos hq, Array.getElem?_toList, Array.getElem?_toList, m4 q (by rw [g2]; omega), k4 q (by rw [g2]; omega)]
    have h2 : (csR (t, m)).length = 2 := rfl
    rw [h2]
    by_cases h5 : q = i * 2 + 1
    · subst h5
      rw [if_pos ⟨by omega, by simp⟩, if_pos ⟨by omega, by omega⟩, show i * 2 + 1 - (i * 2 + 1) = 0 by omega, show i * 2 + 1 - i * 2 = 1 by omega]
      rfl
    · rw [if_neg (by simp; omega)]
      by_cases h6 : q = i * 2
      · subst h6
        rw [if_pos ⟨by omega, by omega⟩, Nat.sub_self]
        have := h.cell layR hi (j := 0) rfl
        rw [cell_of_row w G _ cur e (0, 0) g1, Nat.add_zero] at this
        rw [this]; rfl
      · rw [if_neg (by omega)]
  · rw [if_neg hq, if_neg hq]

theorem rins_at : ∀ {l : List RT} {x : RT} {i : Nat} {k : Int}, rlt k l → RFd l x.1 i → (rok l x.1 i = true → ∃ u, l[i]? = some (x.1, u) ∧ rins l x = l.set i (x.1, max u x.2)) ∧ (rok l x.1 i = false → rins l x = l.take i ++ x :: l.drop i)
  | [], x, i, k, _, h => ⟨fun h => by simp [rok] at h, fun _ => by simp [rins]⟩
  | y :: r, x, i, k, hs, h => by
    cases i with
    | zero =>
      have hy := h.hi 0 y (Nat.le_refl _) rfl
      refine ⟨fun hk => ?_, fun hk => ?_⟩
      · simp [rok] at hk
        refine ⟨y.2, by simp [← hk], ?_⟩
        unfold rins
        rw [if_pos hk]
        simp [hk]
      · simp [rok] at hk
        unfold rins
        rw [if_neg hk, if_pos (by omega)]
        simp
    | succ i =>
      have hy := h.lo 0 y (by omega) rfl
      have hr : RFd r x.1 i := ⟨by have := h.le; simpa using this, fun j z hj hz => h.lo (j + 1) z (by omega) (by simpa using hz), fun j z hj hz => h.hi (j + 1) z (by omega) (by simpa using hz)⟩
      obtain ⟨h1, h2⟩ := rins_at hs.2 hr
      have ho : rok (y :: r) x.1 (i + 1) = rok r x.1 i := by simp [rok]
      have he : rins (y :: r) x = y :: rins r x := by
        show (if y.1 = x.1 then _ else _) = _
        rw [if_neg (by omega), if_neg (by omega)]
      rw [ho, he]
      refine ⟨fun hk => ?_, fun hk => ?_⟩
      · obtain ⟨u, hu, hv⟩ := h1 hk
        exact ⟨u, by simpa using hu, by rw [hv]; rfl⟩
      · rw [h2 hk]; rfl

set_option maxRecDepth 100000 in
theorem rInsert_end (v : Value) (l : List RT) (B vb : Nat) (x : RT) (w : World) (h : Gw 2 csR w B 29 v l) (hB : B ≤ w.heap.size) (hv : Gs 2 csR w (.slice (some ⟨vb, 0, none⟩) 1 1) [x]) (hl : l.length ≤ 100000) :
    Calls Try.prog 45 #[v, .int .i64 (l.length : Int), .slice (some ⟨vb, 0, none⟩) 1 1] w fun e w' => ∃ v', e = .returned v' ∧ Gs 2 csR w' v' (l ++ [x]) ∧ Below B w w' := by
  obtain ⟨a, c, hs⟩ := h.gs.shape
  subst hs
  obtain ⟨Y, hY, -⟩ := Gs.from layR elR h.gs l.length (Nat.le_refl _)
  have hee : ((l.length : Int) == l.length) = true := by simp
  go_enter Try.func45, Try.ntmps45
  go_wp2_with (at_builtin; go_must (refine wpList_append_gs layR h hv elR (by simp; omega) (by simp; omega) hB ?_ _ _ rfl rfl rfl rfl); intro v3 w3 ho3 hg3 hb3 _; have H3 := Lib.hid ho3; have HB3 := Lib.hid hb3; clear ho3 hg3 hb3)
  go_ret
  exact ⟨_, rfl, H3.out.gs, HB3.out⟩

theorem rInsert_any (v : Value) (l : List RT) (i B vb : Nat) (x : RT) (w : World) (h : Gw 2 csR w B 29 v l) (hB : B ≤ w.heap.size) (hv : w.heap[vb]? = some (.cells #[.int .i64 x.1, .int .i64 x.2] 29 (0, 0))) (hne : ∀ t, v.ownBlock = some t → t ≠ vb) (hl : l.length ≤ 100000) (hi : i ≤ l.length) :
    Calls Try.prog 45 #[v, .int .i64 (i : Int), .slice (some ⟨vb, 0, none⟩) 1 1] w fun e w' => ∃ v', e = .returned v' ∧ Gs 2 csR w' v' (l.take i ++ x :: l.drop i) ∧ Below B w w' := by
  have hlit : Gs 2 csR w (.slice (some ⟨vb, 0, none⟩) 1 1) [x] := ((⟨by simp, by decide, _, hv, rfl, by rfl⟩ : Row 2 csR w 29 vb 1 [x]).gw layR (B := 0) (Nat.zero_le _)).gs
  by_cases he : i = l.length
  · subst he
    have := rInsert_end v l B vb x w h hB hlit hl
    rw [List.take_of_length_le (Nat.le_refl _), List.drop_of_length_le (Nat.le_refl _)]
    exact this
  · obtain ⟨G, cap, rfl, hBG, hrow⟩ := h.row (by intro hn; rw [hn] at hi he; simp at hi he; omega)
    by_cases hroom : l.length + 1 ≤ cap
    · refine (rInsert_room G cap i vb l x w hrow (by omega) hroom hv (fun e => hne G rfl e.symm) hl).mono ?_
      rintro e w' ⟨rfl, hr, ho⟩
      refine ⟨_, rfl, ?_, ho.below (fun t ht => by omega) hB⟩
      have := (hr.gw layR hBG).gs
      rwa [show (l.take i ++ x :: l.drop i).length = l.length + 1 by simp; omega] at this
    · refine (rInsert_grow G cap i vb l x w hrow (by omega) (by omega) hv hl).mono ?_
      rintro e w' ⟨c', rfl, hr, hb⟩
      refine ⟨_, rfl, ?_, hb.mono hB⟩
      have := (hr.gw layR (B := 0) (Nat.zero_le _)).gs
      rwa [show (l.take i ++ x :: l.drop i).length = l.length + 1 by simp; omega] at this

def addE (l : List RT) (x : RT) : Int := if rright l = false ∨ rone x = false then 2 else if 4096 < (rins l x).length then 3 else 0
def AddPost (l : List RT) (x : RT) (w : World) (e : Ending) (w' : World) : Prop :=
  (∃ v, e = .returned (.tuple #[v, .int .i64 (addE l x)]) ∧ (addE l x ≠ 0 → v = .slice none 0 0) ∧ (addE l x = 0 → Gs 2 csR w' v (rins l x))) ∧ Below w.heap.size w w'

set_option maxRecDepth 100000 in
set_option maxHeartbeats 1600000 in
theorem rAdd_any (v : Value) (l : List RT) (x : RT) (w : World) (h : Gs 2 csR w v l) : Calls Try.prog 19 #[v, .agg #[.int .i64 x.1, .int .i64 x.2]] w (AddPost l x w) := by
  unfold AddPost
  have HGV := Lib.hid h
  obtain ⟨W, hW⟩ : ∃ V, w.alloc (.cells #[.int .i64 x.1, .int .i64 x.2] 29) = V := ⟨_, rfl⟩
  obtain ⟨q, hq⟩ : ∃ q, w.heap.size = q := ⟨_, rfl⟩
  have hB : Below w.heap.size w W := by rw [← hW]; exact (Below.refl _ _).alloc (Nat.le_refl _) _
  have hr : W.heap[q]? = some (.cells #[.int .i64 x.1, .int .i64 x.2] 29 (0, 0)) := by rw [← hW, ← hq]; exact heap_alloc_new _ _
  have HQX := Lib.hid (fun (V : World) (hV : Below W.heap.size W V) => rev_cells ((hV.block q (heap_lt hr)).trans hr))
  have C1 := Lib.hid (rRight_any v l W (h.below hB))
  have C2 := Lib.hid (fun V => rOne_any x V)
  obtain ⟨E, hE⟩ : ∃ E, addE l x = E := ⟨_, rfl⟩
  have HEV : Hid (E = if rright l = false ∨ rone x = false then 2 else if 4096 < (rins l x).length then 3 else 0) := hE.symm
  rw [hE]
  obtain ⟨rt, hrt⟩ : ∃ r, rright l = r := ⟨_, rfl⟩
  obtain ⟨ro, hro⟩ : ∃ r, rone x = r := ⟨_, rfl⟩
  rw [hrt] at C1
  rw [hro] at C2
  rw [hrt, hro] at HEV
  have HRT := Lib.hid hrt
  obtain ⟨n, hn⟩ : ∃ n, l.length = n := ⟨_, rfl⟩
  have HN := Lib.hid hn
  obtain ⟨av, cv, hsv⟩ := h.shape
  rw [hn] at hsv
  subst hsv
  obtain ⟨s0, s1⟩ := HQX.out W (Below.refl _ _)
  obtain ⟨xt, xu⟩ := x
  simp only at hW HQX C2 s0 s1 ⊢
  have HW := Lib.hid hW
  have HQ := Lib.hid hq
  have HB := Lib.hid hB
  have HRQ := Lib.hid hr
  clear h hW hq hB hr hE hrt hro hn
  go_enter Try.func19, Try.ntmps19
  go_upto_region 1 with fail
  rw [HW.out, HQ.out]
  go_wp2_with fail
  refine C1.out.mono ?_
  rintro e w2 ⟨rfl, hb2⟩
  have HB2 := Lib.hid hb2
  have HB02 := Lib.hid (HB.out.trans (hb2.mono HB.out.size))
  clear s0 s1
  obtain ⟨s0, s1⟩ := HQX.out w2 hb2
  clear hb2
  cases rt with
  | false =>
    have HEE : Hid (E = 2) := by show _ = _; rw [HEV.out]; rfl
    go_wp2
    go_ret2
    exact ⟨⟨_, by rw [HEE.out]; rfl, fun _ => rfl, fun h => absurd h (by rw [HEE.out]; decide)⟩, HB02.out⟩
  | true =>
  go_wp2_with fail
  refine (C2.out w2).mono ?_
  rintro e w3 ⟨rfl, hb3⟩
  have hb03 := HB2.out.trans (hb3.mono HB2.out.size)
  have HB3 := Lib.hid hb03
  have HB03 := Lib.hid (HB.out.trans (hb03.mono HB.out.size))
  clear s0 s1
  obtain ⟨s0, s1⟩ := HQX.out w3 hb03
  clear hb3 hb03
  cases ro with
  | false =>
    have HEE : Hid (E = 2) := by show _ = _; rw [HEV.out]; rfl
    go_wp2
    go_ret2
    exact ⟨⟨_, by rw [HEE.out]; rfl, fun _ => rfl, fun h => absurd h (by rw [HEE.out]; decide)⟩, HB03.out⟩
  | true =>
  have HEV2 : Hid (E = if 4096 < (rins l (xt, xu)).length then 3 else 0) := by show _ = _; rw [HEV.out]; simp
  have hlen : l.length ≤ 4096 := by have := HRT.out; unfold rright at this; simp at this; exact this.1
  have hlt0 := rright_lt HRT.out
  have HLEN := Lib.hid hlen
  have HLT0 := Lib.hid hlt0
  have hn4 : n ≤ 4096 := by rw [← HN.out]; exact hlen
  have C3 := Lib.hid (rFind_any _ l xt 0 w3 (HGV.out.below HB03.out) (by omega) hlt0)
  clear hlen hlt0
  go_wp2_with fail
  refine C3.out.mono ?_
  rintro e w4 ⟨i, rfl, hfd, hb4⟩
  have hb04 := HB3.out.trans (hb4.mono HB3.out.size)
  have HB4 := Lib.hid hb04
  have HB04 := Lib.hid (HB.out.trans (hb04.mono HB.out.size))
  obtain ⟨hr1, hr2⟩ := rins_at (x := (xt, xu)) HLT0.out hfd
  have HR1 := Lib.hid hr1
  have HR2 := Lib.hid hr2
  have HIL := Lib.hid hfd.le
  have C4 := Lib.hid (rClone_any _ l w4 (HGV.out.below HB04.out) (by have := HLEN.out; omega))
  clear hfd hr1 hr2 hb4 hb04 s0 s1
  go_wp2_with fail
  refine C4.out.mono ?_
  rintro e w5 ⟨v5, rfl, hg5, hb5⟩
  have hb05 := HB4.out.trans (hb5.mono HB4.out.size)
  have HB5 := Lib.hid hb05
  have HB05 := Lib.hid (HB.out.trans (hb05.mono HB.out.size))
  have HG5 := Lib.hid hg5
  have HW4 := Lib.hid (show W.heap.size ≤ w4.heap.size from HB4.out.size)
  have HW45 := Lib.hid (show w4.heap.size ≤ w5.heap.size from hb5.size)
  obtain ⟨s0, s1⟩ := HQX.out w5 hb05
  clear hg5 hb5 hb05
  cases hok : rok l xt i with
  | true =>
    obtain ⟨u, hu, hins⟩ := HR1.out hok
    have hin : i < n := by rw [← HN.out]; exact (List.getElem?_eq_some_iff.1 hu).1
    obtain ⟨G, cap, hs5, hBG, hrow⟩ := HG5.out.row (by intro h0; rw [h0] at hu; simp at hu)
    rw [HN.out] at hs5
    subst hs5
    have hlens : (rins l (xt, xu)).length ≤ 4096 := by rw [hins, List.length_set]; exact HLEN.out
    have HEE : Hid (E = 0) := by show _ = _; rw [HEV2.out, if_neg (by omega)]
    have c1 := hrow.cell layR hu (j := 1) rfl
    have f1 := hrow.free (i * 2 + 1)
    have hixi := own_ix G n cap i hin
    obtain ⟨mx, hmx⟩ : ∃ z, (if u < xu then xu else u) = z := ⟨_, rfl⟩
    have HMX : Hid (mx = max u xu) := by show _ = _; rw [← hmx]; split <;> omega
    obtain ⟨k1, k2⟩ := (show Row 2 csR w5.drew 29 G cap l from ⟨hrow.le, hrow.mx, hrow.row⟩).poke hu mx
    have hfin : Gs 2 csR (w5.drew.setCell ⟨G, i * 2 + 1, none⟩ (.int .i64 mx)) (.slice (some ⟨G, 0, none⟩) n cap) (rins l (xt, xu)) := by
      rw [hins, ← HMX.out]
      have := (k1.gw layR (B := 0) (Nat.zero_le _)).gs
      rwa [List.length_set, HN.out] at this
    have hbf : Below w.heap.size w (w5.drew.setCell ⟨G, i * 2 + 1, none⟩ (.int .i64 mx)) := HB05.out.drew.trans (k2.below (fun t ht => by have := HW4.out; have := HB.out.size; omega) (by have := HB05.out.size; exact this))
    have HFIN := Lib.hid hfin
    have HBF := Lib.hid hbf
    clear hu hins hrow hlens k1 k2 hfin hbf hok s0
    go_upto_region 7 with fail
    go_still_tail 12, (by kernel_rfl)
    change wpList _ _ _ _ _ w5.drew
    go_wp2
    go_ret2
    exact ⟨⟨_, by rw [HEE.out]; rfl, fun h => absurd HEE.out h, fun _ => HFIN.out⟩, HBF.out⟩
  | false =>
    have hins := HR2.out hok
    have hil : (rins l (xt, xu)).length = n + 1 := by rw [hins]; have := HIL.out; have := HN.out; simp; omega
    obtain ⟨a5, c5, hs5⟩ := HG5.out.gs.shape
    rw [HN.out] at hs5
    subst hs5
    by_cases hfull : n = 4096
    · have e5 : ((n : Int) == 4096) = true := by simp; omega
      have HEE : Hid (E = 3) := by show _ = _; rw [HEV2.out, hil, if_pos (by omega)]
      clear hins hil hok hfull
      go_wp2
      go_ret2
      exact ⟨⟨_, by rw [HEE.out]; rfl, fun _ => rfl, fun h => absurd h (by rw [HEE.out]; decide)⟩, HB05.out⟩
    · have e5 : ((n : Int) == 4096) = false := by simp; omega
      have HEE : Hid (E = 0) := by show _ = _; rw [HEV2.out, hil, if_neg (by omega)]
      have hal : Below w5.heap.size w5 (w5.alloc (.cells #[.int .i64 xt, .int .i64 xu] 29)) := (Below.refl _ _).alloc (Nat.le_refl _) _
      have CI := Lib.hid (rInsert_any _ l i w4.heap.size w5.heap.size (xt, xu) (w5.alloc (.cells #[.int .i64 xt, .int .i64 xu] 29)) (HG5.out.below hal) (by have := HW45.out; have := hal.size; omega) (heap_alloc_new _ _) (fun t ht => by have := (HG5.out.lt t ht).2; omega) (by have := HLEN.out; omega) HIL.out)
      rw [← hins] at CI
      have HAL := Lib.hid hal
      clear hins hil hok hfull hal
      go_wp2_with fail
      refine CI.out.mono ?_
      rintro e w6 ⟨v6, rfl, hg6, hb6⟩
      have HG6 := Lib.hid hg6
      have HB6 := Lib.hid ((HB05.out.trans (HAL.out.mono HB05.out.size)).trans (hb6.mono (by have := HW4.out; have := HB.out.size; omega)))
      clear hg6 hb6 s0 s1
      go_wp2
      go_ret2
      exact ⟨⟨_, by rw [HEE.out]; rfl, fun h => absurd HEE.out h, fun _ => HG6.out⟩, HB6.out⟩

end Go.Proofs.Ytjnbdeopoohnmaa
