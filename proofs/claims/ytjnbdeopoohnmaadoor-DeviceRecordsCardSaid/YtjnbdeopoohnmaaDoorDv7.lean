/- Layer 48 (device): Thin. -/
import Derived.Test.YtjnbdeopoohnmaaDoorDv6
import Derived.Deep.RegionLaw
import Derived.Deep.RegionHeld3
import Derived.Deep.DeepCutAuto
import Derived.Deep.CutBlock
import Derived.Lib.QuietBelow
import Derived.Lib.SliceRun
set_option linter.unusedSimpArgs false
namespace Go.Proofs.YtjnbdeopoohnmaaDoor
open Go.RowKit Go.Sort

def tpush (gap : Int) (acc : List Smp) (s : Smp) : List Smp := match acc.getLast? with
  | none => acc ++ [s]
  | some p => if gap ≤ s.t - p.t then acc ++ [s] else acc
def sthin (gap : Int) (l : List Smp) : List Smp := l.foldl (tpush gap) []
theorem sthin_next {gap : Int} {l : List Smp} {k : Nat} {s : Smp} (h : l[k]? = some s) : sthin gap (l.take (k + 1)) = tpush gap (sthin gap (l.take k)) s := by
  rw [List.take_add_one, h]
  simp [sthin, List.foldl_append]
theorem tpush_sub {gap : Int} {acc : List Smp} {s x : Smp} (h : x ∈ tpush gap acc s) : x ∈ acc ∨ x = s := by
  unfold tpush at h
  split at h
  · simpa using h
  · split at h
    · simpa using h
    · exact .inl h
theorem sthin_sub {gap : Int} {l : List Smp} {x : Smp} (h : x ∈ sthin gap l) : x ∈ l := by
  have key : ∀ (l acc : List Smp), x ∈ l.foldl (tpush gap) acc → x ∈ acc ∨ x ∈ l := by
    intro l
    induction l with
    | nil => intro acc h; exact .inl h
    | cons y r ih =>
      intro acc h
      rcases ih _ h with h | h
      · rcases tpush_sub h with h | rfl
        · exact .inl h
        · exact .inr (by simp)
      · exact .inr (by simp [h])
  rcases key l [] h with h | h
  · cases h
  · exact h
theorem sthin_len (gap : Int) (l : List Smp) : (sthin gap l).length ≤ l.length := by
  have key : ∀ (l acc : List Smp), (l.foldl (tpush gap) acc).length ≤ acc.length + l.length := by
    intro l
    induction l with
    | nil => intro acc; simp
    | cons y r ih =>
      intro acc
      have h1 := ih (tpush gap acc y)
      have h2 : (tpush gap acc y).length ≤ acc.length + 1 := by
        unfold tpush
        split
        · simp
        · split
          · simp
          · omega
      simp only [List.foldl_cons, List.length_cons]
      omega
  simpa [sthin] using key l []
noncomputable def thE (d : DvD) (gap : Int) : Int := if pB (DRight d) = false ∨ gap < 0 then 2 else 0
noncomputable def thD (d : DvD) (gap : Int) : DvD := if thE d gap = 0 then ⟨d.tk, d.ky, sthin gap d.sm⟩ else dvz
def ThinPost (d : DvD) (gap : Int) (w : World) (e : Ending) (w' : World) : Prop :=
  ∃ vt vk vs, e = .returned (.tuple #[.agg #[vt, vk, vs], .int .i64 (thE d gap)]) ∧ Dv w' vt vk vs (thD d gap) ∧ Below w.heap.size w w'

set_option maxRecDepth 100000 in
set_option maxHeartbeats 3200000 in
theorem dvthin_any (vt vk vs : Value) (d : DvD) (gap : Int) (w : World) (h : Dv w vt vk vs d) (hl : d.tk.length ≤ 1048576) :
    Calls Tryd.prog 11 #[.agg #[vt, vk, vs], .int .i64 gap] w (ThinPost d gap w) := by
  unfold ThinPost
  obtain ⟨q, hq⟩ : ∃ q, w.heap.size = q := ⟨_, rfl⟩
  obtain ⟨hb0, hrA, hrB⟩ := al2 w (.cells #[vt, vk, vs] 25) (.cells #[.slice none 0 0, .slice none 0 0, .slice none 0 0] 25)
  obtain ⟨W, hW⟩ : ∃ W, (w.alloc (.cells #[vt, vk, vs] 25)).alloc (.cells #[.slice none 0 0, .slice none 0 0, .slice none 0 0] 25) = W := ⟨_, rfl⟩
  rw [hW] at hb0 hrA hrB
  rw [hq] at hrA hrB
  have CR := Lib.hid (dvright_any vt vk vs d W (h.below hb0) hl)
  have HB0 := Lib.hid hb0
  have HQA := Lib.hid (fun (V : World) (hV : Below W.heap.size W V) => three_at ((hV.block q (heap_lt hrA)).trans hrA))
  have HRC := Lib.hid (fun (V : World) (hV : Below W.heap.size W V) => (hV.block (q + 1) (heap_lt hrB)).trans hrB)
  have HQ := Lib.hid hq
  have HH := Lib.hid h
  obtain ⟨R, hR⟩ : ∃ R, pB (DRight d) = R := ⟨_, rfl⟩
  rw [hR] at CR
  have HRR := Lib.hid hR
  have HRE : Hid (thE d gap = if R = false ∨ gap < 0 then 2 else 0) := by show _ = _; rw [← hR]; rfl
  have HRD : Hid (thD d gap = if thE d gap = 0 then ⟨d.tk, d.ky, sthin gap d.sm⟩ else dvz) := rfl
  obtain ⟨E, hE⟩ : ∃ E, thE d gap = E := ⟨_, rfl⟩
  obtain ⟨D, hD⟩ : ∃ E, thD d gap = E := ⟨_, rfl⟩
  rw [hE] at HRE
  rw [hE, hD] at HRD
  rw [hE, hD]
  obtain ⟨ta, tc, hts⟩ := h.tk.shape
  obtain ⟨ka, kc, hks⟩ := h.ky.shape
  obtain ⟨tn, htn⟩ : ∃ n, d.tk.length = n := ⟨_, rfl⟩
  obtain ⟨kn, hkn⟩ : ∃ n, d.ky.length = n := ⟨_, rfl⟩
  obtain ⟨sn, hsn⟩ : ∃ n, d.sm.length = n := ⟨_, rfl⟩
  obtain ⟨sa, sc, b1, o1, hss, hsc1, hsc2, hix, hlb, hcell⟩ := Ss.open_n elS h.sm sn hsn
  rw [htn] at hts
  rw [hkn] at hks
  subst hts hks hss
  have HSN := Lib.hid hsn
  have HIX := Lib.hid hix
  have HLB := Lib.hid hlb
  have HCE := Lib.hid hcell
  obtain ⟨z0, z1, z2⟩ := HQA.out W (Below.refl _ _)
  have HBAD : Hid (∀ w3, Below W.heap.size W w3 → E ≠ 0 → ∀ Z, chain3 w3 (q + 1) (.slice none 0 0) (.slice none 0 0) (.slice none 0 0) = Z → (Z.cell? ⟨q + 1, 0, none⟩ = some (.slice none 0 0) ∧ Z.cell? ⟨q + 1, 1, none⟩ = some (.slice none 0 0) ∧ Z.cell? ⟨q + 1, 2, none⟩ = some (.slice none 0 0)) ∧ Dv Z (.slice none 0 0) (.slice none 0 0) (.slice none 0 0) D ∧ Below w.heap.size w Z) := by
    intro w3 hw3 hE0 Z hZ
    have hrow := HRC.out w3 hw3
    obtain ⟨hz1, hz2⟩ := chain3_row hrow (.slice none 0 0) (.slice none 0 0) (.slice none 0 0)
    rw [hZ] at hz1 hz2
    have hb3 := HB0.out.trans (hw3.mono HB0.out.size)
    exact ⟨three_at hz1, by rw [HRD.out, if_neg hE0]; exact dv_zero _, hb3.trans (hz2.below (fun k hk => by have := HQ.out; omega) hb3.size)⟩
  have HCF : Hid (∀ w3, Below W.heap.size W w3 → (w3.cell? ⟨q + 1, 0, none⟩ = some (.slice none 0 0) ∧ w3.cell? ⟨q + 1, 1, none⟩ = some (.slice none 0 0) ∧ w3.cell? ⟨q + 1, 2, none⟩ = some (.slice none 0 0)) ∧ w3.frozen? ⟨q + 1, 0, none⟩ = false ∧ w3.frozen? ⟨q + 1, 1, none⟩ = false ∧ w3.frozen? ⟨q + 1, 2, none⟩ = false) := fun w3 hw3 => ⟨three_at (HRC.out w3 hw3), frees3 (HRC.out w3 hw3)⟩
  clear h hl hb0 hrA hrB hR hE hD htn hkn hsn hix hlb hcell
  go_enter Tryd.func11, Tryd.ntmps11
  go_wp2_with fail
  refine CR.out.mono ?_
  rintro e w1 ⟨rfl, hb1⟩
  have HB1 := Lib.hid hb1
  clear hb1 CR z0 z1 z2
  by_cases hbad : R = false ∨ gap < 0
  · have HEE : Hid (E = 2) := by show _ = _; rw [HRE.out, if_pos hbad]
    obtain ⟨⟨c0, c1, c2⟩, f0, f1, f2⟩ := HCF.out w1 HB1.out
    have fin : ∀ Z, chain3 w1 (q + 1) (.slice none 0 0) (.slice none 0 0) (.slice none 0 0) = Z → _ := fun Z hZ => HBAD.out w1 HB1.out (by rw [HEE.out]; decide) Z hZ
    have FIN := Lib.hid fin
    clear fin
    cases R with
    | false =>
      clear hbad
      go_wp2
      obtain ⟨Z, hZ⟩ : ∃ Z, chain3 w1 (q + 1) (.slice none 0 0) (.slice none 0 0) (.slice none 0 0) = Z := ⟨_, rfl⟩
      obtain ⟨⟨d0, d1, d2⟩, hdv, hbf⟩ := FIN.out Z hZ
      unfold chain3 at hZ
      rw [hZ]
      refine bodyPost_ret (v := .tuple #[.agg #[.slice none 0 0, .slice none 0 0, .slice none 0 0], .int .i64 2]) ?_ rfl ⟨_, _, _, by rw [HEE.out], hdv, hbf⟩
      simp [results, Tryd.results11, go_sem, d0, d1, d2]
    | true =>
      have hg : gap < 0 := by rcases hbad with h | h; · cases h
                              · exact h
      clear hbad
      go_wp2
      obtain ⟨Z, hZ⟩ : ∃ Z, chain3 w1 (q + 1) (.slice none 0 0) (.slice none 0 0) (.slice none 0 0) = Z := ⟨_, rfl⟩
      obtain ⟨⟨d0, d1, d2⟩, hdv, hbf⟩ := FIN.out Z hZ
      unfold chain3 at hZ
      rw [hZ]
      refine bodyPost_ret (v := .tuple #[.agg #[.slice none 0 0, .slice none 0 0, .slice none 0 0], .int .i64 2]) ?_ rfl ⟨_, _, _, by rw [HEE.out], hdv, hbf⟩
      simp [results, Tryd.results11, go_sem, d0, d1, d2]
  obtain rfl : R = true := by cases R with
    | true => rfl
    | false => exact absurd (.inl rfl) hbad
  have hg : ¬ gap < 0 := fun h => hbad (.inr h)
  have HEE : Hid (E = 0) := by show _ = _; rw [HRE.out, if_neg hbad]
  have HDD : Hid (D = ⟨d.tk, d.ky, sthin gap d.sm⟩) := by show _ = _; rw [HRD.out, if_pos HEE.out]
  have hdr := pB_iff.1 HRR.out
  have HS48 : Hid (sn ≤ 2048) := by have := hdr.2.2.2; rw [HSN.out] at this; exact this
  have HMAY : Hid (∀ x ∈ d.sm, SMay x) := fun x hx => by
    obtain ⟨i, hi⟩ := List.getElem?_of_mem hx
    exact (hdr.2.2.1 i x hi).1
  clear hbad hdr HBAD HRE HRD
  obtain ⟨z0, z1, z2⟩ := HQA.out w1 HB1.out
  go_wp2_with fail
  go_loopg [6, 21] sn (fun qq vo vi wr => ∃ k : Nat, qq = sn - k ∧ k ≤ sn ∧ vi = .int .i64 k ∧ Hid (Gw 3 Smp.cells wr W.heap.size 27 vo (sthin gap (d.sm.take k))) ∧ Hid (Below W.heap.size W wr))
  case atStart => exact ⟨0, by omega, by omega, rfl, Gw.nil _ _ _, HB1⟩
  case round =>
    obtain ⟨k, rfl, hk, rfl, HO, HBR⟩ := hrel
    clear z0 z1 z2
    have HBW : Hid (Below w.heap.size w wr) := HB0.out.trans (HBR.out.mono HB0.out.size)
    obtain ⟨T, hT⟩ : ∃ T, sthin gap (d.sm.take k) = T := ⟨_, rfl⟩
    have hTl : T.length ≤ 2048 := by have := sthin_len gap (d.sm.take k); rw [hT, List.length_take] at this; have := HS48.out; omega
    have hTm : ∀ x ∈ T, SMay x := fun x hx => by rw [← hT] at hx; exact HMAY.out x (List.mem_of_mem_take (sthin_sub hx))
    rw [hT] at HO
    obtain ⟨m, hm⟩ : ∃ m, T.length = m := ⟨_, rfl⟩
    obtain ⟨oa, oc, ob, oo, hos, -, -, oix, olt, ocell, -⟩ := HO.out.gs.open_n layM elS m hm
    subst hos
    have HM := Lib.hid hm
    have HTL : Hid (m ≤ 2048) := by rw [← hm]; exact hTl
    by_cases hlt : k < sn
    · have e1 : (k : Int) < sn := by omega
      obtain ⟨s, hs⟩ : ∃ s, d.sm[k]? = some s := ⟨_, List.getElem?_eq_getElem (by rw [HSN.out]; exact hlt)⟩
      have hnx : sthin gap (d.sm.take (k + 1)) = tpush gap T s := by rw [sthin_next hs, hT]
      have hsm := HMAY.out s (List.mem_of_getElem? hs)
      obtain ⟨p0, p1, p2⟩ := HCE.out k s hs
      rw [← HBW.out.cell (by exact HLB.out k hlt)] at p0 p1 p2
      have hixk := fun W => HIX.out W (k : Int) (by omega) e1
      rw [show ((k : Int)).toNat = k by omega] at hixk
      obtain ⟨t, x, y⟩ := s
      simp only at p0 p1 p2
      have hal : Below wr.heap.size wr (wr.alloc (.cells #[.int .i64 t, .int .i64 x, .int .i64 y] 27)) := (Below.refl _ _).alloc (Nat.le_refl _) _
      have hr4 : (wr.alloc (.cells #[.int .i64 t, .int .i64 x, .int .i64 y] 27)).heap[wr.heap.size]? = some (.cells #[.int .i64 t, .int .i64 x, .int .i64 y] 27 (0, 0)) := heap_alloc_new _ _
      obtain ⟨p, hp⟩ : ∃ p, wr.heap.size = p := ⟨_, rfl⟩
      obtain ⟨V1, hV1⟩ : ∃ V, wr.alloc (.cells #[.int .i64 t, .int .i64 x, .int .i64 y] 27) = V := ⟨_, rfl⟩
      rw [hV1] at hal hr4
      rw [hp] at hr4
      have HR4 := Lib.hid (fun (V : World) (hV : Below V1.heap.size V1 V) => three_at ((hV.block p (heap_lt hr4)).trans hr4))
      obtain ⟨y0, y1, y2⟩ := three_at hr4
      have HB1' : Hid (Below W.heap.size W V1) := HBR.out.trans (hal.mono HBR.out.size)
      have HO1 := Lib.hid (HO.out.below hal)
      have HV1 := Lib.hid hV1
      have HP := Lib.hid hp
      have HLTK := Lib.hid hlt
      have HNX := Lib.hid hnx
      have hsm' : 0 ≤ t ∧ t ≤ 1099511627776 := ⟨hsm.1, hsm.2.1⟩
      have HOC : Hid (∀ j x, T[j]? = some x → V1.cell? ⟨ob, oo j, none⟩ = some (.int .i64 x.t)) := fun j x hj => by
        have hb := olt j (by rw [← hm]; exact (List.getElem?_eq_some_iff.1 hj).1)
        exact (hal.cell hb).trans (ocell j x hj 0 _ rfl)
      have HOX := Lib.hid oix
      have HTM := Lib.hid hTm
      clear hT hTl hTm hm hs hnx hsm hlt hal hr4 hV1 hp oix olt ocell
      go_upto_region 7 with (with_reducible refine wpList_store_new rfl _ _ rfl rfl rfl (by kernel_rfl) (by simp) (by simp [Value.oneCell']) ?_)
      rw [HV1.out, HP.out]
      rcases Nat.eq_zero_or_pos m with hm0 | hm0
      · subst hm0
        have hf : sthin gap (d.sm.take (k + 1)) = T ++ [⟨t, x, y⟩] := by
          rw [HNX.out]
          obtain rfl := List.length_eq_zero_iff.1 HM.out
          rfl
        have HF := Lib.hid hf
        have HBQ : Hid (∀ nq, Below V1.heap.size V1 (V1.drewN nq)) := fun nq => below_drewN (Below.refl _ _) nq
        clear hf p0 p1 p2
        go_upto_region 8 with fail
        go_quiet (fail)
        obtain ⟨V2, hV2⟩ : ∃ V, V1.drewN nq = V := ⟨_, rfl⟩
        have hbq := HBQ.out nq
        rw [hV2] at hbq ⊢
        clear hV2 y0 y1 y2
        obtain ⟨y0, y1, y2⟩ := HR4.out V2 hbq
        have HO2 := Lib.hid (HO1.out.below hbq)
        have HB2 : Hid (Below W.heap.size W V2) := HB1'.out.trans (hbq.mono HB1'.out.size)
        go_wp2_with (at_builtin; go_must (refine wpList_append_gs layM (HO2.out.below (bel_al (Below.refl _ _) _)) (lit_smp V2 ⟨t, x, y⟩) elS (by rw [HM.out]; simp) (by rw [HM.out]; simp) (bel_al HB2.out _).size ?_ _ _ rfl rfl rfl rfl); intro v5 w5 ho5 hg5 hb5 _; have HO5 := Lib.hid ho5; have HG5 := Lib.hid ((bel_al HB2.out _).trans hb5); clear ho5 hg5 hb5)
        go_roundg (sn - (k + 1))
        case rel => exact ⟨k + 1, rfl, by have := HLTK.out; omega, by go_num, by rw [HF.out]; exact HO5, HG5⟩
        case measure => have := HLTK.out; omega
      · obtain ⟨m1, rfl⟩ : ∃ m1, m = m1 + 1 := ⟨m - 1, by omega⟩
        obtain ⟨pp, hpp⟩ : ∃ y, T[m1]? = some y := ⟨_, List.getElem?_eq_getElem (by rw [HM.out]; omega)⟩
        have hlast : T.getLast? = some pp := by rw [List.getLast?_eq_getElem?, HM.out]; exact hpp
        have hpm := HTM.out pp (List.mem_of_getElem? hpp)
        have d0 := HOC.out m1 pp hpp
        have hoixm := fun W => HOX.out W m1 (Nat.lt_succ_self _)
        obtain ⟨mm, hmm⟩ : ∃ mm, m1 + 1 = mm := ⟨_, rfl⟩
        have hm1 : (m1 : Int) = (mm : Int) - 1 := by omega
        have hmm63 : 1 ≤ mm ∧ mm ≤ 2048 := by have := HTL.out; omega
        rw [hmm] at HO1 HM hoixm
        rw [hm1] at hoixm
        rw [hmm]
        have e7 : ((mm : Int) == 0) = false := by simp; omega
        have hpt : 0 ≤ pp.t ∧ pp.t ≤ 1099511627776 := ⟨hpm.1, hpm.2.1⟩
        obtain ⟨pt, hptv⟩ : ∃ z, pp.t = z := ⟨_, rfl⟩
        rw [hptv] at d0 hpt
        have hw1 : IntKind.i64.wrap (t - pt) = t - pt := by rw [IntKind.wrap_i64]; omega
        have HMM := Lib.hid hmm63
        have hstep : tpush gap T ⟨t, x, y⟩ = if gap ≤ t - pt then T ++ [⟨t, x, y⟩] else T := by unfold tpush; rw [hlast, ← hptv]
        have HBQ : Hid (∀ nq, Below V1.heap.size V1 (V1.drewN nq)) := fun nq => below_drewN (Below.refl _ _) nq
        by_cases hgg : gap ≤ t - pt
        · have HF : Hid (sthin gap (d.sm.take (k + 1)) = T ++ [⟨t, x, y⟩]) := by show _ = _; rw [HNX.out, hstep, if_pos hgg]
          clear hpp hlast hpm hm0 hmm hm1 hstep hptv p0 p1 p2
          go_upto_region 8 with fail
          go_quiet (fail)
          obtain ⟨V2, hV2⟩ : ∃ V, V1.drewN nq = V := ⟨_, rfl⟩
          have hbq := HBQ.out nq
          rw [hV2] at hbq ⊢
          clear hV2 y0 y1 y2 d0
          obtain ⟨y0, y1, y2⟩ := HR4.out V2 hbq
          have HO2 := Lib.hid (HO1.out.below hbq)
          have HB2 : Hid (Below W.heap.size W V2) := HB1'.out.trans (hbq.mono HB1'.out.size)
          go_wp2_with (at_builtin; go_must (refine wpList_append_gs layM (HO2.out.below (bel_al (Below.refl _ _) _)) (lit_smp V2 ⟨t, x, y⟩) elS (by rw [HM.out]; have := HMM.out; simp; omega) (by rw [HM.out]; have := HMM.out; simp; omega) (bel_al HB2.out _).size ?_ _ _ rfl rfl rfl rfl); intro v5 w5 ho5 hg5 hb5 _; have HO5 := Lib.hid ho5; have HG5 := Lib.hid ((bel_al HB2.out _).trans hb5); clear ho5 hg5 hb5)
          go_roundg (sn - (k + 1))
          case rel => exact ⟨k + 1, rfl, by have := HLTK.out; omega, by go_num, by rw [HF.out]; exact HO5, HG5⟩
          case measure => have := HLTK.out; omega
        · have HF : Hid (sthin gap (d.sm.take (k + 1)) = T) := by show _ = _; rw [HNX.out, hstep, if_neg hgg]
          clear hpp hlast hpm hm0 hmm hm1 hstep hptv p0 p1 p2
          go_upto_region 8 with fail
          go_quiet (fail)
          obtain ⟨V2, hV2⟩ : ∃ V, V1.drewN nq = V := ⟨_, rfl⟩
          have hbq := HBQ.out nq
          rw [hV2] at hbq ⊢
          clear hV2 y0 y1 y2 d0
          have HO2 := Lib.hid (HO1.out.below hbq)
          have HB2 : Hid (Below W.heap.size W V2) := HB1'.out.trans (hbq.mono HB1'.out.size)
          go_wp2
          go_roundg (sn - (k + 1))
          case rel => exact ⟨k + 1, rfl, by have := HLTK.out; omega, by go_num, by rw [HF.out]; exact HO2, HB2⟩
          case measure => have := HLTK.out; omega
    · obtain rfl : k = sn := by omega
      have e1 : ¬ (k : Int) < k := by omega
      have hTT : T = sthin gap d.sm := by rw [← hT, List.take_of_length_le (by rw [HSN.out]; exact Nat.le_refl _)]
      have HTT := Lib.hid hTT
      obtain ⟨z0, z1, z2⟩ := HQA.out wr HBR.out
      clear hT hTl hTm hm hlt oix olt ocell hTT
      go_wp2_with fail
      refine (dvwith_any _ _ _ _ _ _ _ _ _ _ _ _ wr).mono ?_
      rintro e w7 ⟨rfl, hb7⟩
      have HB7 := Lib.hid (HBR.out.trans (hb7.mono HBR.out.size))
      have HBW7 := Lib.hid (HBW.out.trans (hb7.mono HBW.out.size))
      have HO7 := Lib.hid (HO.out.below hb7)
      obtain ⟨⟨c0, c1, c2⟩, f0, f1, f2⟩ := HCF.out w7 HB7.out
      clear hb7
      go_wp2
      obtain ⟨Z, hZ⟩ : ∃ Z, chain3 w7 (q + 1) (.slice ta tn tc) (.slice ka kn kc) (.slice oa m oc) = Z := ⟨_, rfl⟩
      have hrow7 := HRC.out w7 HB7.out
      obtain ⟨hz1, hz2⟩ := chain3_row hrow7 (.slice ta tn tc) (.slice ka kn kc) (.slice oa m oc)
      rw [hZ] at hz1 hz2
      unfold chain3 at hZ
      rw [hZ]
      obtain ⟨d0, d1, d2⟩ := three_at hz1
      have hd7 := HH.out.below HBW7.out
      have hdv : Dv Z (.slice ta tn tc) (.slice ka kn kc) (.slice oa m oc) D := by
        rw [HDD.out]
        refine ⟨hd7.tk.only' hz2 fun hl k hk e => Bs.ne_dev hd7.tk hrow7 hl (by rw [hk, e]), hd7.ky.only' hz2 fun hl k hk e => Bs.ne_dev hd7.ky hrow7 hl (by rw [hk, e]), ?_⟩
        show Gs 3 Smp.cells Z (.slice oa m oc) (sthin gap d.sm)
        rw [← HTT.out]
        exact HO7.out.gs.only hz2 fun k hk e => by have h1 := (HO7.out.lt k hk).1; have h2 := heap_lt (HRC.out W (Below.refl _ _)); omega
      have hbf := HBW7.out.trans (hz2.below (B := w.heap.size) (fun k hk => by have := HQ.out; omega) HBW7.out.size)
      refine bodyPost_ret (v := .tuple #[.agg #[.slice ta tn tc, .slice ka kn kc, .slice oa m oc], .int .i64 0]) ?_ rfl ⟨_, _, _, by rw [HEE.out], hdv, hbf⟩
      simp [results, Tryd.results11, go_sem, d0, d1, d2]
end Go.Proofs.YtjnbdeopoohnmaaDoor
