/- Layer 56 (roster): Enter. -/
import Derived.Test.YtjnbdeopoohnmaaRt14
import Derived.Deep.RegionLaw
import Derived.Deep.DeepCutAuto
import Derived.Deep.CutBlock
import Derived.Lib.QuietBelow
import Derived.Lib.SliceRun
set_option linter.unusedSimpArgs false
namespace Go.Proofs.Ytjnbdeopoohnmaa
open Go.RowKit Go.Sort

def entA (id c : Int) : AcD := ⟨id, -1, [(0, c)]⟩
def ains : List AcD → AcD → List AcD
  | [], a => [a]
  | x :: r, a => if x.id < a.id then x :: ains r a else a :: x :: r
def entE (D : List AcD) (id c : Int) : Int := if aright D = false ∨ aone (entA id c) = false then 2 else if aix D id ≠ D.length then 40 else if D.length = 4096 then 3 else 0
def entL (D : List AcD) (id c : Int) : List AcD := if entE D id c = 0 then ains D (entA id c) else []

theorem PlaceIs.ains : ∀ {l : List AcX} {i : Nat} {x : AcX}, PlaceIs l x.1.id i → accD (l.take i ++ x :: l.drop i) = ains (accD l) x.1
  | [], i, x, h => by
    have := h.le
    obtain rfl : i = 0 := by simpa using this
    rfl
  | y :: r, 0, x, h => by
    have := h.hi y rfl
    show accD (x :: y :: r) = Go.Proofs.Ytjnbdeopoohnmaa.ains (y.1 :: accD r) x.1
    unfold Go.Proofs.Ytjnbdeopoohnmaa.ains
    rw [if_neg this]
    rfl
  | y :: r, i + 1, x, h => by
    have h0 := h.lo 0 y (by omega) rfl
    have hr : PlaceIs r x.1.id i := ⟨by have := h.le; simpa using this, fun j z hj hz => h.lo (j + 1) z (by omega) (by simpa using hz), fun z hz => h.hi z (by simpa using hz)⟩
    have ih := hr.ains
    show y.1 :: accD (r.take i ++ x :: r.drop i) = Go.Proofs.Ytjnbdeopoohnmaa.ains (y.1 :: accD r) x.1
    rw [ih]
    conv => rhs; unfold Go.Proofs.Ytjnbdeopoohnmaa.ains
    rw [if_pos h0]

set_option maxRecDepth 100000 in
set_option maxHeartbeats 1600000 in
theorem rtEnter_any (v : Value) (l : List AcX) (id c : Int) (w : World) (h : Acs w v l) (hid : IW id) (hc : IW c) : Calls Try.prog 27 #[v, .int .i64 id, .int .i64 c] w (RosPost w (entL (accD l) id c) (entE (accD l) id c)) := by
  unfold RosPost
  obtain ⟨n, hn⟩ : ∃ n, l.length = n := ⟨_, rfl⟩
  obtain ⟨q, hq⟩ : ∃ q, w.heap.size = q := ⟨_, rfl⟩
  obtain ⟨W0, hW0⟩ : ∃ W, w.alloc (.cells #[.int .i64 0, .int .i64 c] 49) = W := ⟨_, rfl⟩
  have hb00 : Below w.heap.size w W0 := by rw [← hW0]; exact bw_al (Below.refl _ _) _
  have hr00 : W0.heap[q]? = some (.cells #[.int .i64 0, .int .i64 c] 49 (0, 0)) := by rw [← hW0, ← hq]; exact heap_alloc_new _ _
  obtain ⟨p, hp⟩ : ∃ p, W0.heap.size = p := ⟨_, rfl⟩
  obtain ⟨W, hW⟩ : ∃ W, W0.alloc (.cells #[.int .i64 id, .int .i64 (-1), .slice (some ⟨q, 0, none⟩) 1 1] 43) = W := ⟨_, rfl⟩
  have hb0W : Below W0.heap.size W0 W := by rw [← hW]; exact bw_al (Below.refl _ _) _
  have hb0 : Below w.heap.size w W := hb00.trans (hb0W.mono hb00.size)
  have hr0 : W.heap[p]? = some (.cells #[.int .i64 id, .int .i64 (-1), .slice (some ⟨q, 0, none⟩) 1 1] 43 (0, 0)) := by rw [← hW, ← hp]; exact heap_alloc_new _ _
  have hsp : Gs 2 csS W (.slice (some ⟨q, 0, none⟩) 1 1) [((0, c) : SpT)] := ((⟨by simp, by decide, _, (hb0W.block q (heap_lt hr00)).trans hr00, rfl, by rfl⟩ : Row 2 csS W 49 q 1 [((0, c) : SpT)]).gw layS (B := 0) (Nat.zero_le _)).gs
  obtain ⟨x, hx⟩ : ∃ x : AcX, x = (entA id c, (some ⟨q, 0, none⟩, 1, 1)) := ⟨_, rfl⟩
  have hxA : x.agg = .agg #[.int .i64 id, .int .i64 (-1), .slice (some ⟨q, 0, none⟩) 1 1] := by rw [hx]; rfl
  have hx1 : x.1 = entA id c := by rw [hx]
  have hxid : x.1.id = id := by rw [hx1]; rfl
  have hxV : AcV W x := by
    rw [hx]
    refine ⟨hsp, hid, ⟨by show (_:Int) ≤ -1; omega, by show (-1:Int) ≤ _; omega⟩, fun s hs => ?_⟩
    obtain rfl : s = (0, c) := by simpa [entA] using hs
    exact ⟨⟨by show (_:Int) ≤ 0; omega, by show (0:Int) ≤ _; omega⟩, hc⟩
  have hxcs : csA x = [.int .i64 id, .int .i64 (-1), .slice (some ⟨q, 0, none⟩) 1 1] := by rw [hx]; rfl
  have C1 := Lib.hid (rtRight_any v l W (h.below hb0))
  have C2 := Lib.hid (fun V (hV : Below W.heap.size W V) => rtOne_any x V (hxV.below hV))
  have C4 := Lib.hid (fun V (hV : Below w.heap.size w V) => rtPlace_any v l id V (h.1.below hV))
  have C5 := Lib.hid (fun V (hV : Below w.heap.size w V) (hl : l.length ≤ 100000) => aClone_any v l V (h.1.below hV) hl)
  have HQX := Lib.hid (fun (V : World) (hV : Below W.heap.size W V) => acct_cells ((hV.block p (heap_lt hr0)).trans hr0))
  have CI : Hid (∀ (V : World) (v' : Value) (i B vb : Nat), Gw 3 csA V B 43 v' l → B ≤ V.heap.size → V.heap[vb]? = some (.cells #[.int .i64 id, .int .i64 (-1), .slice (some ⟨q, 0, none⟩) 1 1] 43 (0, 0)) → (∀ t, v'.ownBlock = some t → t ≠ vb) → l.length ≤ 100000 → i ≤ l.length → Calls Try.prog 59 #[v', .int .i64 (i : Int), .slice (some ⟨vb, 0, none⟩) 1 1] V fun e w' => ∃ v'', e = .returned v'' ∧ Gs 3 csA w' v'' (l.take i ++ x :: l.drop i) ∧ Below B V w') := fun V v' i B vb hg hB hv hne hl hi => aInsert_any v' l i B vb x V hg hB (by rw [hx]; exact hv) hne hl hi
  rw [hxA] at C2
  rw [hx1] at C2
  have HXV := Lib.hid hxV
  have HX1 := Lib.hid hx1
  have HXID := Lib.hid hxid
  have HH := Lib.hid h
  have HN := Lib.hid hn
  have HB0 := Lib.hid hb0
  obtain ⟨a0, c0', hvs⟩ := h.1.shape
  rw [hn] at hvs
  subst hvs
  obtain ⟨b0, hb0'⟩ : ∃ b, aright (accD l) = b := ⟨_, rfl⟩
  obtain ⟨b1, hb1'⟩ : ∃ b, aone (entA id c) = b := ⟨_, rfl⟩
  rw [hb0'] at C1
  rw [hb1'] at C2
  obtain ⟨E, hEE⟩ : ∃ E, entE (accD l) id c = E := ⟨_, rfl⟩
  obtain ⟨L, hL⟩ : ∃ L, entL (accD l) id c = L := ⟨_, rfl⟩
  have HE : Hid (E = if b0 = false ∨ b1 = false then 2 else if aix (accD l) id ≠ l.length then 40 else if l.length = 4096 then 3 else 0) := by
    show _ = _
    rw [← hEE, ← hb0', ← hb1']
    unfold entE
    rw [accD_len]
  have HL : Hid (L = if E = 0 then ains (accD l) (entA id c) else []) := by show _ = _; rw [← hL, ← hEE]; rfl
  have HR0 := Lib.hid hb0'
  rw [hEE, hL]
  obtain ⟨s0, s1, s2⟩ := HQX.out W (Below.refl _ _)
  clear h hn hb0' hb1' hEE hL hx hxA hx1 hxid hxV hxcs hsp hr0 hr00 hb0W hb00 hb0 hid hc
  go_enter Try.func27, Try.ntmps27
  go_wp2_with fail
  refine C1.out.mono ?_
  rintro e w2 ⟨rfl, hb2⟩
  have HB2W := Lib.hid hb2
  have HB2 := Lib.hid (HB0.out.trans (hb2.mono HB0.out.size))
  clear s0 s1 s2
  obtain ⟨s0, s1, s2⟩ := HQX.out w2 hb2
  clear hb2 C1
  have HBAD : Hid (E ≠ 0 → L = []) := fun h => by rw [HL.out, if_neg h]
  cases b0 with
  | false =>
    have HEE : Hid (E = 2) := by show _ = _; rw [HE.out]; rfl
    go_wp2
    go_ret2
    exact ⟨.slice none 0 0, [], by rw [HEE.out]; rfl, acs_nil _, by rw [HBAD.out (by rw [HEE.out]; decide)]; rfl, HB2.out⟩
  | true =>
  go_wp2_with fail
  refine (C2.out w2 HB2W.out).mono ?_
  rintro e w3 ⟨rfl, hb3⟩
  have HB3W := Lib.hid (HB2W.out.trans (hb3.mono HB2W.out.size))
  have HB3 := Lib.hid (HB2.out.trans (hb3.mono HB2.out.size))
  clear s0 s1 s2
  obtain ⟨s0, s1, s2⟩ := HQX.out w3 HB3W.out
  clear hb3 C2
  cases b1 with
  | false =>
    have HEE : Hid (E = 2) := by show _ = _; rw [HE.out]; rfl
    go_wp2
    go_ret2
    exact ⟨.slice none 0 0, [], by rw [HEE.out]; rfl, acs_nil _, by rw [HBAD.out (by rw [HEE.out]; decide)]; rfl, HB3.out⟩
  | true =>
  have HE2 : Hid (E = if aix (accD l) id ≠ l.length then 40 else if l.length = 4096 then 3 else 0) := by show _ = _; rw [HE.out]; simp
  go_wp2_with fail
  refine (C4.out w3 HB3.out).mono ?_
  rintro e w4 ⟨i, hpl, rfl, hb4⟩
  have HB4W := Lib.hid (HB3W.out.trans (hb4.mono HB3W.out.size))
  have HB4 := Lib.hid (HB3.out.trans (hb4.mono HB3.out.size))
  clear s0 s1 s2
  obtain ⟨s0, s1, s2⟩ := HQX.out w4 HB4W.out
  have hax := (hpl.idx HR0.out).aix
  have hin : phas l id i = true → i < l.length := fun hp => by
    unfold phas at hp
    cases hy : l[i]? with
    | none => rw [hy] at hp; cases hp
    | some y => exact (List.getElem?_eq_some_iff.1 hy).1
  have HIN := Lib.hid hin
  have HAX := Lib.hid hax
  have HPL := Lib.hid hpl
  clear C4 hax hb4 hpl hin
  obtain ⟨ph, hph⟩ : ∃ b, phas l id i = b := ⟨_, rfl⟩
  rw [hph] at HIN HAX ⊢
  clear hph
  cases ph with
  | true =>
    have HEE : Hid (E = 40) := by
      show _ = _
      have := HIN.out rfl
      rw [HE2.out, HAX.out, if_pos rfl, if_pos (by show i ≠ _; omega)]
    go_wp2
    go_ret2
    exact ⟨.slice none 0 0, [], by rw [HEE.out]; rfl, acs_nil _, by rw [HBAD.out (by rw [HEE.out]; decide)]; rfl, HB4.out⟩
  | false =>
    have HE3 : Hid (E = if n = 4096 then 3 else 0) := by show _ = _; rw [HE2.out, HAX.out, if_neg (by simp), HN.out]
    have hn4 : l.length ≤ 4096 := by have := (aright_up HR0.out).2.2; rwa [accD_len] at this
    by_cases hfull : n = 4096
    · have e5 : ((n : Int) == 4096) = true := by simp; omega
      have HEE : Hid (E = 3) := by show _ = _; rw [HE3.out, if_pos hfull]
      clear hfull hn4
      go_wp2
      go_ret2
      exact ⟨.slice none 0 0, [], by rw [HEE.out]; rfl, acs_nil _, by rw [HBAD.out (by rw [HEE.out]; decide)]; rfl, HB4.out⟩
    · have e5 : ((n : Int) == 4096) = false := by simp; omega
      have HEE : Hid (E = 0) := by show _ = _; rw [HE3.out, if_neg hfull]
      have HLL : Hid (L = accD (l.take i ++ x :: l.drop i)) := by
        show _ = _
        rw [HL.out, if_pos HEE.out, PlaceIs.ains (x := x) (by rw [HXID.out]; exact HPL.out), HX1.out]
      have CC : Hid (∀ V, Below w4.heap.size w4 V → Calls Try.prog 60 #[.slice a0 n c0'] V fun e w' => ∃ v, e = .returned v ∧ Gw 3 csA w' V.heap.size 43 v l ∧ Below V.heap.size V w') := fun V hV => C5.out V (HB4.out.trans (hV.mono HB4.out.size)) (by omega)
      have HN4 : Hid (l.length ≤ 100000) := by show _ ≤ _; omega
      have HIL := Lib.hid HPL.out.le
      have HEND : Hid (∀ V : World, Below w4.heap.size w4 V → Below w.heap.size w V) := fun V hV => HB4.out.trans (hV.mono HB4.out.size)
      have HALL : Hid (∀ (V : World) (v : Value), Gs 3 csA V v (l.take i ++ x :: l.drop i) → Below w4.heap.size w4 V → Acs V v (l.take i ++ x :: l.drop i)) := fun V v hg hV => ⟨hg, fun y hy => by
        rw [List.mem_append, List.mem_cons] at hy
        rcases hy with hy | rfl | hy
        · exact (HH.out.below (HEND.out V hV)).2 y (List.mem_of_mem_take hy)
        · exact HXV.out.below (HB4W.out.trans (hV.mono HB4W.out.size))
        · exact (HH.out.below (HEND.out V hV)).2 y (List.mem_of_mem_drop hy)⟩
      clear hfull hn4 HE HE2 HE3 C5
      go_wp2_with fail
      go_region_law (first
        | (go_simp; go_at_call 60; (with_reducible refine (CC.out _ (bw_dr (Below.refl _ _))).mono ?_); rintro e w5 ⟨v5, rfl, hg5, hb5⟩; have B5 : Below w4.heap.size w4 w5 := (bw_dr (Below.refl _ _)).trans (hb5.mono (by simp)); obtain ⟨z0, z1, z2⟩ := HQX.out w5 (HB4W.out.trans (B5.mono HB4W.out.size)); have GA : Hid (Gw 3 csA w5 w4.heap.size 43 v5 l) := hg5; have HB5 := Lib.hid B5; clear hg5 hb5 B5)
        | (go_simp; go_at_call 60; (with_reducible refine (CC.out _ (bw_dr (bw_al (Below.refl _ _) _))).mono ?_); rintro e w5 ⟨v5, rfl, hg5, hb5⟩; have hv5 := (hb5.block w4.heap.size (by simp)).trans (heap_alloc_new _ _); have GB := Lib.hid hg5; have HB5 := Lib.hid hb5; have HV5 := Lib.hid hv5; have B5 : Below w4.heap.size w4 w5 := (bw_dr (bw_al (Below.refl _ _) _)).trans (hb5.mono (by simp)); have HBB := Lib.hid B5; clear hg5 hb5 hv5 B5)
        | (go_simp; go_at_call 59; (with_reducible refine (CI.out _ v5 i w4.heap.size _ (GA.out.below (bw_al (Below.refl _ _) _)) (bw_al HB5.out _).size (heap_alloc_new _ _) (fun t ht => by have := (GA.out.lt t ht).2; omega) HN4.out HIL.out).mono ?_); rintro e w6 ⟨v6, rfl, hg6, hb6⟩; have B6 : Below w4.heap.size w4 w6 := (bw_al HB5.out _).trans hb6; have HG6 := Lib.hid hg6; have HB6 := Lib.hid B6; clear hg6 hb6 B6)
        | (go_simp; go_at_call 59; (with_reducible refine (CI.out w5 v5 i _ _ GB.out HB5.out.size HV5.out (fun t ht => by have := (GB.out.lt t ht).1; simp at this; omega) HN4.out HIL.out).mono ?_); rintro e w6 ⟨v6, rfl, hg6, hb6⟩; have B6 : Below w4.heap.size w4 w6 := HBB.out.trans (hb6.mono (by simp)); have HG6 := Lib.hid hg6; have HB6 := Lib.hid B6; clear hg6 hb6 B6))
      all_goals
        go_simp
        go_wp2
        go_ret2
        exact ⟨v6, l.take i ++ x :: l.drop i, by rw [HEE.out]; rfl, HALL.out _ _ HG6.out HB6.out, HLL.out.symm, HEND.out _ HB6.out⟩
end Go.Proofs.Ytjnbdeopoohnmaa
