/- Layer 56 (roster): Enter of the document. -/
import Derived.Test.YtjnbdeopoohnmaaRt15
import Derived.Deep.RegionLaw
import Derived.Deep.DeepCutAuto
import Derived.Deep.CutBlock
import Derived.Lib.QuietBelow
import Derived.Lib.SliceRun
set_option linter.unusedSimpArgs false
namespace Go.Proofs.Ytjnbdeopoohnmaa
open Go.RowKit Go.Sort

theorem placeIs_ex : ∀ (l : List AcX) (id : Int), ∃ i, PlaceIs l id i
  | [], id => ⟨0, Nat.le_refl _, fun _ _ h _ => by omega, fun _ h => by cases h⟩
  | y :: r, id => by
    by_cases h : y.1.id < id
    · obtain ⟨i, hi⟩ := placeIs_ex r id
      refine ⟨i + 1, by have := hi.le; simpa using this, fun j z hj hz => ?_, fun z hz => hi.hi z (by simpa using hz)⟩
      cases j with
      | zero => obtain rfl : y = z := by simpa using hz
                exact h
      | succ j => exact hi.lo j z (by omega) (by simpa using hz)
    · refine ⟨0, Nat.zero_le _, fun _ _ h _ => by omega, fun z hz => ?_⟩
      obtain rfl : y = z := by simpa using hz
      exact h

theorem ins_lo {α : Type} {l : List α} {i k : Nat} {x y : α} (h : l[k]? = some y) (hk : k < i) : (l.take i ++ x :: l.drop i)[k]? = some y := by
  have := (List.getElem?_eq_some_iff.1 h).1
  rw [List.getElem?_append_left (by rw [List.length_take]; omega), List.getElem?_take, if_pos hk, h]
theorem ins_at {α : Type} {l : List α} {i : Nat} {x : α} (h : i ≤ l.length) : (l.take i ++ x :: l.drop i)[i]? = some x := by
  rw [List.getElem?_append_right (by rw [List.length_take]; omega), List.length_take, show i - min i l.length = 0 by omega]
  rfl
theorem ins_hi {α : Type} {l : List α} {i k : Nat} {x y : α} (h : l[k]? = some y) (hk : i ≤ k) : (l.take i ++ x :: l.drop i)[k + 1]? = some y := by
  have := (List.getElem?_eq_some_iff.1 h).1
  rw [List.getElem?_append_right (by rw [List.length_take]; omega), List.length_take, show k + 1 - min i l.length = (k - i) + 1 by omega, List.getElem?_cons_succ, List.getElem?_drop, show i + (k - i) = k by omega, h]

set_option maxRecDepth 100000 in
set_option maxHeartbeats 1600000 in
theorem rrtEnter_any (v : Value) (l : List AcX) (id c : Int) (w : World) (h : Acs w v l) (hid : IW id) (hc : IW c) : Calls Try.prog 28 #[v, .int .i64 id, .int .i64 c] w (RosPost w (entL (accD l) id c) (entE (accD l) id c)) := by
  unfold RosPost
  obtain ⟨n, hn⟩ : ∃ n, l.length = n := ⟨_, rfl⟩
  obtain ⟨q, hq⟩ : ∃ q, w.heap.size = q := ⟨_, rfl⟩
  obtain ⟨W0, hW0⟩ : ∃ W, w.alloc (.cells #[.int .i64 0, .int .i64 c] 49) = W := ⟨_, rfl⟩
  have hb00 : Below w.heap.size w W0 := by rw [← hW0]; exact bw_al (Below.refl _ _) _
  have hr00 : W0.heap[q]? = some (.cells #[.int .i64 0, .int .i64 c] 49 (0, 0)) := by rw [← hW0, ← hq]; exact heap_alloc_new _ _
  obtain ⟨p, hp⟩ : ∃ p, W0.heap.size = p := ⟨_, rfl⟩
  obtain ⟨W, hW⟩ : ∃ W, W0.alloc (.cells #[.int .i64 id, .int .i64 (-1), .slice (some ⟨q, 0, none⟩) 1 1] 43) = W := ⟨_, rfl⟩
  have hb0W : Below W0.heap.size W0 W := by rw [← hW]; exact bw_al (Below.refl _ _) _
  have hb0 : Below w.heap.size w W := hb00.trans (hb0W.mono hb00.size)
  have hr0 : W.heap[p]? = some (.cells #[.int .i64 id, .int .i64 (-1), .slice (some ⟨q, 0, none⟩) 1 1] 43 (0, 0)) := by rw [← hW, ← hp]; exact heap_alloc_new _ _
  have hsp : Gs 2 csS W (.slice (some ⟨q, 0, none⟩) 1 1) [((0, c) : SpT)] := ((⟨by simp, by decide, _, (hb0W.block q (heap_lt hr00)).trans hr00, rfl, by rfl⟩ : Row 2 csS W 49 q 1 [((0, c) : SpT)]).gw layS (B := 0) (Nat.zero_le _)).gs
  obtain ⟨x, hx⟩ : ∃ x : AcX, x = (entA id c, (some ⟨q, 0, none⟩, 1, 1)) := ⟨_, rfl⟩
  have hxA : x.agg = .agg #[.int .i64 id, .int .i64 (-1), .slice (some ⟨q, 0, none⟩) 1 1] := by rw [hx]; rfl
  have hx1 : x.1 = entA id c := by rw [hx]
  have hxid : x.1.id = id := by rw [hx1]; rfl
  have hxV : AcV W x := by
    rw [hx]
    refine ⟨hsp, hid, ⟨by show (_:Int) ≤ -1; omega, by show (-1:Int) ≤ _; omega⟩, fun s hs => ?_⟩
    obtain rfl : s = (0, c) := by simpa [entA] using hs
    exact ⟨⟨by show (_:Int) ≤ 0; omega, by show (0:Int) ≤ _; omega⟩, hc⟩
  have hxcs : csA x = [.int .i64 id, .int .i64 (-1), .slice (some ⟨q, 0, none⟩) 1 1] := by rw [hx]; rfl
  have C1 := Lib.hid (rrtRight_any v l W (h.below hb0))
  have C2 := Lib.hid (fun V (hV : Below W.heap.size W V) => rrtRight_any (.slice (some ⟨V.heap.size, 0, none⟩) 1 1) [x] (V.alloc (.cells #[.int .i64 id, .int .i64 (-1), .slice (some ⟨q, 0, none⟩) 1 1] 43)) ⟨by have := lit_acct V x; rw [hx] at this ⊢; exact this, fun y hy => (List.mem_singleton.1 hy) ▸ hxV.below (bw_al hV _)⟩)
  have C4 := Lib.hid (fun V (hV : Below w.heap.size w V) => rrtFind_any v l id V (h.1.below hV))
  have HQX := Lib.hid (fun (V : World) (hV : Below W.heap.size W V) => acct_cells ((hV.block p (heap_lt hr0)).trans hr0))
  have HLIT : Hid (∀ V : World, Gs 3 csA (V.alloc (.cells #[.int .i64 id, .int .i64 (-1), .slice (some ⟨q, 0, none⟩) 1 1] 43)) (.slice (some ⟨V.heap.size, 0, none⟩) 1 1) [x]) := fun V => by have := lit_acct V x; rw [hx] at this ⊢; exact this
  have hac : accD [x] = [entA id c] := by rw [hx]; rfl
  rw [hac, aright_one] at C2
  have HXV := Lib.hid hxV
  have HX1 := Lib.hid hx1
  have HXID := Lib.hid hxid
  have HH := Lib.hid h
  have HN := Lib.hid hn
  have HB0 := Lib.hid hb0
  have HQ := Lib.hid hq
  obtain ⟨a0, c0', b, o, hvs, h1, h2, hix, hlt', hcell, -⟩ := h.1.open_n layA elA n hn
  subst hvs
  have HC := Lib.hid hcell
  have HLT := Lib.hid hlt'
  have HIX := Lib.hid hix
  obtain ⟨b0, hb0'⟩ : ∃ b, aright (accD l) = b := ⟨_, rfl⟩
  obtain ⟨b1, hb1'⟩ : ∃ b, aone (entA id c) = b := ⟨_, rfl⟩
  rw [hb0'] at C1
  rw [hb1'] at C2
  obtain ⟨E, hEE⟩ : ∃ E, entE (accD l) id c = E := ⟨_, rfl⟩
  obtain ⟨L, hL⟩ : ∃ L, entL (accD l) id c = L := ⟨_, rfl⟩
  have HE : Hid (E = if b0 = false ∨ b1 = false then 2 else if aix (accD l) id ≠ l.length then 40 else if l.length = 4096 then 3 else 0) := by
    show _ = _
    rw [← hEE, ← hb0', ← hb1']
    unfold entE
    rw [accD_len]
  have HL : Hid (L = if E = 0 then ains (accD l) (entA id c) else []) := by show _ = _; rw [← hL, ← hEE]; rfl
  have HR0 := Lib.hid hb0'
  rw [hEE, hL]
  obtain ⟨s0, s1, s2⟩ := HQX.out W (Below.refl _ _)
  clear h hn hb0' hb1' hEE hL hx hxA hx1 hxid hxV hxcs hsp hr0 hr00 hb0W hb00 hb0 hid hc hcell hlt' hix hac
  go_enter Try.func28, Try.ntmps28
  go_wp2_with fail
  refine C1.out.mono ?_
  rintro e w2 ⟨rfl, hb2⟩
  have HB2W := Lib.hid hb2
  have HB2 := Lib.hid (HB0.out.trans (hb2.mono HB0.out.size))
  clear s0 s1 s2
  obtain ⟨s0, s1, s2⟩ := HQX.out w2 hb2
  clear hb2 C1
  have HBAD : Hid (E ≠ 0 → L = []) := fun h => by rw [HL.out, if_neg h]
  cases b0 with
  | false =>
    have HEE : Hid (E = 2) := by show _ = _; rw [HE.out]; rfl
    go_wp2
    go_ret2
    exact ⟨.slice none 0 0, [], by rw [HEE.out]; rfl, acs_nil _, by rw [HBAD.out (by rw [HEE.out]; decide)]; rfl, HB2.out⟩
  | true =>
  go_wp2_with fail
  refine (C2.out w2 HB2W.out).mono ?_
  rintro e w3 ⟨rfl, hb3⟩
  have B3W : Below W.heap.size W w3 := HB2W.out.trans ((bw_al (Below.refl _ _) _ |>.trans (hb3.mono (by simp))).mono HB2W.out.size)
  have HB3W := Lib.hid B3W
  have HB3 := Lib.hid (HB0.out.trans (B3W.mono HB0.out.size))
  clear s0 s1 s2 B3W
  obtain ⟨s0, s1, s2⟩ := HQX.out w3 HB3W.out
  clear hb3 C2
  cases b1 with
  | false =>
    have HEE : Hid (E = 2) := by show _ = _; rw [HE.out]; rfl
    go_wp2
    go_ret2
    exact ⟨.slice none 0 0, [], by rw [HEE.out]; rfl, acs_nil _, by rw [HBAD.out (by rw [HEE.out]; decide)]; rfl, HB3.out⟩
  | true =>
  have HE2 : Hid (E = if aix (accD l) id ≠ l.length then 40 else if l.length = 4096 then 3 else 0) := by show _ = _; rw [HE.out]; simp
  go_wp2_with fail
  refine (C4.out w3 HB3.out).mono ?_
  rintro e w4 ⟨r, hr, rfl, rfl⟩
  have hax := hr.aix
  have hn4 : l.length ≤ 4096 := by have := (aright_up HR0.out).2.2; rwa [accD_len] at this
  cases r with
  | some i =>
    have HEE : Hid (E = 40) := by
      obtain ⟨⟨y, hy, -⟩, -⟩ := hr
      have := (List.getElem?_eq_some_iff.1 hy).1
      show _ = _
      rw [HE2.out, hax, if_pos (by show i ≠ _; omega)]
    have ea : aiV (some i) = (i : Int) := rfl
    rw [ea]
    clear hax hr hn4
    go_wp2
    go_ret2
    exact ⟨.slice none 0 0, [], by rw [HEE.out]; rfl, acs_nil _, by rw [HBAD.out (by rw [HEE.out]; decide)]; rfl, HB3.out⟩
  | none =>
    have ea : aiV none = (-1 : Int) := rfl
    rw [ea]
    have hno : ANo l id l.length := hr
    have HE3 : Hid (E = if n = 4096 then 3 else 0) := by show _ = _; rw [HE2.out, hax, if_neg (by simp), HN.out]
    by_cases hfull : n = 4096
    · have e5 : ¬ (n : Int) < 4096 := by omega
      have HEE : Hid (E = 3) := by show _ = _; rw [HE3.out, if_pos hfull]
      clear hfull hn4 hax hr hno
      go_wp2
      go_ret2
      exact ⟨.slice none 0 0, [], by rw [HEE.out]; rfl, acs_nil _, by rw [HBAD.out (by rw [HEE.out]; decide)]; rfl, HB3.out⟩
    · have e5 : (n : Int) < 4096 := by have := HN.out; omega
      have HEE : Hid (E = 0) := by show _ = _; rw [HE3.out, if_neg hfull]
      obtain ⟨i0, hpl⟩ := placeIs_ex l id
      have HLL : Hid (L = accD (l.take i0 ++ x :: l.drop i0)) := by
        show _ = _
        rw [HL.out, if_pos HEE.out, PlaceIs.ains (x := x) (by rw [HXID.out]; exact hpl), HX1.out]
      have HALL : Hid (∀ (V : World) (v : Value), Gs 3 csA V v (l.take i0 ++ x :: l.drop i0) → Below W.heap.size W V → Acs V v (l.take i0 ++ x :: l.drop i0)) := fun V v hg hV => ⟨hg, fun y hy => by
        rw [List.mem_append, List.mem_cons] at hy
        rcases hy with hy | rfl | hy
        · exact (HH.out.below (HB0.out.trans (hV.mono HB0.out.size))).2 y (List.mem_of_mem_take hy)
        · exact HXV.out.below hV
        · exact (HH.out.below (HB0.out.trans (hV.mono HB0.out.size))).2 y (List.mem_of_mem_drop hy)⟩
      have HSL : Hid ((l.take i0 ++ x :: l.drop i0).length = n + 1) := by
        show _ = _
        have := hpl.le
        have := HN.out
        rw [List.length_append, List.length_take, List.length_cons, List.length_drop]; omega
      have HLO : Hid (∀ k y, l[k]? = some y → k < i0 → (l.take i0 ++ x :: l.drop i0)[k]? = some y ∧ ¬ id < y.1.id) := fun k y hy hk => ⟨ins_lo hy hk, by have := hpl.lo k y hk hy; omega⟩
      have HAT : Hid ((l.take i0 ++ x :: l.drop i0)[i0]? = some x) := ins_at hpl.le
      have HHI : Hid (∀ k y, l[k]? = some y → i0 ≤ k → (l.take i0 ++ x :: l.drop i0)[k + 1]? = some y) := fun k y hy hk => ins_hi hy hk
      have HGT : Hid (∀ y, l[i0]? = some y → id < y.1.id) := fun y hy => by
        have h1 := hpl.hi y hy
        have h2 := hno i0 y (List.getElem?_eq_some_iff.1 hy).1 hy
        omega
      have HI0 : Hid (i0 ≤ n) := by show _ ≤ _; rw [← HN.out]; exact hpl.le
      obtain ⟨R, hR⟩ : ∃ R, l.take i0 ++ x :: l.drop i0 = R := ⟨_, rfl⟩
      rw [hR] at HLL HALL HSL HLO HAT HHI
      have HN4 : Hid (n ≤ 100000) := by show _ ≤ _; have := HN.out; omega
      have hn63 : n ≤ 9223372036854775807 := by have := HN4.out; omega
      clear hfull hn4 HE HE2 HE3 hax hr hno hpl hR C4
      go_wp2_with fail
      go_loopw [9, 10, 11] (fun vo vp vi wr => ∃ k : Nat, k ≤ n ∧ vi = .int .i64 k ∧ vp = .bool (decide (i0 < k)) ∧ Hid (Gw 3 csA wr W.heap.size 43 vo (R.take (k + (if i0 < k then 1 else 0)))) ∧ Hid (Below W.heap.size W wr)) (fun _ _ vi _ => n - (intOf vi).toNat)
      case atStart => exact ⟨0, by omega, rfl, by simp, by rw [if_neg (Nat.not_lt_zero _)]; exact Gw.nil _ _ _, HB3W.out⟩
      case round =>
        obtain ⟨k, hk, rfl, rfl, HO, HBR⟩ := hrel
        obtain ⟨m, hm⟩ : ∃ m, k + (if i0 < k then 1 else 0) = m := ⟨_, rfl⟩
        rw [hm] at HO
        have hmn : m ≤ n + 1 := by rw [← hm]; split <;> omega
        have HTL : Hid ((R.take m).length = m) := by show _ = _; rw [List.length_take, HSL.out]; omega
        obtain ⟨oa, oc, hos⟩ := HO.out.gs.shape
        rw [HTL.out] at hos
        subst hos
        have HM1 : Hid (m ≤ 100001) := by show _ ≤ _; have := HN4.out; omega
        have HTK : Hid (∀ (j : Nat) (z : AcX), R[j]? = some z → R.take (j + 1) = R.take j ++ [z]) := fun j z hz => take_next hz
        obtain ⟨z0, z1, z2⟩ := HQX.out wr HBR.out
        by_cases hlt : k < n
        · have e2 : (k : Int) < n := by omega
          have hixk := fun W => HIX.out W k hlt
          obtain ⟨y, hy⟩ : ∃ s, l[k]? = some s := ⟨_, List.getElem?_eq_getElem (by have := HN.out; omega)⟩
          have hbl := HLT.out k hlt
          have m0 := HC.out k y hy 0 _ rfl
          have m1 := HC.out k y hy 1 _ rfl
          have m2 := HC.out k y hy 2 _ rfl
          rw [Nat.add_zero] at m0
          have hlo := HLO.out k y hy
          have hhi := HHI.out k y hy
          have hgt : k = i0 → id < y.1.id := fun h => HGT.out y (h ▸ hy)
          have HLYY := Lib.hid (fun V => lit_acct V y)
          obtain ⟨⟨yid, ybl, ysp⟩, ⟨ya, yn, yc⟩⟩ := y
          unfold Sl3.v at m2 HLYY
          simp only at m0 m1 m2 HLYY hlo hgt
          have HLY : Hid (∀ V : World, Gs 3 csA (V.alloc (.cells #[.int .i64 yid, .int .i64 ybl, .slice ya yn yc] 43)) (.slice (some ⟨V.heap.size, 0, none⟩) 1 1) [((⟨yid, ybl, ysp⟩, (ya, yn, yc)) : AcX)]) := HLYY
          have HM := Lib.hid (fun (V : World) (hV : Below W.heap.size W V) => And.intro (((HB0.out.trans (hV.mono HB0.out.size)).cell hbl).trans m0) (And.intro (((HB0.out.trans (hV.mono HB0.out.size)).cell hbl).trans m1) (((HB0.out.trans (hV.mono HB0.out.size)).cell hbl).trans m2)))
          have HLTK := Lib.hid hlt
          have HAL : Hid (∀ (V : World), Below W.heap.size W V → ∀ ob, Below W.heap.size W (V.alloc ob)) := fun V hV ob => bw_al hV ob
          clear m0 m1 m2 hy hbl HLYY
          rcases Nat.lt_trichotomy k i0 with hki | hki | hki
          · obtain ⟨hR, e4⟩ := hlo hki
            obtain rfl : k = m := by rw [← hm, if_neg (by omega)]; rfl
            have hd : decide (i0 < k) = false := decide_eq_false (by omega)
            rw [hd]
            obtain ⟨m0, m1, m2⟩ := HM.out wr HBR.out
            have HNX : Hid (R.take (k + 1) = R.take k ++ [((⟨yid, ybl, ysp⟩, (ya, yn, yc)) : AcX)]) := HTK.out k _ hR
            have HIF : Hid (k + 1 + (if i0 < k + 1 then 1 else 0) = k + 1) := by show _ = _; rw [if_neg (by omega)]
            have HDD : Hid (decide (i0 < k + 1) = false) := decide_eq_false (by omega)
            clear hR hlo hhi hgt hm hd hki hlt
            go_wp2_with (at_builtin; go_must (refine wpList_append_gs layA (HO.out.below (bw_al (Below.refl _ _) _)) (HLY.out _) elA (by rw [HTL.out]; have := HM1.out; simp; omega) (by rw [HTL.out]; have := HM1.out; simp; omega) (bw_al HBR.out _).size ?_ _ _ rfl rfl rfl rfl); intro v5 w5 ho5 hg5 hb5 _; have HO5 := Lib.hid ho5; have HG5 := Lib.hid hb5; clear ho5 hg5 hb5)
            have HF : Hid (Gw 3 csA w5 W.heap.size 43 v5 (R.take (k + 1 + (if i0 < k + 1 then 1 else 0)))) := by rw [HIF.out, HNX.out]; exact HO5.out
            have HBF : Hid (Below W.heap.size W w5) := (HAL.out wr HBR.out _).trans HG5.out
            go_wp2
            go_roundw
            case rel => exact ⟨k + 1, by have := HLTK.out; omega, by go_num, by rw [HDD.out], HF, HBF⟩
            case measure => simp [intOf]; have := HLTK.out; omega
          · have hR1 : R[k]? = some x := by rw [hki]; exact HAT.out
            have hR2 := hhi (by omega)
            have e4 := hgt hki
            obtain rfl : k = m := by rw [← hm, if_neg (by omega)]; rfl
            have hd : decide (i0 < k) = false := decide_eq_false (by omega)
            rw [hd]
            have HNX : Hid (R.take (k + 1 + 1) = (R.take k ++ [x]) ++ [((⟨yid, ybl, ysp⟩, (ya, yn, yc)) : AcX)]) := by show _ = _; rw [HTK.out (k + 1) _ hR2, HTK.out k _ hR1]
            have HIF : Hid (k + 1 + (if i0 < k + 1 then 1 else 0) = k + 1 + 1) := by show _ = _; rw [if_pos (by omega)]
            have HDD : Hid (decide (i0 < k + 1) = true) := decide_eq_true (by omega)
            have HTX : Hid ((R.take k ++ [x]).length = k + 1) := by show _ = _; rw [List.length_append, HTL.out]; rfl
            obtain ⟨m0, m1, m2⟩ := HM.out wr HBR.out
            clear hR1 hR2 hlo hhi hgt hm hd hki hlt
            go_upto_region 15 with (at_builtin; go_must (refine wpList_append_gs layA (HO.out.below (bw_al (Below.refl _ _) _)) (HLIT.out _) elA (by rw [HTL.out]; have := HM1.out; simp; omega) (by rw [HTL.out]; have := HM1.out; simp; omega) (bw_al HBR.out _).size ?_ _ _ rfl rfl rfl rfl); intro v5 w5 ho5 hg5 hb5 _; obtain ⟨a5, c5, hs5⟩ := ho5.gs.shape; obtain ⟨t5, ht5⟩ : ∃ t, (R.take k ++ [x]).length = t := ⟨_, rfl⟩; rw [ht5] at hs5; subst hs5; have HO5 := Lib.hid ho5; have HB5 : Hid (Below W.heap.size W w5) := (HAL.out wr HBR.out _).trans hb5; have HT5 := Lib.hid ht5; clear ho5 hg5 hb5 ht5)
            clear m0 m1 m2
            obtain ⟨m0, m1, m2⟩ := HM.out w5 HB5.out
            go_wp2_with (at_builtin; go_must (refine wpList_append_gs layA (HO5.out.below (bw_al (Below.refl _ _) _)) (HLY.out _) elA (by rw [HTX.out]; have := HM1.out; simp; omega) (by rw [HTX.out]; have := HM1.out; simp; omega) (bw_al HB5.out _).size ?_ _ _ rfl rfl rfl rfl); intro v6 w6 ho6 hg6 hb6 _; have HO6 := Lib.hid ho6; have HG6 := Lib.hid hb6; clear ho6 hg6 hb6)
            have HF : Hid (Gw 3 csA w6 W.heap.size 43 v6 (R.take (k + 1 + (if i0 < k + 1 then 1 else 0)))) := by rw [HIF.out, HNX.out]; exact HO6.out
            have HBF : Hid (Below W.heap.size W w6) := (HAL.out w5 HB5.out _).trans HG6.out
            go_wp2
            go_roundw
            case rel => exact ⟨k + 1, by have := HLTK.out; omega, by go_num, by rw [HDD.out], HF, HBF⟩
            case measure => simp [intOf]; have := HLTK.out; omega
          · have hR := hhi (by omega)
            obtain rfl : k + 1 = m := by rw [← hm, if_pos hki]
            have hd : decide (i0 < k) = true := decide_eq_true hki
            rw [hd]
            obtain ⟨m0, m1, m2⟩ := HM.out wr HBR.out
            have HNX : Hid (R.take (k + 1 + 1) = R.take (k + 1) ++ [((⟨yid, ybl, ysp⟩, (ya, yn, yc)) : AcX)]) := HTK.out (k + 1) _ hR
            have HIF : Hid (k + 1 + (if i0 < k + 1 then 1 else 0) = k + 1 + 1) := by show _ = _; rw [if_pos (by omega)]
            have HDD : Hid (decide (i0 < k + 1) = true) := decide_eq_true (by omega)
            obtain ⟨k1, hk1⟩ : ∃ q, k + 1 = q := ⟨_, rfl⟩
            rw [hk1] at HO HTL HNX
            have HK1 := Lib.hid hk1
            rw [hk1] at HM1
            clear hR hlo hhi hgt hm hd hki hlt
            rw [hk1]
            clear hk1
            go_wp2_with (at_builtin; go_must (refine wpList_append_gs layA (HO.out.below (bw_al (Below.refl _ _) _)) (HLY.out _) elA (by rw [HTL.out]; have := HM1.out; simp; omega) (by rw [HTL.out]; have := HM1.out; simp; omega) (bw_al HBR.out _).size ?_ _ _ rfl rfl rfl rfl); intro v5 w5 ho5 hg5 hb5 _; have HO5 := Lib.hid ho5; have HG5 := Lib.hid hb5; clear ho5 hg5 hb5)
            have HF : Hid (Gw 3 csA w5 W.heap.size 43 v5 (R.take (k + 1 + (if i0 < k + 1 then 1 else 0)))) := by rw [HIF.out, HK1.out, HNX.out]; exact HO5.out
            have HBF : Hid (Below W.heap.size W w5) := (HAL.out wr HBR.out _).trans HG5.out
            go_wp2
            go_roundw
            case rel => exact ⟨k + 1, by have := HLTK.out; omega, by go_num, by rw [HDD.out], HF, HBF⟩
            case measure => simp [intOf]; have := HLTK.out; omega
        · obtain rfl : k = n := by omega
          have e2 : ¬ (k : Int) < k := by omega
          by_cases hki : i0 < k
          · obtain rfl : k + 1 = m := by rw [← hm, if_pos hki]
            have hd : decide (i0 < k) = true := decide_eq_true hki
            rw [hd]
            have HT : Hid (R.take (k + 1) = R) := List.take_of_length_le (by rw [HSL.out]; exact Nat.le_refl _)
            clear hm hd hki hlt
            go_wp2
            go_ret2
            exact ⟨_, by rw [HEE.out]; rfl, R, HALL.out _ _ (by rw [← HT.out]; exact HO.out.gs) HBR.out, HLL.out.symm, by rw [← HQ.out]; exact HB0.out.trans (HBR.out.mono HB0.out.size)⟩
          · have hd : decide (i0 < k) = false := decide_eq_false hki
            rw [hd]
            obtain rfl : k = m := by rw [← hm, if_neg hki]; rfl
            obtain rfl : i0 = k := by have := HI0.out; omega
            have HT : Hid (R.take i0 ++ [x] = R) := by
              show _ = _
              rw [← HTK.out i0 x HAT.out]
              exact List.take_of_length_le (by rw [HSL.out]; exact Nat.le_refl _)
            clear hm hd hki hlt
            go_wp2_with (at_builtin; go_must (refine wpList_append_gs layA (HO.out.below (bw_al (Below.refl _ _) _)) (HLIT.out _) elA (by rw [HTL.out]; have := HM1.out; simp; omega) (by rw [HTL.out]; have := HM1.out; simp; omega) (bw_al HBR.out _).size ?_ _ _ rfl rfl rfl rfl); intro v5 w5 ho5 hg5 hb5 _; have HO5 := Lib.hid ho5; have HG5 := Lib.hid hb5; clear ho5 hg5 hb5)
            go_ret2
            have hbf : Below W.heap.size W w5 := (bw_al HBR.out _).trans HG5.out
            exact ⟨_, by rw [HEE.out]; rfl, R, HALL.out _ _ (by rw [← HT.out]; exact HO5.out.gs) hbf, HLL.out.symm, by rw [← HQ.out]; exact HB0.out.trans (hbf.mono HB0.out.size)⟩
end Go.Proofs.Ytjnbdeopoohnmaa
