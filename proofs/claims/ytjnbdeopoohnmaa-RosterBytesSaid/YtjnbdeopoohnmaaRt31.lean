/- Layer 56 (roster): Put. -/
import Derived.Test.YtjnbdeopoohnmaaRt30
import Derived.Test.YtjnbdeopoohnmaaRt2
import Derived.Test.YtjnbdeopoohnmaaWriter
import Derived.Deep.RegionLaw
import Derived.Deep.DeepCutAuto
import Derived.Deep.CutBlock
import Derived.Lib.QuietBelow
set_option linter.unusedSimpArgs false
namespace Go.Proofs.Ytjnbdeopoohnmaa
open Go.RowKit Go.Sort

/-- a writer at work -/
def RPL (W4 : World) (l : List UInt8) (wr : World) : Prop := ∃ v, Wr wr W4.heap.size W4.heap.size v l ∧ Below W4.heap.size W4 wr
/-- rows that are no writer's stay -/
def RowsKept (w w' : World) : Prop := ∀ (p T : Nat) (A : Array Value), T ≠ 96 → T ≠ 5 → w.heap[p]? = some (.cells A T (0, 0)) → w'.heap[p]? = some (.cells A T (0, 0))
theorem rp_wrote {W4 wr w' : World} {l m : List UInt8} {v : Value} (hw : Wr wr W4.heap.size W4.heap.size v l) (hb : Below W4.heap.size W4 wr) (h : ∃ v', Wrote wr W4.heap.size W4.heap.size v l m v' w') : RPL W4 (l ++ m) w' ∧ RowsKept wr w' := by
  obtain ⟨v', h⟩ := h
  refine ⟨⟨v', h.wr, hb.trans (h.bel hw hb.size)⟩, fun p T A h1 h2 hr => ?_⟩
  refine (h.only.block p (heap_lt hr) ?_).trans hr
  rintro (rfl | hk)
  · rw [hw.cell] at hr
    simp at hr
    exact h1 hr.2.symm
  · exact hw.own.ne hr h2 hk
theorem RPL.below {W4 wr w' : World} {l : List UInt8} (h : RPL W4 l wr) (hb : Below wr.heap.size wr w') : RPL W4 l w' := by
  obtain ⟨v, hw, hb0⟩ := h
  exact ⟨v, hw.below hb, hb0.trans (hb.mono hb0.size)⟩
theorem rp_num (x : Int) (h1 : -9223372036854775808 ≤ x) (h2 : x ≤ 9223372036854775807) (W4 : World) (l : List UInt8) (wr : World) (h : RPL W4 l wr) (hl : l.length ≤ 10000000) :
    Calls Try.prog 65 #[.pointer (some ⟨W4.heap.size, 0, none⟩), .int .i64 x] wr fun e w' => e = .returned (.tuple #[]) ∧ RPL W4 (l ++ vput x.toNat) w' ∧ RowsKept wr w' := by
  obtain ⟨v, hw, hb⟩ := h
  refine (wNumber_any x h1 h2 W4.heap.size v l W4.heap.size wr hw hb.size (by omega)).mono ?_
  rintro e w' ⟨rfl, h⟩
  exact ⟨rfl, rp_wrote hw hb h⟩
theorem rp_sig (x : Int) (h1 : -9223372036854775808 ≤ x) (h2 : x ≤ 9223372036854775807) (W4 : World) (l : List UInt8) (wr : World) (h : RPL W4 l wr) (hl : l.length ≤ 10000000) :
    Calls Try.prog 66 #[.pointer (some ⟨W4.heap.size, 0, none⟩), .int .i64 x] wr fun e w' => e = .returned (.tuple #[]) ∧ RPL W4 (l ++ vput (vturn x).toNat) w' ∧ RowsKept wr w' := by
  obtain ⟨v, hw, hb⟩ := h
  refine (wSigned_any x h1 h2 W4.heap.size v l W4.heap.size wr hw hb.size (by omega)).mono ?_
  rintro e w' ⟨rfl, h⟩
  exact ⟨rfl, rp_wrote hw hb h⟩
theorem rp_out (W4 : World) (l : List UInt8) (wr : World) (h : RPL W4 l wr) (hl : l.length ≤ 10000000) :
    Calls Try.prog 67 #[.pointer (some ⟨W4.heap.size, 0, none⟩)] wr fun e w' => ∃ v2, e = .returned v2 ∧ Bs w' v2 l ∧ Below W4.heap.size W4 w' := by
  obtain ⟨v, hw, hb⟩ := h
  refine (wOut_any W4.heap.size v l W4.heap.size wr hw (by omega)).mono ?_
  rintro e w' ⟨v2, rfl, h, hb2⟩
  exact ⟨v2, rfl, h.bs, hb.trans (hb2.mono hb.size)⟩

def RPutPost (D : List AcD) (w : World) (e : Ending) (w' : World) : Prop :=
  if aright D then ∃ v, e = .returned (.tuple #[v, .int .i64 0]) ∧ Bs w' v (rosB D) ∧ Below w.heap.size w w'
  else e = .returned (.tuple #[.slice none 0 0, .int .i64 2]) ∧ Below w.heap.size w w'

set_option maxRecDepth 100000 in
set_option maxHeartbeats 1600000 in
theorem rtPut_any (v : Value) (l : List AcX) (w : World) (h : Acs w v l) : Calls Try.prog 35 #[v] w (RPutPost (accD l) w) := by
  unfold RPutPost
  obtain ⟨n, hn⟩ : ∃ n, l.length = n := ⟨_, rfl⟩
  have C1 := Lib.hid (rtRight_any v l w h)
  obtain ⟨a, c, b, o, rfl, h1, h2, hix, hlt', hcell, -⟩ := h.1.open_n layA elA n hn
  have HC := Lib.hid hcell
  have HN := Lib.hid hn
  have HLT := Lib.hid hlt'
  have HIX := Lib.hid hix
  have HX := Lib.hid h.2
  obtain ⟨R, hR⟩ : ∃ R, aright (accD l) = R := ⟨_, rfl⟩
  rw [hR] at C1 ⊢
  have HRR := Lib.hid hR
  clear h hn hcell hlt' hix hR
  go_enter Try.func35, Try.ntmps35
  go_wp2_with fail
  refine C1.out.mono ?_
  rintro e w4 ⟨rfl, hb4⟩
  have HB4 := Lib.hid hb4
  clear hb4 C1
  cases R with
  | false =>
    simp only [Bool.false_eq_true, if_false]
    go_wp2
    go_ret2
    exact ⟨rfl, HB4.out⟩
  | true =>
    simp only [if_true]
    obtain ⟨-, hall, hlen⟩ := aright_up HRR.out
    have HALL := Lib.hid hall
    have hn4 : n ≤ 4096 := by rw [accD_len, HN.out] at hlen; exact hlen
    have HBY : Hid (rosB (accD l) = vput n ++ (accD l).flatMap acB) := by show _ = _; unfold rosB; rw [accD_len, HN.out]
    obtain ⟨W5, hW5⟩ : ∃ V, w4.alloc (.cells #[.slice none 0 0] 96) = V := ⟨_, rfl⟩
    have hwr0 : Wr W5 w4.heap.size w4.heap.size (.slice none 0 0) [] := ⟨Nat.le_refl _, by rw [← hW5]; exact heap_alloc_new _ _, Ob.nil _ _ _⟩
    have hb5 : Below w4.heap.size w4 W5 := by rw [← hW5]; exact (Below.refl _ _).alloc (Nat.le_refl _) _
    have CN0 := Lib.hid (rp_num (n : Int) (by omega) (by omega) w4 [] W5 ⟨_, hwr0, hb5⟩ (by simp))
    obtain ⟨g, hg⟩ : ∃ g, w4.heap.size = g := ⟨_, rfl⟩
    rw [hg] at CN0
    have HG := Lib.hid hg
    have HPN : Hid (∀ (x : Int) (l : List UInt8) (wr : World), RPL w4 l wr → l.length ≤ 10000000 → -9223372036854775808 ≤ x → x ≤ 9223372036854775807 → Calls Try.prog 65 #[.pointer (some ⟨g, 0, none⟩), .int .i64 x] wr fun e w' => e = .returned (.tuple #[]) ∧ RPL w4 (l ++ vput x.toNat) w' ∧ RowsKept wr w') := fun x l wr h hl h1 h2 => by rw [← hg]; exact rp_num x h1 h2 w4 l wr h hl
    have HPS : Hid (∀ (x : Int) (l : List UInt8) (wr : World), RPL w4 l wr → l.length ≤ 10000000 → -9223372036854775808 ≤ x → x ≤ 9223372036854775807 → Calls Try.prog 66 #[.pointer (some ⟨g, 0, none⟩), .int .i64 x] wr fun e w' => e = .returned (.tuple #[]) ∧ RPL w4 (l ++ vput (vturn x).toNat) w' ∧ RowsKept wr w') := fun x l wr h hl h1 h2 => by rw [← hg]; exact rp_sig x h1 h2 w4 l wr h hl
    have HPO : Hid (∀ (l : List UInt8) (wr : World), RPL w4 l wr → l.length ≤ 10000000 → Calls Try.prog 67 #[.pointer (some ⟨g, 0, none⟩)] wr fun e w' => ∃ v2, e = .returned v2 ∧ Bs w' v2 l ∧ Below w4.heap.size w4 w') := fun l wr h hl => by rw [← hg]; exact rp_out w4 l wr h hl
    have HBV : Hid (∀ V, (∃ l, RPL w4 l V) → Below w.heap.size w V) := fun V ⟨l, v, h1, h2⟩ => HB4.out.trans (h2.mono HB4.out.size)
    have HAC : Hid (∀ k, k ≤ n → (((accD l).take k).flatMap acB).length ≤ 5000000) := fun k hk => by
      have h1 := acsB_len (D := (accD l).take k) (fun a ha => HALL.out a (List.mem_of_mem_take ha))
      rw [List.length_take] at h1
      show _ ≤ _
      omega
    clear hall hlen hwr0 hb5
    go_wp2_with fail
    refine CN0.out.mono ?_
    rintro e w6 ⟨rfl, hp6, -⟩
    rw [List.nil_append, show ((n : Int)).toNat = n by omega] at hp6
    have HP6 := Lib.hid hp6
    have hvn := vput_len10 n (by omega)
    have HVN := Lib.hid hvn
    clear hp6 CN0 hvn
    go_wp2_with fail
    go_loopg [20] n (fun qq vi wr => ∃ k : Nat, qq = n - k ∧ k ≤ n ∧ vi = .int .i64 k ∧ Hid (RPL w4 (vput n ++ ((accD l).take k).flatMap acB) wr))
    case atStart => exact ⟨0, by omega, by omega, rfl, by rw [List.take_zero, List.flatMap_nil, List.append_nil]; exact HP6⟩
    case round =>
      obtain ⟨k, rfl, hk, rfl, HP⟩ := hrel
      have HBW : Hid (Below w.heap.size w wr) := HBV.out wr ⟨_, HP.out⟩
      by_cases hlt : k < n
      · have e2 : (k : Int) < n := by omega
        obtain ⟨x, hx⟩ : ∃ s, l[k]? = some s := ⟨_, List.getElem?_eq_getElem (by have := HN.out; omega)⟩
        have m0 := HC.out k x hx 0 _ rfl
        have m1 := HC.out k x hx 1 _ rfl
        have m2 := HC.out k x hx 2 _ rfl
        rw [Nat.add_zero] at m0
        have hbl := HLT.out k hlt
        rw [← HBW.out.cell (by exact hbl)] at m0 m1 m2
        have hixk := fun W => HIX.out W k hlt
        have hxv := HX.out x (List.mem_of_getElem? hx)
        have hone := HALL.out x.1 (List.mem_of_getElem? (accD_get hx))
        have hacn := acsB_next (accD_get hx)
        have hac := HAC.out k hk
        obtain ⟨⟨xid, xbl, xsp⟩, ⟨xa, xn, xc⟩⟩ := x
        unfold Sl3.v at m2
        simp only at m0 m1 m2 hone hacn
        obtain ⟨sa, sc, sb, so, hse, -, hsc2, six, slt, scell, -⟩ := hxv.1.open_n layS elS xsp.length rfl
        unfold Sl3.v at hse
        simp only [Value.slice.injEq] at hse
        obtain ⟨rfl, hxn, rfl⟩ := hse
        rw [← hxn] at six slt
        have HSC : Hid (∀ V : World, Below w.heap.size w V → ∀ i s, xsp[i]? = some s → V.cell? ⟨sb, so i, none⟩ = some (.int .i64 s.1) ∧ V.cell? ⟨sb, so i + 1, none⟩ = some (.int .i64 s.2)) := fun V hV i s hi => by
          have hb := slt i (by rw [hxn]; exact (List.getElem?_eq_some_iff.1 hi).1)
          exact ⟨(hV.cell hb).trans (scell i s hi 0 _ rfl), (hV.cell hb).trans (scell i s hi 1 _ rfl)⟩
        have HSX := Lib.hid six
        have HNS : Hid (xsp.length = xn) := hxn.symm
        have hwf := aone_wf hone
        simp only at hwf
        have hn32 : xn ≤ 32 := by omega
        have HSW := Lib.hid (one_spW hone)
        have HWF := Lib.hid hwf
        obtain ⟨pre, hpre⟩ : ∃ q, vput n ++ ((accD l).take k).flatMap acB = q := ⟨_, rfl⟩
        have hprel : pre.length ≤ 5000010 := by rw [← hpre, List.length_append]; have := HVN.out; omega
        have hfin : vput n ++ ((accD l).take (k + 1)).flatMap acB = (((pre ++ vput xid.toNat) ++ vput (vturn xbl).toNat) ++ vput xn) ++ spsB xsp := by
          rw [hacn, ← List.append_assoc, hpre]
          unfold acB
          simp only [List.append_assoc, hxn]
        rw [hpre] at HP
        have HPREL := Lib.hid hprel
        have HFIN := Lib.hid hfin
        have hv1 := vput_len10 xid.toNat (by omega)
        have hv2 := vput_len10 (vturn xbl).toNat (vturn_bound xbl (by omega) (by omega))
        have hv3 := vput_len10 xn (by omega)
        have HL1 : Hid ((pre ++ vput xid.toNat).length ≤ 5000020) := by show _ ≤ _; rw [List.length_append]; omega
        have HL2 : Hid (((pre ++ vput xid.toNat) ++ vput (vturn xbl).toNat).length ≤ 5000030) := by show _ ≤ _; rw [List.length_append, List.length_append]; omega
        have HL3 : Hid ((((pre ++ vput xid.toNat) ++ vput (vturn xbl).toNat) ++ vput xn).length ≤ 5000040) := by show _ ≤ _; rw [List.length_append, List.length_append, List.length_append]; omega
        have hal : Below wr.heap.size wr (wr.alloc (.cells #[.int .i64 xid, .int .i64 xbl, .slice xa xn xc] 43)) := (Below.refl _ _).alloc (Nat.le_refl _) _
        have hr4 : (wr.alloc (.cells #[.int .i64 xid, .int .i64 xbl, .slice xa xn xc] 43)).heap[wr.heap.size]? = some (.cells #[.int .i64 xid, .int .i64 xbl, .slice xa xn xc] 43 (0, 0)) := heap_alloc_new _ _
        obtain ⟨p, hp⟩ : ∃ p, wr.heap.size = p := ⟨_, rfl⟩
        obtain ⟨V1, hV1⟩ : ∃ V, wr.alloc (.cells #[.int .i64 xid, .int .i64 xbl, .slice xa xn xc] 43) = V := ⟨_, rfl⟩
        rw [hV1] at hal hr4
        rw [hp] at hr4
        have HPV1 := Lib.hid (HP.out.below hal)
        have HR1 := Lib.hid hr4
        have HLTK := Lib.hid hlt
        obtain ⟨y0, y1, y2⟩ := acct_cells hr4
        have CA := Lib.hid (HPN.out xid pre V1 HPV1.out (by omega) (by omega) (by omega))
        clear hx hbl hxv hone hacn hac six slt scell hwf hpre hprel hfin hv1 hv2 hv3 hal hr4 hlt hxn
        go_wp2_with fail
        refine CA.out.mono ?_
        rintro e w7 ⟨rfl, hp7, hk7⟩
        have HR7 := Lib.hid (hk7 p _ _ (by decide) (by decide) HR1.out)
        have CB := Lib.hid (HPS.out xbl _ w7 hp7 (by have := HL1.out; omega) (by have := HWF.out; omega) (by have := HWF.out; omega))
        clear hp7 hk7 CA y0 y1 y2
        obtain ⟨y0, y1, y2⟩ := acct_cells HR7.out
        go_wp2_with fail
        refine CB.out.mono ?_
        rintro e w8 ⟨rfl, hp8, hk8⟩
        have HR8 := Lib.hid (hk8 p _ _ (by decide) (by decide) HR7.out)
        have CC := Lib.hid (HPN.out (xn : Int) _ w8 hp8 (by have := HL2.out; omega) (by omega) (by omega))
        clear hp8 hk8 CB y0 y1 y2
        obtain ⟨y0, y1, y2⟩ := acct_cells HR8.out
        go_wp2_with fail
        refine CC.out.mono ?_
        rintro e w9 ⟨rfl, hp9, hk9⟩
        rw [show ((xn : Int)).toNat = xn by omega] at hp9
        have HR9 := Lib.hid (hk9 p _ _ (by decide) (by decide) HR8.out)
        have HP9 := Lib.hid hp9
        clear hp9 hk9 CC y0 y1 y2
        obtain ⟨y0, y1, y2⟩ := acct_cells HR9.out
        obtain ⟨hd, hhd⟩ : ∃ q, ((pre ++ vput xid.toNat) ++ vput (vturn xbl).toNat) ++ vput xn = q := ⟨_, rfl⟩
        rw [hhd] at HP9 HFIN HL3
        clear hhd
        go_wp2_with fail
        go_loopg [40] xn (fun qq vi wr => ∃ j : Nat, qq = xn - j ∧ j ≤ xn ∧ vi = .int .i64 j ∧ Hid (RPL w4 (hd ++ spsB (xsp.take j)) wr))
        case atStart => exact ⟨0, by omega, by omega, rfl, by rw [List.take_zero]; show RPL w4 (hd ++ spsB []) w9; rw [show spsB [] = [] from rfl, List.append_nil]; exact HP9.out⟩
        case round =>
          obtain ⟨j, rfl, hj, rfl, HQ⟩ := hrel
          clear y0 y1 y2
          have HBW2 : Hid (Below w.heap.size w wr) := HBV.out wr ⟨_, HQ.out⟩
          by_cases hlt : j < xn
          · have e3 : (j : Int) < xn := by omega
            obtain ⟨s, hs⟩ : ∃ s, xsp[j]? = some s := ⟨_, List.getElem?_eq_getElem (by rw [HNS.out]; exact hlt)⟩
            obtain ⟨s0, s1⟩ := HSC.out wr HBW2.out j s hs
            have hixs := fun W => HSX.out W j hlt
            have hsw := HSW.out s (List.mem_of_getElem? hs)
            have hnx := spsB_next hs
            have hln := spsB_len (l := xsp.take j) (fun t ht => HSW.out t (List.mem_of_mem_take ht))
            rw [List.length_take] at hln
            unfold spW at hsw
            simp only [Bool.and_eq_true, decide_eq_true_eq] at hsw
            obtain ⟨st, su⟩ := s
            simp only at s0 s1 hsw hnx
            have hv1 := vput_len10 st.toNat (by omega)
            have HLA : Hid ((hd ++ spsB (xsp.take j)).length ≤ 5001000) := by show _ ≤ _; rw [List.length_append]; have := HL3.out; omega
            have HLB : Hid (((hd ++ spsB (xsp.take j)) ++ vput st.toNat).length ≤ 5002000) := by show _ ≤ _; rw [List.length_append]; have := HLA.out; omega
            have hal : Below wr.heap.size wr (wr.alloc (.cells #[.int .i64 st, .int .i64 su] 49)) := (Below.refl _ _).alloc (Nat.le_refl _) _
            have hr9 : (wr.alloc (.cells #[.int .i64 st, .int .i64 su] 49)).heap[wr.heap.size]? = some (.cells #[.int .i64 st, .int .i64 su] 49 (0, 0)) := heap_alloc_new _ _
            obtain ⟨p3, hp3⟩ : ∃ p, wr.heap.size = p := ⟨_, rfl⟩
            obtain ⟨V9, hV9⟩ : ∃ V, wr.alloc (.cells #[.int .i64 st, .int .i64 su] 49) = V := ⟨_, rfl⟩
            rw [hV9] at hal hr9
            rw [hp3] at hr9
            have HR3 := Lib.hid hr9
            have HLTJ := Lib.hid hlt
            have HF : Hid (hd ++ spsB (xsp.take (j + 1)) = ((hd ++ spsB (xsp.take j)) ++ vput st.toNat) ++ vput su.toNat) := by show _ = _; rw [hnx]; unfold spB; simp only [List.append_assoc]
            have CD := Lib.hid (HPN.out st _ V9 (HQ.out.below hal) (by have := HLA.out; omega) (by omega) (by omega))
            have HSU : Hid (0 ≤ su ∧ su ≤ 15) := hsw.2
            obtain ⟨g0, g1⟩ := spell_cells hr9
            clear hs hsw hnx hln hv1 hal hr9 hlt
            go_wp2_with fail
            refine CD.out.mono ?_
            rintro e w10 ⟨rfl, hp10, hk10⟩
            have HR10 := Lib.hid (hk10 p3 _ _ (by decide) (by decide) HR3.out)
            have CE := Lib.hid (HPN.out su _ w10 hp10 (by have := HLB.out; omega) (by have := HSU.out; omega) (by have := HSU.out; omega))
            clear hp10 hk10 CD g0 g1
            obtain ⟨g0, g1⟩ := spell_cells HR10.out
            go_wp2_with fail
            refine CE.out.mono ?_
            rintro e w11 ⟨rfl, hp11, -⟩
            have HP11 : Hid (RPL w4 (hd ++ spsB (xsp.take (j + 1))) w11) := by rw [HF.out]; exact hp11
            clear hp11 CE g0 g1
            go_wp2
            go_roundg (xn - (j + 1))
            case rel => exact ⟨j + 1, rfl, by have := HLTJ.out; omega, by go_num, HP11⟩
            case measure => have := HLTJ.out; omega
          · obtain rfl : j = xn := by omega
            have e3 : ¬ (j : Int) < j := by omega
            have HP11 : Hid (RPL w4 (vput n ++ ((accD l).take (k + 1)).flatMap acB) wr) := by
              rw [HFIN.out]
              have := HQ.out
              rwa [List.take_of_length_le (by rw [HNS.out]; exact Nat.le_refl _)] at this
            go_wp2
            go_roundg (n - (k + 1))
            case rel => exact ⟨k + 1, rfl, by have := HLTK.out; omega, by go_num, HP11⟩
            case measure => have := HLTK.out; omega
      · obtain rfl : k = n := by omega
        have e2 : ¬ (k : Int) < k := by omega
        have hT : vput k ++ ((accD l).take k).flatMap acB = rosB (accD l) := by rw [HBY.out, List.take_of_length_le (by rw [accD_len, HN.out]; exact Nat.le_refl _)]
        have hac := HAC.out k (Nat.le_refl _)
        have CO := Lib.hid (HPO.out _ wr HP.out (by rw [List.length_append]; have := HVN.out; omega))
        rw [hT] at CO
        clear hT hac
        go_wp2_with fail
        refine CO.out.mono ?_
        rintro e w12 ⟨v12, rfl, hb12, hB12⟩
        have HO := Lib.hid hb12
        have HB12 := Lib.hid (HB4.out.trans (hB12.mono HB4.out.size))
        clear hb12 hB12 CO
        go_wp2
        go_ret2
        exact ⟨_, rfl, HO.out, HB12.out⟩
end Go.Proofs.Ytjnbdeopoohnmaa
