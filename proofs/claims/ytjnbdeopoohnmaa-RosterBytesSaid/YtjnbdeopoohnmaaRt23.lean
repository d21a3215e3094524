/- Layer 56 (roster): Set of the document. -/
import Derived.Test.YtjnbdeopoohnmaaRt22
import Derived.Test.YtjnbdeopoohnmaaRt21
import Derived.Deep.RegionLaw
import Derived.Deep.DeepCutAuto
import Derived.Deep.CutBlock
import Derived.Lib.QuietBelow
import Derived.Lib.SliceRun
set_option linter.unusedSimpArgs false
namespace Go.Proofs.Ytjnbdeopoohnmaa
open Go.RowKit Go.Sort

theorem lit_spell (w : World) (x : SpT) : Gs 2 csS (w.alloc (.cells #[.int .i64 x.1, .int .i64 x.2] 49)) (.slice (some ⟨w.heap.size, 0, none⟩) 1 1) [x] := (gw_lit layS w 49 #[.int .i64 x.1, .int .i64 x.2] [x] 1 rfl (by decide) rfl).gs

set_option maxRecDepth 100000 in
set_option maxHeartbeats 1600000 in
theorem rrtSet_any (v : Value) (l : List AcX) (id f c : Int) (w : World) (h : Acs w v l) (hl : l.length ≤ 100000) (hf : IW f) (hc : IW c) : Calls Try.prog 29 #[v, .int .i64 id, .int .i64 f, .int .i64 c] w (RosPost w (setL (accD l) id f c) (setR (accD l) id f c)) := by
  unfold RosPost
  obtain ⟨n, hn⟩ : ∃ n, l.length = n := ⟨_, rfl⟩
  have C1 := Lib.hid (rrtRight_any v l w h)
  have C2 := Lib.hid (fun V => from_any id 1 2147483648 V)
  have C3 := Lib.hid (fun V => from_any f 0 1099511627776 V)
  have C3b := Lib.hid (fun V => from_any c 0 15 V)
  have C4 := Lib.hid (fun V (hV : Below w.heap.size w V) => rrtFind_any v l id V (h.1.below hV))
  have C5 := Lib.hid (fun V (hV : Below w.heap.size w V) k x => rrtWith_any v l k x V (h.1.below hV) hl)
  obtain ⟨a, c0, b, o, rfl, h1, h2, hix, hlt', hcell, -⟩ := h.1.open_n layA elA n hn
  have HC := Lib.hid hcell
  have HN := Lib.hid hn
  have HLT := Lib.hid hlt'
  have HIX := Lib.hid hix
  have HH := Lib.hid h
  have HF := Lib.hid hf
  have HCC := Lib.hid hc
  obtain ⟨b0, hb0⟩ : ∃ b, aright (accD l) = b := ⟨_, rfl⟩
  obtain ⟨b1, hb1⟩ : ∃ b, decide (1 ≤ id ∧ id ≤ 2147483648) = b := ⟨_, rfl⟩
  obtain ⟨b2, hb2⟩ : ∃ b, decide (0 ≤ f ∧ f ≤ 1099511627776) = b := ⟨_, rfl⟩
  obtain ⟨b3, hb3⟩ : ∃ b, decide (0 ≤ c ∧ c ≤ 15) = b := ⟨_, rfl⟩
  have HAR := Lib.hid hb0
  rw [hb0] at C1
  rw [hb1] at C2
  rw [hb2] at C3
  rw [hb3] at C3b
  obtain ⟨E, hE⟩ : ∃ E, setR (accD l) id f c = E := ⟨_, rfl⟩
  obtain ⟨L, hL⟩ : ∃ L, setL (accD l) id f c = L := ⟨_, rfl⟩
  have HE : Hid (E = if b0 = false ∨ b1 = false ∨ (b2 && b3) = false then 2 else match (accD l)[aix (accD l) id]? with
    | none => 30
    | some a => setE f c a) := by
    show _ = _
    rw [← hE, ← hb0, ← hb1, ← hb2, ← hb3]
    unfold setR turnR smay
    simp only [decide_eq_false_iff_not]
    rfl
  have HL : Hid (L = if E = 0 then aput (accD l) id (setF f c) else []) := by show _ = _; rw [← hL, ← hE]; rfl
  rw [hE, hL]
  clear h hn hcell hlt' hix hb0 hb1 hb2 hb3 hE hL hf hc
  go_enter Try.func29, Try.ntmps29
  go_wp2_with fail
  refine C1.out.mono ?_
  rintro e w2 ⟨rfl, hb2⟩
  have HB2 := Lib.hid hb2
  clear hb2 C1
  have HBAD : Hid (E ≠ 0 → L = []) := fun h => by rw [HL.out, if_neg h]
  have HBD2 : Hid (b0 = false ∨ b1 = false ∨ (b2 && b3) = false → E = 2) := fun h => by rw [HE.out, if_pos h]
  cases b0 with
  | false =>
    have HEE : Hid (E = 2) := HBD2.out (by simp)
    go_wp2
    go_ret2
    exact ⟨.slice none 0 0, [], by rw [HEE.out]; rfl, acs_nil _, by rw [HBAD.out (by rw [HEE.out]; decide)]; rfl, HB2.out⟩
  | true =>
  cases b1 with
  | false =>
    have HEE : Hid (E = 2) := HBD2.out (by simp)
    go_wp2_with (go_at_call 61; first | ((with_reducible refine (C2.out _).mono ?_); rintro e w' ⟨rfl, rfl⟩) | ((with_reducible refine (C3.out _).mono ?_); rintro e w' ⟨rfl, rfl⟩))
    go_ret2
    exact ⟨.slice none 0 0, [], by rw [HEE.out]; rfl, acs_nil _, by rw [HBAD.out (by rw [HEE.out]; decide)]; rfl, HB2.out⟩
  | true =>
  cases b2 with
  | false =>
    have HEE : Hid (E = 2) := HBD2.out (by simp)
    go_wp2_with (go_at_call 61; first | ((with_reducible refine (C2.out _).mono ?_); rintro e w' ⟨rfl, rfl⟩) | ((with_reducible refine (C3.out _).mono ?_); rintro e w' ⟨rfl, rfl⟩))
    go_ret2
    exact ⟨.slice none 0 0, [], by rw [HEE.out]; rfl, acs_nil _, by rw [HBAD.out (by rw [HEE.out]; decide)]; rfl, HB2.out⟩
  | true =>
  cases b3 with
  | false =>
    have HEE : Hid (E = 2) := HBD2.out (by simp)
    go_wp2_with (go_at_call 61; first | ((with_reducible refine (C2.out _).mono ?_); rintro e w' ⟨rfl, rfl⟩) | ((with_reducible refine (C3.out _).mono ?_); rintro e w' ⟨rfl, rfl⟩) | ((with_reducible refine (C3b.out _).mono ?_); rintro e w' ⟨rfl, rfl⟩))
    go_ret2
    exact ⟨.slice none 0 0, [], by rw [HEE.out]; rfl, acs_nil _, by rw [HBAD.out (by rw [HEE.out]; decide)]; rfl, HB2.out⟩
  | true =>
  have HE2 : Hid (E = match (accD l)[aix (accD l) id]? with
    | none => 30
    | some a => setE f c a) := by show _ = _; rw [HE.out]; simp
  go_wp2_with (go_at_call 61; first | ((with_reducible refine (C2.out _).mono ?_); rintro e w' ⟨rfl, rfl⟩) | ((with_reducible refine (C3.out _).mono ?_); rintro e w' ⟨rfl, rfl⟩) | ((with_reducible refine (C3b.out _).mono ?_); rintro e w' ⟨rfl, rfl⟩))
  refine (C4.out w2 HB2.out).mono ?_
  rintro e w3 ⟨r, hr, rfl, rfl⟩
  have HR := Lib.hid hr
  have hax := hr.aix
  have HAX := Lib.hid hax
  clear C4 hr hax HE HBD2
  cases r with
  | none =>
    have HEE : Hid (E = 30) := by show _ = _; rw [HE2.out, HAX.out, Option.getD_none, ← accD_len, List.getElem?_eq_none (Nat.le_refl _)]
    rw [show aiV none = -1 from rfl]
    go_wp2
    go_ret2
    exact ⟨.slice none 0 0, [], by rw [HEE.out]; rfl, acs_nil _, by rw [HBAD.out (by rw [HEE.out]; decide)]; rfl, HB2.out⟩
  | some k0 =>
    obtain ⟨⟨x, hx, hid⟩, -⟩ := HR.out
    have hkn : k0 < n := by rw [← HN.out]; exact (List.getElem?_eq_some_iff.1 hx).1
    have HEE : Hid (E = setE f c x.1) := by show _ = _; rw [HE2.out, HAX.out, Option.getD_some, accD_get hx]
    have HPUT : Hid (E = 0 → ∀ y : AcX, y.1 = setF f c x.1 → accD (l.set k0 y) = L) := fun h y hy => by rw [HL.out, if_pos h]; exact HR.out.put hx y _ hy
    rw [show aiV (some k0) = (k0 : Int) from rfl]
    have e1 : ¬ (k0 : Int) < 0 := by omega
    have m0 := HC.out k0 x hx 0 _ rfl
    have m1 := HC.out k0 x hx 1 _ rfl
    have m2 := HC.out k0 x hx 2 _ rfl
    rw [Nat.add_zero] at m0
    rw [← HB2.out.cell (by exact HLT.out k0 hkn)] at m0 m1 m2
    have hixk := fun W => HIX.out W k0 hkn
    have HXM := Lib.hid (List.mem_of_getElem? hx)
    have hone : aone x.1 = true := (aright_up HAR.out).2.1 x.1 (by unfold accD; exact List.mem_map_of_mem HXM.out)
    have hup := aone_up hone
    have h32 := (aone_wf hone).2.2.2.2.2.1
    have hxv0 := HH.out.2 x HXM.out
    obtain ⟨⟨xid, bl, sp⟩, ⟨xa, xn, xc⟩⟩ := x
    unfold Sl3.v at m2
    unfold setF at HPUT
    unfold setE at HEE
    simp only at m0 m1 m2 HPUT HEE hup h32
    obtain ⟨N, hN⟩ : ∃ N, sp.length = N := ⟨_, rfl⟩
    obtain ⟨sa, sc, sb, so, hse, -, hsc2, six, slt, scell, -⟩ := hxv0.1.open_n layS elS N hN
    unfold Sl3.v at hse
    simp only [Value.slice.injEq] at hse
    obtain ⟨rfl, rfl, rfl⟩ := hse
    have hal : Below w2.heap.size w2 (w2.alloc (.cells #[.int .i64 xid, .int .i64 bl, .slice xa xn xc] 43)) := (Below.refl _ _).alloc (Nat.le_refl _) _
    have hr4 : (w2.alloc (.cells #[.int .i64 xid, .int .i64 bl, .slice xa xn xc] 43)).heap[w2.heap.size]? = some (.cells #[.int .i64 xid, .int .i64 bl, .slice xa xn xc] 43 (0, 0)) := heap_alloc_new _ _
    obtain ⟨p, hp⟩ : ∃ p, w2.heap.size = p := ⟨_, rfl⟩
    obtain ⟨W, hW4⟩ : ∃ W, w2.alloc (.cells #[.int .i64 xid, .int .i64 bl, .slice xa xn xc] 43) = W := ⟨_, rfl⟩
    rw [hW4] at hal hr4
    have HAL := Lib.hid (HB2.out.trans (hal.mono HB2.out.size))
    rw [hp] at hr4
    have HP := Lib.hid hp
    have HPW : Hid (p < W.heap.size) := heap_lt hr4
    have HWP : Hid (w.heap.size ≤ p) := by show _ ≤ _; rw [← HP.out]; exact HB2.out.size
    have HXV : Hid (∀ V, Below w.heap.size w V → AcV V (⟨xid, bl, sp⟩, (xa, xn, xc))) := fun V hV => (HH.out.below hV).2 _ HXM.out
    obtain ⟨i0, hi0⟩ := spl_ex sp f hup
    obtain ⟨R, hR⟩ : ∃ R, sset sp f c = R := ⟨_, rfl⟩
    have hRR : scomp (rQ sp f c i0 (xn + 1)) = R := by rw [← hR, ← hN]; unfold sset; rw [rQ_all hi0]
    have HRI : Hid (∀ s ∈ R, IW s.1 ∧ IW s.2) := fun s hs => by
      rw [← hR] at hs
      rcases sset_sub hs with h1 | rfl
      · exact hxv0.2.2.2 s h1
      · exact ⟨HF.out, HCC.out⟩
    rw [hR] at HEE HPUT
    have HFIN : Hid (∀ V u, E = 0 → Below w.heap.size w V → Gs 2 csS V (Sl3.v u) R → Calls Try.prog 62 #[.slice a n c0, .int .i64 (k0 : Nat), .agg #[.int .i64 xid, .int .i64 bl, Sl3.v u]] V fun e w' => ∃ v, e = .returned v ∧ (∃ M, Acs w' v M ∧ accD M = L) ∧ Below w.heap.size w w') := fun V u hE0 hV hG => by
      refine (C5.out V hV k0 (⟨xid, bl, R⟩, u)).mono ?_
      rintro e w' ⟨v', rfl, hg, hb⟩
      have hbw := hV.trans (hb.mono hV.size)
      refine ⟨v', rfl, ⟨_, ⟨hg.gs, fun y hy => ?_⟩, HPUT.out hE0 _ rfl⟩, hbw⟩
      rcases List.mem_or_eq_of_mem_set hy with h1 | h1
      · exact (HH.out.below hbw).2 y h1
      · subst h1
        have h2 := HXV.out w' hbw
        exact ⟨hG.below hb, h2.2.1, h2.2.2.1, HRI.out⟩
    have HSC : Hid (∀ V : World, Below w.heap.size w V → ∀ i s, sp[i]? = some s → V.cell? ⟨sb, so i, none⟩ = some (.int .i64 s.1) ∧ V.cell? ⟨sb, so i + 1, none⟩ = some (.int .i64 s.2)) := fun V hV i s hi => by
      have hb := slt i (by rw [← hN]; exact (List.getElem?_eq_some_iff.1 hi).1)
      exact ⟨(hV.cell hb).trans (scell i s hi 0 _ rfl), (hV.cell hb).trans (scell i s hi 1 _ rfl)⟩
    have HQX := Lib.hid (fun (V : World) (hV : Below W.heap.size W V) => acct_cells ((hV.block p (heap_lt hr4)).trans hr4))
    have HQR := Lib.hid (fun (V : World) (hV : Below W.heap.size W V) => (hV.block p (heap_lt hr4)).trans hr4)
    have HSX := Lib.hid six
    have HNS := Lib.hid hN
    have HI0 := Lib.hid hi0
    have HRR := Lib.hid hRR
    have h32' : xn ≤ 32 := by omega
    have HST : Hid (Gw 2 csS W W.heap.size 49 (.slice none 0 0) (scomp (rQ sp f c i0 0))) := Gw.nil _ _ _
    clear hx hid hkn hal hr4 C5 HC HLT HIX hxv0 hone hup h32 six slt scell hi0 hR hRR hN
    go_wp2_with fail
    go_loopg [12, 13, 14] (xn + 1) (fun q vo vp vi wr => ∃ k : Nat, q = xn + 1 - k ∧ k ≤ xn + 1 ∧ vi = .int .i64 k ∧ vp = .bool (decide (i0 < k)) ∧ Hid (Gw 2 csS wr W.heap.size 49 vo (scomp (rQ sp f c i0 k))) ∧ Hid (Below W.heap.size W wr))
    case atStart => exact ⟨0, by omega, by omega, rfl, by simp, HST, Below.refl _ _⟩
    case round =>
      obtain ⟨k, rfl, hk, rfl, rfl, HO, HBR⟩ := hrel
      clear HST m0 m1 m2
      have HBW : Hid (Below w.heap.size w wr) := HAL.out.trans (HBR.out.mono HAL.out.size)
      obtain ⟨z0, z1, z2⟩ := HQX.out wr HBR.out
      obtain ⟨T, hT⟩ : ∃ T, scomp (rQ sp f c i0 k) = T := ⟨_, rfl⟩
      obtain ⟨m, hm⟩ : ∃ m, T.length = m := ⟨_, rfl⟩
      have hm66 : m ≤ 66 := by
        have h1 := scomp_len (rQ sp f c i0 k)
        have h2 := rQ_len (sp := sp) (f := f) (c := c) (i0 := i0) k
        rw [hT] at h1
        omega
      rw [hT] at HO
      obtain ⟨oa, oc, ob, oo, hos, -, -, oix, olt, ocell, -⟩ := HO.out.gs.open_n layS elS m hm
      subst hos
      have HM66 := Lib.hid hm66
      have HM := Lib.hid hm
      have HOC := Lib.hid ocell
      have HOL := Lib.hid olt
      have HOX := Lib.hid oix
      have HTT := Lib.hid hT
      clear hT hm hm66 oix olt ocell
      by_cases hlt : k < xn + 1
      · have e2 : (k : Int) ≤ xn := by omega
        have HLTK := Lib.hid hlt
        clear hlt
        obtain ⟨nb, hnb⟩ : ∃ nb, decide (k = i0) = nb := ⟨_, rfl⟩
        have HNB := Lib.hid hnb
        have hixs := fun W (h : k < xn) => HSX.out W k h
        have hsk : Hid (k < xn → ∃ s, sp[k]? = some s ∧ wr.cell? ⟨sb, so k, none⟩ = some (.int .i64 s.1) ∧ wr.cell? ⟨sb, so k + 1, none⟩ = some (.int .i64 s.2)) := fun h => by
          obtain ⟨s, hs⟩ : ∃ s, sp[k]? = some s := ⟨_, List.getElem?_eq_getElem (by rw [HNS.out]; exact h)⟩
          exact ⟨s, hs, HSC.out wr HBW.out k s hs⟩
        obtain ⟨db, hdb⟩ : ∃ db, decide (i0 < k) = db := ⟨_, rfl⟩
        have HDB := Lib.hid hdb
        rw [hdb]
        clear hnb hdb
        go_upto_region 12 with fail
        go_cut [67] (fun c wx => c = .bool nb ∧ wx = wr)
        case first =>
          rcases Nat.lt_trichotomy k i0 with hki | hki | hki
          · obtain rfl : db = false := HDB.out.symm.trans (decide_eq_false (by omega))
            have hl := HI0.out.le
            rw [HNS.out] at hl
            have hkx : k < xn := by omega
            have e5 : ((k : Int) == (xn : Int)) = false := by simp; omega
            obtain ⟨s, hs, s0, s1⟩ := hsk.out hkx
            have hs1 := HI0.out.lo k s hki hs
            have e6 : ¬ f ≤ s.1 := by omega
            have hixk := fun W => hixs W hkx
            have hmv : Hid (Value.bool false = .bool nb) := by show _ = _; rw [← HNB.out]; simp; omega
            clear hl hki hs hs1 hixs
            go_wp2
            go_meet
            case rel => exact ⟨hmv.out, rfl⟩
          · obtain rfl : db = false := HDB.out.symm.trans (decide_eq_false (by omega))
            have hmv : Hid (Value.bool true = .bool nb) := by show _ = _; rw [← HNB.out]; simp; omega
            by_cases hkx : k < xn
            · have e5 : ((k : Int) == (xn : Int)) = false := by simp; omega
              obtain ⟨s, hs, s0, s1⟩ := hsk.out hkx
              have hs1 := HI0.out.hi k s (by omega) hs
              have e6 : f ≤ s.1 := by omega
              have hixk := fun W => hixs W hkx
              clear hki hs hs1 hixs
              go_wp2
              go_meet
              case rel => exact ⟨hmv.out, rfl⟩
            · have e5 : ((k : Int) == (xn : Int)) = true := by have := HLTK.out; simp; omega
              clear hki hixs hkx
              go_wp2
              go_meet
              case rel => exact ⟨hmv.out, rfl⟩
          · obtain rfl : db = true := HDB.out.symm.trans (decide_eq_true hki)
            have hmv : Hid (Value.bool false = .bool nb) := by show _ = _; rw [← HNB.out]; simp; omega
            clear hki hixs
            go_wp2
            go_meet
            case rel => exact ⟨hmv.out, rfl⟩
        case rest =>
        obtain ⟨rfl, hwc⟩ := hcut
        subst hwc
        go_upto_if 67 with fail
        go_cut [12, 13] (fun vo vp wx => vp = .bool (decide (i0 ≤ k)) ∧ Hid (Gw 2 csS wx W.heap.size 49 vo (scomp (rQ1 sp f c i0 k))) ∧ Hid (Below W.heap.size W wx))
        case first =>
          cases nb with
          | true =>
            have hki : k = i0 := of_decide_eq_true HNB.out
            have hT1 : scomp (rQ1 sp f c i0 k) = spush T (f, c) := by rw [← HTT.out, hki]; exact rQ1_at
            have hd1 : decide (i0 ≤ k) = true := decide_eq_true (by omega)
            rcases Nat.eq_zero_or_pos m with hm0 | hm0
            · subst hm0
              have hT2 : scomp (rQ1 sp f c i0 k) = T ++ [(f, c)] := hT1.trans (spush_nil HM.out _)
              have HT2 := Lib.hid hT2
              have HD1 := Lib.hid hd1
              clear hki hT1 hT2 hd1 hixs
              go_wp2_with (at_builtin; go_must (refine wpList_append_gs layS (HO.out.below (bw_al (Below.refl _ _) _)) (lit_spell _ (f, c)) elS (by rw [HM.out]; have := HM66.out; simp) (by rw [HM.out]; have := HM66.out; simp) (bw_al HBR.out _).size ?_ _ _ rfl rfl rfl rfl); intro v5 w5 ho5 hg5 hb5 _; have HO5 := Lib.hid ho5; have HG5 := Lib.hid ((bw_al HBR.out _).trans hb5); clear ho5 hg5 hb5)
              go_meet
              case rel => exact ⟨by rw [HD1.out], by rw [HT2.out]; exact HO5, HG5⟩
            · obtain ⟨m1, rfl⟩ : ∃ m1, m = m1 + 1 := ⟨m - 1, by omega⟩
              obtain ⟨y, hy⟩ : ∃ y, T[m1]? = some y := ⟨_, List.getElem?_eq_getElem (by rw [HM.out]; omega)⟩
              have hT3 := hT1.trans (spush_some HM.out hy _)
              have y1 := HOC.out m1 y hy 1 _ rfl
              have hoixm := fun W => HOX.out W m1 (Nat.lt_succ_self _)
              obtain ⟨mm, hmm⟩ : ∃ mm, m1 + 1 = mm := ⟨_, rfl⟩
              have hm1 : (m1 : Int) = (mm : Int) - 1 := by omega
              have hmm63 : 1 ≤ mm ∧ mm ≤ 66 := by have := HM66.out; omega
              rw [hmm] at HO HM hoixm
              rw [hm1] at hoixm
              rw [hmm]
              have e7 : ((mm : Int) == 0) = false := by simp; omega
              by_cases hyc : y.2 = c
              · have e8 : (y.2 != c) = false := by simpa using hyc
                have hT4 : scomp (rQ1 sp f c i0 k) = T := by rw [hT3, if_pos hyc]
                have HT4 := Lib.hid hT4
                have HD1 := Lib.hid hd1
                clear hki hT1 hT3 hT4 hd1 hy hm0 hyc hixs hmm hm1
                go_wp2
                go_meet
                case rel => exact ⟨by rw [HD1.out], by rw [HT4.out]; exact HO, HBR⟩
              · have e8 : (y.2 != c) = true := by simpa using hyc
                have hT4 : scomp (rQ1 sp f c i0 k) = T ++ [(f, c)] := by rw [hT3, if_neg hyc]
                have HT4 := Lib.hid hT4
                have HD1 := Lib.hid hd1
                have HMM := Lib.hid hmm63
                clear hki hT1 hT3 hT4 hd1 hy hm0 hyc hixs hmm hm1
                go_wp2_with (at_builtin; go_must (refine wpList_append_gs layS (HO.out.below (bw_al (Below.refl _ _) _)) (lit_spell _ (f, c)) elS (by rw [HM.out]; have := HMM.out; simp; omega) (by rw [HM.out]; have := HMM.out; simp; omega) (bw_al HBR.out _).size ?_ _ _ rfl rfl rfl rfl); intro v5 w5 ho5 hg5 hb5 _; have HO5 := Lib.hid ho5; have HG5 := Lib.hid ((bw_al HBR.out _).trans hb5); clear ho5 hg5 hb5)
                go_meet
                case rel => exact ⟨by rw [HD1.out], by rw [HT4.out]; exact HO5, HG5⟩
          | false =>
            have hki : k ≠ i0 := of_decide_eq_false HNB.out
            have hT1 : scomp (rQ1 sp f c i0 k) = T := by rw [← HTT.out]; exact rQ1_no hki
            have HT1 := Lib.hid hT1
            have HD1 : Hid (decide (i0 ≤ k) = db) := by show _ = _; rw [← HDB.out]; congr 1; apply propext; omega
            clear hki hT1 hixs
            go_wp2
            go_meet
            case rel => exact ⟨by rw [HD1.out], by rw [HT1.out]; exact HO, HBR⟩
        case rest =>
        clear z0 z1 z2 hsk HTT HM66 HM HOC HOL HOX HO
        obtain ⟨rfl, HO1, HB1⟩ := hcut
        obtain ⟨W1, rfl⟩ : ∃ W, W = wc := ⟨_, rfl⟩
        have HBW1 : Hid (Below w.heap.size w W1) := HAL.out.trans (HB1.out.mono HAL.out.size)
        obtain ⟨z0, z1, z2⟩ := HQX.out W1 HB1.out
        obtain ⟨T1, hT⟩ : ∃ T, scomp (rQ1 sp f c i0 k) = T := ⟨_, rfl⟩
        obtain ⟨m1, hm⟩ : ∃ m, T1.length = m := ⟨_, rfl⟩
        have hm66 : m1 ≤ 67 := by
          have h1 := scomp_len (rQ1 sp f c i0 k)
          have h2 := rQ_len (sp := sp) (f := f) (c := c) (i0 := i0) k
          have h3 : (rQ1 sp f c i0 k).length ≤ (rQ sp f c i0 k).length + 1 := by unfold rQ1; rw [List.length_append]; split <;> simp
          rw [hT] at h1
          omega
        rw [hT] at HO1
        obtain ⟨oa, oc, ob, oo, hos, -, -, oix, olt, ocell, -⟩ := HO1.out.gs.open_n layS elS m1 hm
        subst hos
        have HM66 := Lib.hid hm66
        have HM := Lib.hid hm
        have HOC := Lib.hid ocell
        have HOL := Lib.hid olt
        have HOX := Lib.hid oix
        have HTT := Lib.hid hT
        have hdk : decide (i0 ≤ k) = decide (i0 < k + 1) := by congr 1; apply propext; omega
        rw [hdk]
        clear hT hm hm66 oix olt ocell HNB HDB hdk
        by_cases hkx : k < xn
        · have e3 : (k : Int) < xn := by omega
          have hixk := fun W => hixs W hkx
          obtain ⟨s, hs⟩ : ∃ s, sp[k]? = some s := ⟨_, List.getElem?_eq_getElem (by rw [HNS.out]; exact hkx)⟩
          obtain ⟨s0, s1⟩ := HSC.out W1 HBW1.out k s hs
          have HLS := Lib.hid (fun V => lit_spell V s)
          by_cases hsf : s.1 = f
          · have e5 : (s.1 != f) = false := by simpa using hsf
            have hT4 : scomp (rQ sp f c i0 (k + 1)) = T1 := (rQ_no hs hsf).trans HTT.out
            have HT4 := Lib.hid hT4
            clear hs hsf hT4 hixs
            go_wp2
            go_roundg (xn + 1 - (k + 1))
            case rel => exact ⟨k + 1, rfl, by omega, by go_num, rfl, by rw [HT4.out]; exact HO1, HB1⟩
            case measure => omega
          · have e5 : (s.1 != f) = true := by simpa using hsf
            have hT5 : scomp (rQ sp f c i0 (k + 1)) = spush T1 s := by rw [← HTT.out]; exact rQ_put hs hsf
            have HS := Lib.hid hs
            obtain ⟨st, su⟩ := s
            simp only at s0 s1 HLS hsf e5
            clear hsf hs hixs
            rcases Nat.eq_zero_or_pos m1 with hm0 | hm0
            · subst hm0
              have hT2 : scomp (rQ sp f c i0 (k + 1)) = T1 ++ [(st, su)] := hT5.trans (spush_nil HM.out _)
              have HT2 := Lib.hid hT2
              clear hT5 hT2
              go_upto_region 17 with fail
              go_quiet (fail)
              obtain ⟨W2, hW2⟩ : ∃ W, W1.drewN nq = W := ⟨_, rfl⟩
              have hb2 : Below W1.heap.size W1 W2 := by rw [← hW2]; exact below_drewN (Below.refl _ _) nq
              have HB2 : Hid (Below W.heap.size W W2) := HB1.out.trans (hb2.mono HB1.out.size)
              have HO2 := Lib.hid (HO1.out.below hb2)
              rw [hW2]
              clear hW2 z0 z1 z2 s0 s1
              obtain ⟨z0, z1, z2⟩ := HQX.out W2 HB2.out
              obtain ⟨s0, s1⟩ := HSC.out W2 (HAL.out.trans (HB2.out.mono HAL.out.size)) k _ HS.out
              go_wp2_with (at_builtin; go_must (refine wpList_append_gs layS (HO2.out.below (bw_al (Below.refl _ _) _)) (HLS.out _) elS (by rw [HM.out]; have := HM66.out; simp) (by rw [HM.out]; have := HM66.out; simp) (bw_al HB2.out _).size ?_ _ _ rfl rfl rfl rfl); intro v5 w5 ho5 hg5 hb5 _; have HO5 := Lib.hid ho5; have HG5 := Lib.hid ((bw_al HB2.out _).trans hb5); clear ho5 hg5 hb5)
              go_roundg (xn + 1 - (k + 1))
              case rel => exact ⟨k + 1, rfl, by omega, by go_num, rfl, by rw [HT2.out]; exact HO5, HG5⟩
              case measure => omega
            · obtain ⟨m2, rfl⟩ : ∃ m2, m1 = m2 + 1 := ⟨m1 - 1, by omega⟩
              obtain ⟨y, hy⟩ : ∃ y, T1[m2]? = some y := ⟨_, List.getElem?_eq_getElem (by rw [HM.out]; omega)⟩
              have hT3 := hT5.trans (spush_some HM.out hy _)
              have y1 := HOC.out m2 y hy 1 _ rfl
              have hoixm := fun W => HOX.out W m2 (Nat.lt_succ_self _)
              obtain ⟨mm, hmm⟩ : ∃ mm, m2 + 1 = mm := ⟨_, rfl⟩
              have hm1 : (m2 : Int) = (mm : Int) - 1 := by omega
              have hmm63 : 1 ≤ mm ∧ mm ≤ 67 := by have := HM66.out; omega
              rw [hmm] at HO1 HM hoixm
              rw [hm1] at hoixm
              rw [hmm]
              have e7 : ((mm : Int) == 0) = false := by simp; omega
              have HMM := Lib.hid hmm63
              by_cases hyc : y.2 = su
              · have e8 : (y.2 != su) = false := by simpa using hyc
                have hT4 : scomp (rQ sp f c i0 (k + 1)) = T1 := by rw [hT3, if_pos hyc]
                have HT4 := Lib.hid hT4
                clear hT5 hT3 hT4 hy hm0 hyc hmm hm1
                go_upto_region 17 with fail
                go_quiet (fail)
                obtain ⟨W2, hW2⟩ : ∃ W, W1.drewN nq = W := ⟨_, rfl⟩
                have hb2 : Below W1.heap.size W1 W2 := by rw [← hW2]; exact below_drewN (Below.refl _ _) nq
                have HB2 : Hid (Below W.heap.size W W2) := HB1.out.trans (hb2.mono HB1.out.size)
                have HO2 := Lib.hid (HO1.out.below hb2)
                rw [hW2]
                clear hW2 z0 z1 z2 s0 s1
                go_wp2
                go_roundg (xn + 1 - (k + 1))
                case rel => exact ⟨k + 1, rfl, by omega, by go_num, rfl, by rw [HT4.out]; exact HO2, HB2⟩
                case measure => omega
              · have e8 : (y.2 != su) = true := by simpa using hyc
                have hT4 : scomp (rQ sp f c i0 (k + 1)) = T1 ++ [(st, su)] := by rw [hT3, if_neg hyc]
                have HT4 := Lib.hid hT4
                clear hT5 hT3 hT4 hy hm0 hyc hmm hm1
                go_upto_region 17 with fail
                go_quiet (fail)
                obtain ⟨W2, hW2⟩ : ∃ W, W1.drewN nq = W := ⟨_, rfl⟩
                have hb2 : Below W1.heap.size W1 W2 := by rw [← hW2]; exact below_drewN (Below.refl _ _) nq
                have HB2 : Hid (Below W.heap.size W W2) := HB1.out.trans (hb2.mono HB1.out.size)
                have HO2 := Lib.hid (HO1.out.below hb2)
                rw [hW2]
                clear hW2 z0 z1 z2 s0 s1 y1
                obtain ⟨z0, z1, z2⟩ := HQX.out W2 HB2.out
                obtain ⟨s0, s1⟩ := HSC.out W2 (HAL.out.trans (HB2.out.mono HAL.out.size)) k _ HS.out
                go_wp2_with (at_builtin; go_must (refine wpList_append_gs layS (HO2.out.below (bw_al (Below.refl _ _) _)) (HLS.out _) elS (by rw [HM.out]; have := HMM.out; simp; omega) (by rw [HM.out]; have := HMM.out; simp; omega) (bw_al HB2.out _).size ?_ _ _ rfl rfl rfl rfl); intro v5 w5 ho5 hg5 hb5 _; have HO5 := Lib.hid ho5; have HG5 := Lib.hid ((bw_al HB2.out _).trans hb5); clear ho5 hg5 hb5)
                go_roundg (xn + 1 - (k + 1))
                case rel => exact ⟨k + 1, rfl, by omega, by go_num, rfl, by rw [HT4.out]; exact HO5, HG5⟩
                case measure => omega
        · have e3 : ¬ (k : Int) < xn := by omega
          obtain rfl : k = xn := by have := HLTK.out; omega
          have hT4 : scomp (rQ sp f c i0 (k + 1)) = T1 := by rw [← HTT.out, ← HNS.out]; exact rQ_end
          have HT4 := Lib.hid hT4
          clear hT4 hixs
          go_wp2
          go_roundg (k + 1 - (k + 1))
          case rel => exact ⟨k + 1, rfl, by omega, by go_num, rfl, by rw [HT4.out]; exact HO1, HB1⟩
          case measure => omega
      · obtain rfl : k = xn + 1 := by omega
        have e2 : ¬ ((xn + 1 : Nat) : Int) ≤ xn := by omega
        have e3 : ((xn + 1 : Nat) : Int) = xn + 1 := by omega
        have hTR : T = R := HTT.out.symm.trans HRR.out
        subst hTR
        have HTG := Lib.hid (HO.out.gs)
        rw [HM.out] at HEE
        by_cases h33 : 32 < m
        · have e4 : (32 : Int) < m := by omega
          have HEE2 : Hid (E = 3) := by show _ = _; rw [HEE.out, if_pos h33]
          clear h33 hlt
          go_wp2
          go_ret2
          exact ⟨.slice none 0 0, by rw [HEE2.out]; rfl, [], acs_nil _, by rw [HBAD.out (by rw [HEE2.out]; decide)]; rfl, HBW.out⟩
        · have e4 : ¬ (32 : Int) < m := by omega
          have HEE2 : Hid (E = 0) := by show _ = _; rw [HEE.out, if_neg h33]
          have hrow := HQR.out wr HBR.out
          have f2 := row_free hrow 2
          have o1 : Only (fun k => k = p) wr (wr.setCell ⟨p, 2, none⟩ (.slice oa m oc)) := set_only wr p 2 _
          have hb5 := HBW.out.trans (o1.below (B := w.heap.size) (fun k hk => by have := HWP.out; omega) HBW.out.size)
          have hg5 : Gs 2 csS (wr.setCell ⟨p, 2, none⟩ (.slice oa m oc)) (Sl3.v (oa, m, oc)) T := by
            refine HTG.out.only o1 fun j hj he => ?_
            have h1 := (HO.out.lt j hj).1
            have h2 := HPW.out
            omega
          have CF := Lib.hid (HFIN.out _ (oa, m, oc) HEE2.out hb5 hg5)
          unfold Sl3.v at CF
          simp only at CF
          clear o1 hb5 hg5 h33 hlt hrow HFIN
          go_wp2_with fail
          refine CF.out.mono ?_
          rintro e w6 ⟨v6, rfl, ⟨M, hM1, hM2⟩, hb6⟩
          have HM1 := Lib.hid hM1
          have HM2 := Lib.hid hM2
          have HB6 := Lib.hid hb6
          clear hM1 hM2 hb6
          go_wp2
          go_ret2
          exact ⟨_, M, by rw [HEE2.out]; rfl, HM1.out, HM2.out, HB6.out⟩
end Go.Proofs.Ytjnbdeopoohnmaa
