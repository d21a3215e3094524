/- Layer 56 (roster): Right of the document. -/
import Derived.Test.YtjnbdeopoohnmaaRt2
import Derived.Deep.RegionLaw
import Derived.Deep.DeepCutAuto
import Derived.Deep.CutBlock
import Derived.Lib.QuietBelow
set_option linter.unusedSimpArgs false
namespace Go.Proofs.Ytjnbdeopoohnmaa
open Go.RowKit Go.Sort

set_option maxRecDepth 100000 in
set_option maxHeartbeats 3200000 in
theorem rrtRight_any (v : Value) (l : List AcX) (w : World) (h : Acs w v l) : Calls Try.prog 32 #[v] w fun e w' => e = .returned (.bool (aright (accD l))) ∧ Below w.heap.size w w' := by
  obtain ⟨n, hn⟩ : ∃ n, l.length = n := ⟨_, rfl⟩
  obtain ⟨a, c, b, o, rfl, h1, h2, hix, hlt', hcell, -⟩ := h.1.open_n layA elA n hn
  have HC := Lib.hid hcell
  have HN := Lib.hid hn
  have HLT := Lib.hid hlt'
  have HX := Lib.hid h.2
  obtain ⟨R, hR⟩ : ∃ R, aright (accD l) = R := ⟨_, rfl⟩
  have HV : Hid (R = (aTo (accD l) n && decide (n ≤ 4096))) := by show _ = _; rw [← hR, ← hn]; unfold aright; rw [accD_len]
  rw [hR]
  have hn63 : n ≤ 9223372036854775807 := by omega
  clear h hn hcell hlt' hR
  go_enter Try.func32, Try.ntmps32
  go_wp2_with fail
  go_loopw [3] (fun vi wr => ∃ k : Nat, k ≤ n ∧ vi = .int .i64 k ∧ Hid (aTo (accD l) k = true) ∧ Hid (Below w.heap.size w wr)) (fun vi _ => n - (intOf vi).toNat)
  case atStart => exact ⟨0, by omega, rfl, rfl, Below.refl _ _⟩
  case round =>
    obtain ⟨k, hk, rfl, HP, HB⟩ := hrel
    by_cases hlt : k < n
    · have e2 : (k : Int) < n := by omega
      obtain ⟨x, hs⟩ : ∃ s, l[k]? = some s := ⟨_, List.getElem?_eq_getElem (by have := HN.out; omega)⟩
      have m0 := HC.out k x hs 0 _ rfl
      have m1 := HC.out k x hs 1 _ rfl
      have m2 := HC.out k x hs 2 _ rfl
      rw [Nat.add_zero] at m0
      have hbl := HLT.out k hlt
      rw [← HB.out.cell (by exact hbl)] at m0 m1 m2
      have hixk := fun W => hix W k hlt
      have hxv := (HX.out x (List.mem_of_getElem? hs)).below HB.out
      have hnext := aTo_next (accD l) k
      rw [HP.out, Bool.true_and] at hnext
      have HNO : Hid (aAt (accD l) k = false → R = false) := fun h => by rw [HV.out, aTo_no h hlt]; rfl
      have hD := accD_get hs
      obtain ⟨⟨id, bl, sp⟩, ⟨xa, xn, xc⟩⟩ := x
      unfold Sl3.v at m2
      obtain ⟨hxg, -, -, -⟩ := hxv
      unfold Sl3.v at hxg
      simp only at m0 m1 m2 hD hxg
      have hxl : sp.length = xn := hxg.len_eq.1.symm
      obtain ⟨ya, yc, yb, yo, he, y1, y2, yix, ylt, ycell, -⟩ := hxg.open_n layS elS xn hxl
      simp only [Value.slice.injEq, true_and] at he
      obtain ⟨rfl, rfl⟩ := he
      obtain ⟨g, hg⟩ : ∃ g, wr.heap.size = g := ⟨_, rfl⟩
      obtain ⟨W4, hW4⟩ : ∃ V, wr.alloc (.cells #[.int .i64 id, .int .i64 bl, .slice xa xn xc] 43) = V := ⟨_, rfl⟩
      have hr4 : W4.heap[g]? = some (.cells #[.int .i64 id, .int .i64 bl, .slice xa xn xc] 43 (0, 0)) := by rw [← hW4, ← hg]; exact heap_alloc_new _ _
      have hb4 : Below wr.heap.size wr W4 := by rw [← hW4]; exact (Below.refl _ _).alloc (Nat.le_refl _) _
      have HGX := Lib.hid (fun (V : World) (hV : Below W4.heap.size W4 V) => acct_cells ((hV.block g (heap_lt hr4)).trans hr4))
      have HYC := Lib.hid (fun (V : World) (hV : Below W4.heap.size W4 V) (i : Nat) (s : SpT) (hi : sp[i]? = some s) => by
        have hb := (hb4.trans (hV.mono hb4.size))
        have hlt := ylt i (by rw [← hxl]; exact (List.getElem?_eq_some_iff.1 hi).1)
        have c0 := ycell i s hi 0 _ rfl
        have c1 := ycell i s hi 1 _ rfl
        rw [Nat.add_zero] at c0
        exact (And.intro ((hb.cell (p := ⟨yb, yo i, none⟩) hlt).trans c0) ((hb.cell (p := ⟨yb, yo i + 1, none⟩) hlt).trans c1) : V.cell? ⟨yb, yo i, none⟩ = some (.int .i64 s.1) ∧ V.cell? ⟨yb, yo i + 1, none⟩ = some (.int .i64 s.2)))
      obtain ⟨b0, hb0⟩ : ∃ b, aone ⟨id, bl, sp⟩ = b := ⟨_, rfl⟩
      obtain ⟨b1, hb1⟩ : ∃ b, decide (1 ≤ id ∧ id ≤ 2147483648) = b := ⟨_, rfl⟩
      obtain ⟨b2, hb2⟩ : ∃ b, decide (-1 ≤ bl ∧ bl ≤ 1099511627776) = b := ⟨_, rfl⟩
      have HB0 : Hid (b0 = (b1 && (b2 && (decide (1 ≤ xn ∧ xn ≤ 32) && (afirst sp && spTo sp xn))))) := by show _ = _; rw [← hb0, ← hb1, ← hb2, ← hxl]; rfl
      have W1 := Lib.hid (fun V => from_any id 1 2147483648 V)
      have W2 := Lib.hid (fun V => from_any bl (-1) 1099511627776 V)
      rw [hb1] at W1
      rw [hb2] at W2
      have HS := Lib.hid hs
      have HNX := Lib.hid hnext
      have HLT2 := Lib.hid hlt
      have HXL := Lib.hid hxl
      have HB4 := Lib.hid (HB.out.trans (hb4.mono HB.out.size))
      have HNAT : Hid (∀ p, 0 < k → (accD l)[k - 1]? = some p → aAt (accD l) k = (b0 && decide (p.id < id))) := fun p h0 hp => by rw [aAtS h0 hD hp, hb0]
      have HAT0 : Hid (k = 0 → aAt (accD l) k = b0) := fun h0 => by subst h0; rw [aAt0 hD, hb0]
      have HBAD : Hid (b0 = false → R = false) := fun h => by
        refine HNO.out ?_
        by_cases h0 : 0 < k
        · obtain ⟨p, hp⟩ : ∃ p, (accD l)[k - 1]? = some p := ⟨_, List.getElem?_eq_getElem (by rw [accD_len]; have := HN.out; have := HLT2.out; omega)⟩
          rw [HNAT.out p h0 hp, h]; rfl
        · rw [HAT0.out (by omega), h]
      obtain ⟨z0, z1, z2⟩ := HGX.out W4 (Below.refl _ _)
      clear hs hbl hr4 hb4 hb0 hb1 hb2 hnext hlt hD hxg hxl ylt ycell
      cases b1 with
      | false =>
        have HF : Hid (R = false) := HBAD.out HB0.out
        go_wp2_with (go_at_call 61; first | ((with_reducible refine (W1.out _).mono ?_); rintro e w' ⟨rfl, rfl⟩) | ((with_reducible refine (W2.out _).mono ?_); rintro e w' ⟨rfl, rfl⟩))
        go_ret
        exact ⟨by rw [HF.out]; rfl, HB4.out⟩
      | true =>
      cases b2 with
      | false =>
        have HF : Hid (R = false) := HBAD.out HB0.out
        go_wp2_with (go_at_call 61; first | ((with_reducible refine (W1.out _).mono ?_); rintro e w' ⟨rfl, rfl⟩) | ((with_reducible refine (W2.out _).mono ?_); rintro e w' ⟨rfl, rfl⟩))
        go_ret
        exact ⟨by rw [HF.out]; rfl, HB4.out⟩
      | true =>
      by_cases e3 : (xn : Int) < 1
      · have HF : Hid (R = false) := HBAD.out (by rw [HB0.out, decide_eq_false (by omega : ¬ (1 ≤ xn ∧ xn ≤ 32))]; rfl)
        go_wp2_with (go_at_call 61; first | ((with_reducible refine (W1.out _).mono ?_); rintro e w' ⟨rfl, rfl⟩) | ((with_reducible refine (W2.out _).mono ?_); rintro e w' ⟨rfl, rfl⟩))
        go_ret
        exact ⟨by rw [HF.out]; rfl, HB4.out⟩
      by_cases e4 : (32 : Int) < (xn : Int)
      · have HF : Hid (R = false) := HBAD.out (by rw [HB0.out, decide_eq_false (by omega : ¬ (1 ≤ xn ∧ xn ≤ 32))]; rfl)
        go_wp2_with (go_at_call 61; first | ((with_reducible refine (W1.out _).mono ?_); rintro e w' ⟨rfl, rfl⟩) | ((with_reducible refine (W2.out _).mono ?_); rintro e w' ⟨rfl, rfl⟩))
        go_ret
        exact ⟨by rw [HF.out]; rfl, HB4.out⟩
      have HX32 := Lib.hid (show 1 ≤ xn ∧ xn ≤ 32 by omega)
      have HB1 : Hid (b0 = (afirst sp && spTo sp xn)) := by show _ = _; rw [HB0.out, decide_eq_true HX32.out]; rfl
      go_wp2_with (go_at_call 61; first | ((with_reducible refine (W1.out _).mono ?_); rintro e w' ⟨rfl, rfl⟩) | ((with_reducible refine (W2.out _).mono ?_); rintro e w' ⟨rfl, rfl⟩))
      obtain ⟨V1, hV1⟩ : ∃ V, wr = V := ⟨_, rfl⟩
      rw [hV1] at HB
      clear hV1
      go_loopw [5] (fun vi wr => ∃ j : Nat, j ≤ xn ∧ vi = .int .i64 j ∧ Hid (spTo sp j = true ∧ (0 < j → afirst sp = true)) ∧ Hid (Below W4.heap.size W4 wr)) (fun vi _ => xn - (intOf vi).toNat)
      case atStart => exact ⟨0, by omega, rfl, ⟨rfl, fun h => absurd h (by omega)⟩, Below.refl _ _⟩
      case round =>
        obtain ⟨j, hj, rfl, HPJ, HBJ⟩ := hrel
        have h32 : 1 ≤ xn ∧ xn ≤ 32 := HX32.out
        have gz := HGX.out wr HBJ.out
        obtain ⟨z0, z1, z2⟩ := gz
        by_cases hlt : j < xn
        · have e5 : (j : Int) < xn := by omega
          obtain ⟨s, hs⟩ : ∃ s, sp[j]? = some s := ⟨_, List.getElem?_eq_getElem (by have := HXL.out; omega)⟩
          have ms := HYC.out wr HBJ.out j s hs
          obtain ⟨m0, m1⟩ := ms
          have hixj := fun W => yix W j hlt
          have hnext := spTo_next sp j
          rw [HPJ.out.1, Bool.true_and] at hnext
          have HNOJ : Hid (spAt sp j = false → R = false) := fun h => HBAD.out (by rw [HB1.out, spTo_no h hlt, Bool.and_false])
          obtain ⟨f, cc⟩ := s
          simp only at m0 m1
          obtain ⟨g6, hg6⟩ : ∃ g, wr.heap.size = g := ⟨_, rfl⟩
          obtain ⟨W6, hW6⟩ : ∃ V, wr.alloc (.cells #[.int .i64 f, .int .i64 cc] 49) = V := ⟨_, rfl⟩
          have hr6 : W6.heap[g6]? = some (.cells #[.int .i64 f, .int .i64 cc] 49 (0, 0)) := by rw [← hW6, ← hg6]; exact heap_alloc_new _ _
          have hb6 : Below W4.heap.size W4 W6 := by rw [← hW6]; exact bw_al HBJ.out _
          have HB6 := Lib.hid hb6
          obtain ⟨g0, g1⟩ := spell_cells hr6
          obtain ⟨b4, hb4'⟩ : ∃ b, decide (0 ≤ f ∧ f ≤ 1099511627776) = b := ⟨_, rfl⟩
          obtain ⟨b5, hb5'⟩ : ∃ b, decide (0 ≤ cc ∧ cc ≤ 15) = b := ⟨_, rfl⟩
          have hspw : spW (f, cc) = (b4 && b5) := by unfold spW; simp only; rw [hb4', hb5']
          have W4' := Lib.hid (fun V => from_any f 0 1099511627776 V)
          have W5' := Lib.hid (fun V => from_any cc 0 15 V)
          rw [hb4'] at W4'
          rw [hb5'] at W5'
          have HSJ := Lib.hid hs
          have HSPW := Lib.hid hspw
          have HNXJ := Lib.hid hnext
          have HLTJ := Lib.hid hlt
          have hz0 : Hid (j = 0 → spAt sp j = (b4 && b5)) := fun h => by subst h; rw [spAt0 hs, hspw]
          have HFI : Hid (j = 0 → afirst sp = decide (f = 0)) := fun h => by
            subst h
            cases sp with
            | nil => simp at hs
            | cons s L => simp at hs; subst hs; rfl
          have hwbad : Hid ((b4 && b5) = false → R = false) := fun h => by
            refine HNOJ.out ?_
            by_cases h0 : j = 0
            · rw [hz0.out h0, h]
            · obtain ⟨p, hp⟩ : ∃ p, sp[j - 1]? = some p := ⟨_, List.getElem?_eq_getElem (by have := HXL.out; have := HLTJ.out; omega)⟩
              rw [spAtS (by omega) HSJ.out hp, HSPW.out, h]
              rfl
          have HBW6 : Hid (Below w.heap.size w W6) := HB4.out.trans (HB6.out.mono HB4.out.size)
          clear hs hb6 hr6 hb4' hb5' hspw hnext hlt
          cases b4 with
          | false =>
            have HF : Hid (R = false) := hwbad.out rfl
            go_wp2_with (go_at_call 61; first | ((with_reducible refine (W4'.out _).mono ?_); rintro e w' ⟨rfl, rfl⟩) | ((with_reducible refine (W5'.out _).mono ?_); rintro e w' ⟨rfl, rfl⟩))
            go_ret
            exact ⟨by rw [HF.out]; rfl, HBW6.out⟩
          | true =>
          cases b5 with
          | false =>
            have HF : Hid (R = false) := hwbad.out rfl
            go_wp2_with (go_at_call 61; first | ((with_reducible refine (W4'.out _).mono ?_); rintro e w' ⟨rfl, rfl⟩) | ((with_reducible refine (W5'.out _).mono ?_); rintro e w' ⟨rfl, rfl⟩))
            go_ret
            exact ⟨by rw [HF.out]; rfl, HBW6.out⟩
          | true =>
          clear hwbad
          have cq := HGX.out W6 HB6.out
          obtain ⟨zz0, zz1, zz2⟩ := cq
          clear z0 z1
          by_cases hj0 : 0 < j
          case neg =>
            have hjz : j = 0 := by omega
            have ej : ((j : Int) == 0) = true := by simp; omega
            by_cases hf0 : f = 0
            · have ef : (f != 0) = false := by simpa using hf0
              have hnx : Hid (spTo sp (j + 1) = true ∧ (0 < j + 1 → afirst sp = true)) := ⟨by rw [HNXJ.out, hz0.out hjz]; rfl, fun _ => by rw [HFI.out hjz, decide_eq_true hf0]⟩
              clear hz0 HNXJ hf0 hjz HFI
              go_wp2_with (go_at_call 61; first | ((with_reducible refine (W4'.out _).mono ?_); rintro e w' ⟨rfl, rfl⟩) | ((with_reducible refine (W5'.out _).mono ?_); rintro e w' ⟨rfl, rfl⟩))
              go_quiet (fail)
              have hbq : Hid (Below W4.heap.size W4 (W6.drewN nq)) := below_drewN HB6.out nq
              go_wp2
              go_roundw
              case rel => exact ⟨j + 1, by have := HLTJ.out; omega, by go_num, hnx, hbq⟩
              case measure => simp [intOf]; have := HLTJ.out; omega
            · have ef : (f != 0) = true := by simpa using hf0
              have HF : Hid (R = false) := HBAD.out (by rw [HB1.out, HFI.out hjz, decide_eq_false hf0]; rfl)
              clear hf0 hjz HFI
              go_wp2_with (go_at_call 61; first | ((with_reducible refine (W4'.out _).mono ?_); rintro e w' ⟨rfl, rfl⟩) | ((with_reducible refine (W5'.out _).mono ?_); rintro e w' ⟨rfl, rfl⟩))
              go_ret
              exact ⟨by rw [HF.out]; rfl, HBW6.out⟩
          obtain ⟨p, hp⟩ : ∃ p, sp[j - 1]? = some p := ⟨_, List.getElem?_eq_getElem (by have := HXL.out; have := HLTJ.out; omega)⟩
          have hat := spAtS hj0 HSJ.out hp
          rw [HSPW.out] at hat
          have np := HYC.out W6 HB6.out (j - 1) p hp
          obtain ⟨n0, n1⟩ := np
          have hixp := fun W => yix W (j - 1) (by have := HLTJ.out; omega)
          rw [show ((j - 1 : Nat) : Int) = (j : Int) - 1 by omega] at hixp
          obtain ⟨pf, pc⟩ := p
          simp only at n0 n1 hat
          have HAT := Lib.hid hat
          have ej : ((j : Int) == 0) = false := by simp; omega
          have hjb : j ≤ 32 := by have := HLTJ.out; omega
          have hfst : afirst sp = true := HPJ.out.2 hj0
          have HFST := Lib.hid hfst
          clear hp hat hz0 hfst HFI
          go_wp2_with (go_at_call 61; first | ((with_reducible refine (W4'.out _).mono ?_); rintro e w' ⟨rfl, rfl⟩) | ((with_reducible refine (W5'.out _).mono ?_); rintro e w' ⟨rfl, rfl⟩))
          by_cases e5' : f ≤ pf
          · have HF : Hid (R = false) := HNOJ.out (by rw [HAT.out, decide_eq_false (by omega : ¬ pf < f)]; rfl)
            go_quiet (fail)
            have hbq : Hid (Below w.heap.size w (W6.drewN nq)) := below_drewN HBW6.out nq
            go_wp2
            go_ret
            exact ⟨by rw [HF.out]; rfl, hbq.out⟩
          · by_cases e6 : cc = pc
            · have HF : Hid (R = false) := HNOJ.out (by rw [HAT.out, decide_eq_true e6]; simp)
              have e7 : (cc == pc) = true := by simpa using e6
              clear e6
              go_quiet (fail)
              have hbq : Hid (Below w.heap.size w (W6.drewN nq)) := below_drewN HBW6.out nq
              go_wp2
              go_ret
              exact ⟨by rw [HF.out]; rfl, hbq.out⟩
            · have hnx : Hid (spTo sp (j + 1) = true ∧ (0 < j + 1 → afirst sp = true)) := ⟨by rw [HNXJ.out, HAT.out, decide_eq_true (by omega : pf < f), decide_eq_false e6]; rfl, fun _ => HFST.out⟩
              have e7 : (cc == pc) = false := by simpa using e6
              clear e6 HNXJ
              go_quiet (fail)
              have hbq : Hid (Below W4.heap.size W4 (W6.drewN nq)) := below_drewN HB6.out nq
              go_wp2
              go_roundw
              case rel => exact ⟨j + 1, by have := HLTJ.out; omega, by go_num, hnx, hbq⟩
              case measure => simp [intOf]; have := HLTJ.out; omega
        · obtain rfl : j = xn := by omega
          have e5 : ¬ (j : Int) < j := by omega
          have hb0 : b0 = true := by rw [HB1.out, HPJ.out.1, HPJ.out.2 (by omega)]; rfl
          have HBB0 := Lib.hid hb0
          have HBW : Hid (Below w.heap.size w wr) := HB4.out.trans (HBJ.out.mono HB4.out.size)
          clear hb0 hlt
          have hkb : k ≤ 9223372036854775807 := by have := HLT2.out; omega
          by_cases hk0 : 0 < k
          case neg =>
            have hnx : Hid (aTo (accD l) (k + 1) = true) := by show _ = _; rw [HNX.out, HAT0.out (by omega), HBB0.out]
            clear HNX
            go_wp2_with fail
            go_quiet (fail)
            have hbq : Hid (Below w.heap.size w (wr.drewN nq)) := below_drewN HBW.out nq
            go_wp2
            go_roundw
            case rel => exact ⟨k + 1, by have := HLT2.out; omega, by go_num, hnx, hbq⟩
            case measure => simp [intOf]; have := HLT2.out; omega
          obtain ⟨p, hp⟩ : ∃ p, l[k - 1]? = some p := ⟨_, List.getElem?_eq_getElem (by have := HN.out; have := HLT2.out; omega)⟩
          have hat := HNAT.out p.1 hk0 (accD_get hp)
          rw [HBB0.out] at hat
          have n0 := HC.out (k - 1) p hp 0 _ rfl
          rw [Nat.add_zero] at n0
          have hbl := HLT.out (k - 1) (by have := HLT2.out; omega)
          rw [← HBW.out.cell (by exact hbl)] at n0
          have hixp := fun W => hix W (k - 1) (by have := HLT2.out; omega)
          rw [show ((k - 1 : Nat) : Int) = (k : Int) - 1 by omega] at hixp
          have HAT := Lib.hid hat
          clear hp hat hbl
          by_cases e6 : id ≤ p.1.id
          · have HF : Hid (R = false) := HNO.out (by rw [HAT.out, decide_eq_false (by omega : ¬ p.1.id < id)]; rfl)
            go_wp2_with fail
            go_quiet (fail)
            have hbq : Hid (Below w.heap.size w (wr.drewN nq)) := below_drewN HBW.out nq
            go_wp2
            go_ret
            exact ⟨by rw [HF.out]; rfl, hbq.out⟩
          · have hnx : Hid (aTo (accD l) (k + 1) = true) := by show _ = _; rw [HNX.out, HAT.out, decide_eq_true (by omega : p.1.id < id)]; rfl
            clear HNX
            go_wp2_with fail
            go_quiet (fail)
            have hbq : Hid (Below w.heap.size w (wr.drewN nq)) := below_drewN HBW.out nq
            go_wp2
            go_roundw
            case rel => exact ⟨k + 1, by have := HLT2.out; omega, by go_num, hnx, hbq⟩
            case measure => simp [intOf]; have := HLT2.out; omega
    · obtain rfl : k = n := by omega
      have e2 : ¬ (k : Int) < k := by omega
      by_cases h4 : k ≤ 4096
      · have e3 : (k : Int) ≤ 4096 := by omega
        have HF : Hid (R = true) := by show _ = _; rw [HV.out, HP.out, decide_eq_true h4]; rfl
        go_wp2
        go_ret
        exact ⟨by rw [HF.out]; rfl, HB.out⟩
      · have e3 : ¬ (k : Int) ≤ 4096 := by omega
        have HF : Hid (R = false) := by show _ = _; rw [HV.out, decide_eq_false h4, Bool.and_false]
        go_wp2
        go_ret
        exact ⟨by rw [HF.out]; rfl, HB.out⟩
end Go.Proofs.Ytjnbdeopoohnmaa
