/- Layer 36 (snap): the statement SnapOpens, the walk. -/
import Derived.Test.YtbonapdainlpjaaSp11
set_option linter.unusedSimpArgs false
namespace Go.Proofs.Ytbonapdainlpjaa
open Go.RowKit Go.Sort

theorem simg_reg (s : BSt) (fr n : Nat) (h : fr + n ≤ s.n) : ((bimg s).drop (fr * 64)).take ((fr + n) * 64 - fr * 64) = lreg s fr n := by
  have hm : (fr + n) * 64 = fr * 64 + n * 64 := Nat.add_mul _ _ _
  apply List.ext_getElem?
  intro j
  unfold bimg lreg
  rw [List.getElem?_take, List.getElem?_drop, List.getElem?_map, List.getElem?_map]
  by_cases hj : j < n * 64
  · rw [if_pos (by omega), List.getElem?_range (by omega), List.getElem?_range hj]
    rfl
  · rw [if_neg (by omega), List.getElem?_eq_none (l := List.range _) (by simpa using hj)]
    rfl

theorem jOpen_small (w : World) (B g gb : Nat) (fo : Option Nat) (s : BSt) (hs : StAt w B g gb fo s) (h : s.n / 2 = 0) : Calls Try.prog 56 #[.pointer (some ⟨g, 0, none⟩)] w fun e w' => e = .returned (.tuple #[.pointer none, .int .i64 2]) ∧ w = w' := by
  have hn1 := hs.n1
  obtain ⟨M, hM⟩ : ∃ M, s.n = M := ⟨_, rfl⟩
  have CL := Lib.hid (bLen_any g gb fo s B w hs)
  rw [hM] at CL h hn1
  have hdiv : ((M : Int) / 2) = 0 := by omega
  have e0 : ((M : Int) == 0) = false := by simp; omega
  clear hM hs
  go_enter Try.func56, Try.ntmps56
  go_wp2_with (go_at_call 27; refine CL.out.mono ?_; rintro e w' ⟨rfl, hw⟩; obtain rfl := hw.symm)
  go_ret2
  exact ⟨rfl, rfl⟩

theorem sok_pick (R0 R1 : List (List UInt8)) : sok (sbank R0 R1 (spick R0 R1)) := by
  by_cases a0 : sok R0 <;> by_cases a1 : sok R1
  · cases hp : spick R0 R1
    · have hn : snew R0 R1 = false := decide_eq_false (fun h => h.1 a0)
      rw [sbank_false, hn]; exact a0
    · exact a1
  · have hp : spick R0 R1 = false := decide_eq_false (fun h => a1 h.1)
    have hn : snew R0 R1 = false := decide_eq_false (fun h => h.1 a0)
    rw [hp, sbank_false, hn]; exact a0
  · have hp : spick R0 R1 = true := decide_eq_true ⟨a1, .inl a0⟩
    rw [hp]; exact a1
  · have hp : spick R0 R1 = false := decide_eq_false (fun h => a1 h.1)
    have hn : snew R0 R1 = true := decide_eq_true ⟨a0, a1⟩
    rw [hp, sbank_false, hn]; exact sok_srec _ _ _

/-- what the law asks an open journal -/
structure SoJ (w : World) (v : Value) (R : List (List UInt8)) (A : Nat) : Prop where
  gen : ∀ V, Below w.heap.size w V → Calls Try.prog 58 #[v] V fun e w' => e = .returned (.int .i64 (A : Nat)) ∧ Below V.heap.size V w'
  snap : ∀ V, Below w.heap.size w V → Calls Try.prog 59 #[v] V (SnapPost V (ssnap R))
  recs : ∀ V, Below w.heap.size w V → Calls Try.prog 60 #[v] V (RecsPost V (srecs R))

theorem SoJ.of {w : World} {B jp g : Nat} {L : Bool → LV} {u : Bool} {h : Nat} {dead : Bool} {R : List (List UInt8)} {A : Nat} (hj : JAt w B jp g L u h dead) (hr : (L u).d.recs = R) (hs : sok R) (hgd : ∀ r ∈ R, lgood r) (hA : sgen R = A) (hle : A ≤ 4611686018427387904) : SoJ w (.pointer (some ⟨jp, 0, none⟩)) R A := by
  subst hr hA
  exact ⟨fun V hV => jGeneration_any V B jp g L u h dead (hj.below hV) hle, fun V hV => jSnapshot_any V B jp g L u h dead (hj.below hV) hs hgd, fun V hV => jRecords_any V B jp g L u h dead (hj.below hV) hs⟩
theorem SoJ.below {w w' : World} {v : Value} {R : List (List UInt8)} {A : Nat} (h : SoJ w v R A) (hb : Below w.heap.size w w') : SoJ w' v R A :=
  ⟨fun V hV => h.gen V (hb.trans (hV.mono hb.size)), fun V hV => h.snap V (hb.trans (hV.mono hb.size)), fun V hV => h.recs V (hb.trans (hV.mono hb.size))⟩

set_option maxRecDepth 100000 in
set_option maxHeartbeats 3200000 in
theorem so_walk (v : Value) (l : List UInt8) (w : World) (h : Bs w v l) : Calls Try.prog 10 #[v] w fun e w' => e = .returned (.bool true) ∧ Below w.heap.size w w' := by
  have CA := Lib.hid (sAwake_any w)
  obtain ⟨L, hL⟩ : ∃ L, l.length = L := ⟨_, rfl⟩
  obtain ⟨a, c, hs⟩ := h.shape
  rw [hL] at hs
  subst hs
  have HL := Lib.hid hL
  have HV := Lib.hid h
  clear h hL
  go_enter Try.func10, Try.ntmps10
  go_wp2_with fail
  refine CA.out.mono ?_
  rintro e w1 ⟨rfl, hb1⟩
  have HB1 := Lib.hid hb1
  clear hb1
  by_cases h64 : L < 64
  · have e1 : (L : Int) < 64 := by omega
    go_wp2
    go_ret
    exact ⟨rfl, HB1.out⟩
  · have e1 : ¬ (L : Int) < 64 := by omega
    by_cases h2000 : 2000 < L
    · have e2 : (2000 : Int) < L := by omega
      go_wp2
      go_ret
      exact ⟨rfl, HB1.out⟩
    · have e2 : ¬ (2000 : Int) < L := by omega
      have CS := Lib.hid (sStore_any (.slice a L c) l w1 (HV.out.below HB1.out) (by rw [HL.out]; omega) (by rw [HL.out]; omega))
      go_wp2_with fail
      refine CS.out.mono ?_
      rintro e w2 ⟨g, gb, rfl, hb2, hst⟩
      rw [HL.out] at hst
      obtain ⟨M, hM⟩ : ∃ M, L / 64 = M := ⟨_, rfl⟩
      rw [hM] at hst
      obtain ⟨s, hs⟩ : ∃ s : BSt, (⟨M, bfill l M, false, none, (M : Int)⟩ : BSt) = s := ⟨_, rfl⟩
      rw [hs] at hst
      have hsn : s.n = M := by rw [← hs]
      have hson : s.off = false := by rw [← hs]
      have hsf : s.fu = none := by rw [← hs]
      have hsc : s.cnt = (M : Int) := by rw [← hs]
      have hM1 : 1 ≤ M ∧ M ≤ 31 := by omega
      obtain ⟨B, hBe⟩ : ∃ B, w1.heap.size = B := ⟨_, rfl⟩
      rw [hBe] at hst hb2
      have CI := Lib.hid (bImage_any g gb none s B w2 hst)
      have HBE := Lib.hid hBe
      have HST2 := Lib.hid hst
      have HB2 := Lib.hid hb2
      have HSN := Lib.hid hsn
      have HSON := Lib.hid hson
      have HSF := Lib.hid hsf
      have HSC := Lib.hid hsc
      clear hst hb2 hs hsn hson hsf hsc hM hBe h64 h2000 CS CA
      go_wp2_with fail
      refine CI.out.mono ?_
      rintro e w3 ⟨v3, rfl, ho3, hb3⟩
      obtain ⟨IM, hIM⟩ : ∃ IM, (bimg s).length = IM := ⟨_, rfl⟩
      have hIM2 : IM = M * 64 := by rw [← hIM]; unfold bimg; rw [List.length_map, List.length_range, HSN.out]
      obtain ⟨a3, c3, hs3⟩ := ho3.shape
      rw [hIM] at hs3
      subst hs3
      have hst3 := HST2.out.below hb3
      have hb23 : Below w.heap.size w w3 := by
        have h1 := HB2.out.trans (hb3.mono HB2.out.size |> fun h => (hb3.mono (by have := HB2.out.size; have := HBE.out; omega)))
        have h2 := HBE.out
        exact HB1.out.trans (h1.mono (by rw [← h2]; exact HB1.out.size))
      have hBs3 : B ≤ w3.heap.size := by have := HB2.out.size; have := hb3.size; have := HBE.out; omega
      have HB3 := Lib.hid hb23
      have HST3 := Lib.hid hst3
      have HO3 := Lib.hid ho3
      have HBS3 := Lib.hid hBs3
      have HIM := Lib.hid hIM
      have HIM2 := Lib.hid hIM2
      obtain ⟨h, hh⟩ : ∃ h, M / 2 = h := ⟨_, rfl⟩
      have hhalf : ((IM : Int) / 64 / 2 * 64) = ((h * 64 : Nat) : Int) := by omega
      have HHALF := Lib.hid hhalf
      have HH := Lib.hid hh
      clear hb23 hst3 ho3 hBs3 hIM hb3 CI
      by_cases h0 : h = 0
--<Z
      · subst h0
        have CO := Lib.hid (jOpen_small w3 B g gb none s HST3.out (by rw [HSN.out]; exact hh))
        have ez : ((IM : Int) / 64 / 2 * 64) = 0 := by omega
        have ez2 : (((IM : Int) / 64 / 2 * 64) == 0) = true := by rw [ez]; rfl
        have bz : (IM : Int) ≤ 2000 := by omega
        clear hhalf hh hIM2
        go_wp2_with fail
        refine CO.out.mono ?_
        rintro e w4 ⟨rfl, hw⟩
        obtain rfl := hw.symm
        go_wp2
        go_ret
        exact ⟨rfl, HB3.out⟩
-->Z
      · obtain ⟨R0, hR0⟩ : ∃ R, (lrecs (lreg s 0 h)).1 = R := ⟨_, rfl⟩
        obtain ⟨R1, hR1⟩ : ∃ R, (lrecs (lreg s h h)).1 = R := ⟨_, rfl⟩
        have CO := Lib.hid (jOpen_any w3 B g gb none s h R0 R1 HST3.out HSON.out (by rw [HSN.out]; exact hh) (by omega) (by rw [HSC.out]; omega) (by rw [HSC.out]; omega) (Safe.none HSF.out _) HBS3.out hR0 hR1)
        have ez2 : (((IM : Int) / 64 / 2 * 64) == 0) = false := by rw [hhalf]; simp; omega
        have bz : (IM : Int) ≤ 2000 := by omega
        have bz0 : (0 : Int) ≤ (IM : Int) / 64 / 2 * 64 := by omega
        have bz1 : (IM : Int) / 64 / 2 * 64 ≤ 2000 := by omega
        have HR0 := Lib.hid hR0
        have HR1 := Lib.hid hR1
        have H0 := Lib.hid h0
        clear hhalf hh hIM2 hR0 hR1 h0
        go_wp2_with fail
        refine CO.out.mono ?_
        rintro e w4 ⟨fo4, s4, hst4, ho4, -, -, hr4⟩
        obtain ⟨A, hA⟩ : ∃ A, sgen (sbank R0 R1 (spick R0 R1)) = A := ⟨_, rfl⟩
        rw [hA] at hr4
        obtain ⟨vj, E, he, hcase⟩ : ∃ vj E, e = .returned (.tuple #[vj, .int .i64 E]) ∧ ((A ≤ 4611686018427387904 ∧ E = 0 ∧ SoJ w4 vj (sbank R0 R1 (spick R0 R1)) A) ∨ (4611686018427387904 < A ∧ E = 3 ∧ vj = .pointer none)) := by
          rcases hr4 with ⟨h1, jp, L, rfl, hj, _, hL⟩ | ⟨h1, rfl⟩
          · have h2 := (hL (spick R0 R1)).1.good
            rw [(hL (spick R0 R1)).2] at h2
            exact ⟨_, _, rfl, .inl ⟨h1, rfl, SoJ.of hj (hL _).2 (sok_pick _ _) h2 hA h1⟩⟩
          · exact ⟨_, _, rfl, .inr ⟨h1, rfl, rfl⟩⟩
        subst he
        have HCASE := Lib.hid hcase
        have HA := Lib.hid hA
        have hb4 : Below w.heap.size w w4 := HB3.out.trans (ho4.below (fun k hk => Nat.le_trans (by rw [← HBE.out]; exact HB1.out.size) (HST3.out.foot k hk).1) HB3.out.size)
        have HB4 := Lib.hid hb4
        have hown4 : Ob w4 w2.heap.size 5 (.slice a3 IM c3) (bimg s) := HO3.out.only ho4 (fun k hk hf => by
          obtain ⟨A, hA⟩ := HO3.out.tag k hk
          obtain ⟨A', t, h1, h2⟩ := HST3.out.tag hf
          have := tags_apart hA h1
          subst this
          rcases h2 with h2 | h2 | h2 <;> exact absurd h2 (by decide))
        obtain ⟨Y, hY, hYb⟩ := Bs.upto (P := Try.prog) elB hown4.bs (h * 64) (by rw [HIM.out, HIM2.out]; have := HH.out; omega)
        have e0 := simg_reg s 0 h (by rw [HSN.out]; have := HH.out; omega)
        rw [Nat.zero_mul, List.drop_zero, Nat.zero_add, Nat.sub_zero] at e0
        rw [e0] at hYb
        obtain ⟨Z, hZ, hZb⟩ := Bs.piece (P := Try.prog) elB hown4.bs (h * 64) ((h + h) * 64) (by omega) (by rw [HIM.out, HIM2.out]; have := HH.out; omega)
        rw [simg_reg s h h (by rw [HSN.out]; have := HH.out; omega)] at hZb
        rw [← HHALF.out] at hY hZ
        rw [show (((h + h) * 64 : Nat) : Int) = 2 * ((IM : Int) / 64 / 2 * 64) by rw [HHALF.out]; omega] at hZ
        have CB0 := Lib.hid (sBank_any Y (lreg s 0 h) w4 hYb (by rw [lreg_len]; have := HH.out; omega))
        have CB1 := Lib.hid (fun V (hV : Below w4.heap.size w4 V) => sBank_any Z (lreg s h h) V (hZb.below hV) (by rw [lreg_len]; have := HH.out; omega))
        rw [HR0.out] at CB0
        rw [HR1.out] at CB1
        clear hr4 hcase hA hst4 ho4 hb4 hown4 hYb hZb e0 CO
        go_wp2_with fail
        refine CB0.out.mono ?_
        rintro e w5 ⟨p0, l0, ps0, rfl, hp0, hl0, hrb0, hb5⟩
        have HB5 := Lib.hid hb5
        have HP0 := Lib.hid hp0
        have HL0 := Lib.hid hl0
        have HRB0 := Lib.hid hrb0
        clear hp0 hl0 hrb0 hb5 CB0
        go_wp2_with fail
        refine (CB1.out w5 HB5.out).mono ?_
        rintro e w6 ⟨p1, l1, ps1, rfl, hp1, hl1, hrb1, hb6⟩
        have HB6 := Lib.hid (HB5.out.trans (hb6.mono HB5.out.size))
        have HP0 := Lib.hid (HP0.out.below hb6)
        have HL0 := Lib.hid (HL0.out.below hb6)
        have HP1 := Lib.hid hp1
        have HL1 := Lib.hid hl1
        have HRB1 := Lib.hid hrb1
        clear hp1 hl1 hrb1 hb6 CB1 hY hZ
        obtain ⟨G0, hG0⟩ : ∃ G, sgen R0 = G := ⟨_, rfl⟩
        obtain ⟨G1, hG1⟩ : ∃ G, sgen R1 = G := ⟨_, rfl⟩
        have hl0 : G0 < 18446744073709551616 := by rw [← hG0]; exact sgen_lt _
        have hl1 : G1 < 18446744073709551616 := by rw [← hG1]; exact sgen_lt _
        obtain ⟨b0, hb0⟩ : ∃ b, decide (sok R0) = b := ⟨_, rfl⟩
        obtain ⟨b1, hb1⟩ : ∃ b, decide (sok R1) = b := ⟨_, rfl⟩
        rw [hG1, hb1]
        rw [hG0, hb0]
        have HSN : Hid (snew R0 R1 = (!b0 && !b1)) := by show _ = _; rw [← hb0, ← hb1]; unfold snew; by_cases a0 : sok R0 <;> by_cases a1 : sok R1 <;> simp [a0, a1]
        have HSP : Hid (spick R0 R1 = (b1 && (!b0 || decide (G0 < G1)))) := by show _ = _; rw [← hb0, ← hb1]; unfold spick; rw [hG0, hG1]; by_cases a0 : sok R0 <;> by_cases a1 : sok R1 <;> by_cases a2 : G0 < G1 <;> simp [a0, a1, a2]
        have HG0 := Lib.hid hG0
        have HG1 := Lib.hid hG1
        clear hG0 hG1 hb0 hb1
        cases b0
        · cases b1
          · have hRR : sbank R0 R1 (spick R0 R1) = [srec 1 []] := by rw [HSP.out]; simp only [Bool.not_false, Bool.true_or, Bool.and_true]; rw [sbank_false, HSN.out]; rfl
            rw [hRR] at HA HCASE
            obtain rfl : A = 1 := by rw [← HA.out]; exact sgen_srec (by omega) _ _
            have HT : Hid (Bs w6 (.slice none 0 0) (ssnap [srec 1 []]) ∧ Rcs w6 (.slice none 0 0) [] ∧ rbs [] = srecs [srec 1 []]) := ⟨by rw [ssnap_srec]; exact Rd.nil _ _, ⟨Gs.nil _, by simp⟩, by rw [srecs_srec]; rfl⟩
            rcases HCASE.out with ⟨hle, rfl, hso⟩ | ⟨hlt, rfl, rfl⟩
            · have CG := fun V hV => hso.gen V hV
              rw [show ((1 : Nat) : Int) = 1 from rfl] at CG
              have HCG := Lib.hid CG
              have HSO := Lib.hid hso
              clear hso CG HCASE hRR HSN HSP HA
              go_wp2_with fail
              refine (HCG.out w6 HB6.out).mono ?_
              rintro e w7 ⟨rfl, hb7⟩
              have HB67 := Lib.hid hb7
              have HB7 := Lib.hid (HB6.out.trans (hb7.mono HB6.out.size))
              clear hb7
              go_wp2_with fail
              refine (HSO.out.snap w7 HB7.out).mono ?_
              rintro e w8 ⟨v8, rfl, ho8, hb8⟩
              have HB68 := Lib.hid (HB67.out.trans (hb8.mono HB67.out.size))
              have HB8 := Lib.hid (HB7.out.trans (hb8.mono HB7.out.size))
              have csm := same_any v8 (.slice none 0 0) _ _ w8 ho8.bs (HT.out.1.below HB68.out)
              rw [beq_self_true] at csm
              have CSM := Lib.hid csm
              clear hb8 ho8 csm
              go_wp2_with fail
              refine CSM.out.mono ?_
              rintro e w9 ⟨rfl, hb9⟩
              have HB69 := Lib.hid (HB68.out.trans (hb9.mono HB68.out.size))
              have HB9 := Lib.hid (HB8.out.trans (hb9.mono HB8.out.size))
              clear hb9
              go_wp2_with fail
              refine (HSO.out.recs w9 HB9.out).mono ?_
              rintro e w10 ⟨v10, ps10, rfl, hrc, hrb, hb10⟩
              have HB610 := Lib.hid (HB69.out.trans (hb10.mono HB69.out.size))
              have HB10 := Lib.hid (HB9.out.trans (hb10.mono HB9.out.size))
              have crs := rlsame_any v10 (.slice none 0 0) ps10 [] w10 hrc (HT.out.2.1.below HB610.out)
              rw [hrb, HT.out.2.2, beq_self_eq_true] at crs
              have CRS := Lib.hid crs
              clear hrc hrb hb10 crs
              go_wp2_with fail
              refine CRS.out.mono ?_
              rintro e w11 ⟨rfl, hb11⟩
              have HB11 := Lib.hid (HB10.out.trans (hb11.mono HB10.out.size))
              clear hb11
              go_wp2
              go_ret
              exact ⟨rfl, HB4.out.trans (HB11.out.mono HB4.out.size)⟩
            · omega
          · have hRR : sbank R0 R1 (spick R0 R1) = R1 := by rw [HSP.out]; rfl
            rw [hRR] at HA HCASE
            obtain rfl : G1 = A := by rw [← HA.out, HG1.out]
            have HT : Hid (Bs w6 p1 (ssnap R1) ∧ Rcs w6 l1 ps1 ∧ rbs ps1 = srecs R1) := ⟨HP1.out, HL1.out, HRB1.out⟩
            rcases HCASE.out with ⟨hle, rfl, hso⟩ | ⟨hlt, rfl, rfl⟩
            · have e8 : ¬ (4611686018427387904 : Int) < (G1 : Int) := by omega
              have CG := fun V hV => hso.gen V hV
              have HCG := Lib.hid CG
              have HSO := Lib.hid hso
              clear hso CG HCASE hRR HSN HSP HA
              go_wp2_with fail
              refine (HCG.out w6 HB6.out).mono ?_
              rintro e w7 ⟨rfl, hb7⟩
              have HB67 := Lib.hid hb7
              have HB7 := Lib.hid (HB6.out.trans (hb7.mono HB6.out.size))
              clear hb7
              go_wp2_with fail
              refine (HSO.out.snap w7 HB7.out).mono ?_
              rintro e w8 ⟨v8, rfl, ho8, hb8⟩
              have HB68 := Lib.hid (HB67.out.trans (hb8.mono HB67.out.size))
              have HB8 := Lib.hid (HB7.out.trans (hb8.mono HB7.out.size))
              have csm := same_any v8 p1 _ _ w8 ho8.bs (HT.out.1.below HB68.out)
              rw [beq_self_true] at csm
              have CSM := Lib.hid csm
              clear hb8 ho8 csm
              go_wp2_with fail
              refine CSM.out.mono ?_
              rintro e w9 ⟨rfl, hb9⟩
              have HB69 := Lib.hid (HB68.out.trans (hb9.mono HB68.out.size))
              have HB9 := Lib.hid (HB8.out.trans (hb9.mono HB8.out.size))
              clear hb9
              go_wp2_with fail
              refine (HSO.out.recs w9 HB9.out).mono ?_
              rintro e w10 ⟨v10, ps10, rfl, hrc, hrb, hb10⟩
              have HB610 := Lib.hid (HB69.out.trans (hb10.mono HB69.out.size))
              have HB10 := Lib.hid (HB9.out.trans (hb10.mono HB9.out.size))
              have crs := rlsame_any v10 l1 ps10 ps1 w10 hrc (HT.out.2.1.below HB610.out)
              rw [hrb, HT.out.2.2, beq_self_eq_true] at crs
              have CRS := Lib.hid crs
              clear hrc hrb hb10 crs
              go_wp2_with fail
              refine CRS.out.mono ?_
              rintro e w11 ⟨rfl, hb11⟩
              have HB11 := Lib.hid (HB10.out.trans (hb11.mono HB10.out.size))
              clear hb11
              go_wp2
              go_ret
              exact ⟨rfl, HB4.out.trans (HB11.out.mono HB4.out.size)⟩
            · have e8 : (4611686018427387904 : Int) < (G1 : Int) := by omega
              clear HCASE hRR HSN HSP HA
              go_wp2
              go_ret
              exact ⟨rfl, HB4.out.trans (HB6.out.mono HB4.out.size)⟩
        · cases b1
          · have hRR : sbank R0 R1 (spick R0 R1) = R0 := by rw [HSP.out]; simp only [Bool.false_and]; rw [sbank_false, HSN.out]; rfl
            rw [hRR] at HA HCASE
            obtain rfl : G0 = A := by rw [← HA.out, HG0.out]
            have HT : Hid (Bs w6 p0 (ssnap R0) ∧ Rcs w6 l0 ps0 ∧ rbs ps0 = srecs R0) := ⟨HP0.out, HL0.out, HRB0.out⟩
            rcases HCASE.out with ⟨hle, rfl, hso⟩ | ⟨hlt, rfl, rfl⟩
            · have e8 : ¬ (4611686018427387904 : Int) < (G0 : Int) := by omega
              have CG := fun V hV => hso.gen V hV
              have HCG := Lib.hid CG
              have HSO := Lib.hid hso
              clear hso CG HCASE hRR HSN HSP HA
              go_wp2_with fail
              refine (HCG.out w6 HB6.out).mono ?_
              rintro e w7 ⟨rfl, hb7⟩
              have HB67 := Lib.hid hb7
              have HB7 := Lib.hid (HB6.out.trans (hb7.mono HB6.out.size))
              clear hb7
              go_wp2_with fail
              refine (HSO.out.snap w7 HB7.out).mono ?_
              rintro e w8 ⟨v8, rfl, ho8, hb8⟩
              have HB68 := Lib.hid (HB67.out.trans (hb8.mono HB67.out.size))
              have HB8 := Lib.hid (HB7.out.trans (hb8.mono HB7.out.size))
              have csm := same_any v8 p0 _ _ w8 ho8.bs (HT.out.1.below HB68.out)
              rw [beq_self_true] at csm
              have CSM := Lib.hid csm
              clear hb8 ho8 csm
              go_wp2_with fail
              refine CSM.out.mono ?_
              rintro e w9 ⟨rfl, hb9⟩
              have HB69 := Lib.hid (HB68.out.trans (hb9.mono HB68.out.size))
              have HB9 := Lib.hid (HB8.out.trans (hb9.mono HB8.out.size))
              clear hb9
              go_wp2_with fail
              refine (HSO.out.recs w9 HB9.out).mono ?_
              rintro e w10 ⟨v10, ps10, rfl, hrc, hrb, hb10⟩
              have HB610 := Lib.hid (HB69.out.trans (hb10.mono HB69.out.size))
              have HB10 := Lib.hid (HB9.out.trans (hb10.mono HB9.out.size))
              have crs := rlsame_any v10 l0 ps10 ps0 w10 hrc (HT.out.2.1.below HB610.out)
              rw [hrb, HT.out.2.2, beq_self_eq_true] at crs
              have CRS := Lib.hid crs
              clear hrc hrb hb10 crs
              go_wp2_with fail
              refine CRS.out.mono ?_
              rintro e w11 ⟨rfl, hb11⟩
              have HB11 := Lib.hid (HB10.out.trans (hb11.mono HB10.out.size))
              clear hb11
              go_wp2
              go_ret
              exact ⟨rfl, HB4.out.trans (HB11.out.mono HB4.out.size)⟩
            · have e8 : (4611686018427387904 : Int) < (G0 : Int) := by omega
              clear HCASE hRR HSN HSP HA
              go_wp2
              go_ret
              exact ⟨rfl, HB4.out.trans (HB6.out.mono HB4.out.size)⟩
          · by_cases hc : G0 < G1
            · have e7 : (G0 : Int) < (G1 : Int) := by omega
              have hRR : sbank R0 R1 (spick R0 R1) = R1 := by rw [HSP.out]; rw [decide_eq_true hc]; rfl
              rw [hRR] at HA HCASE
              obtain rfl : G1 = A := by rw [← HA.out, HG1.out]
              have HT : Hid (Bs w6 p1 (ssnap R1) ∧ Rcs w6 l1 ps1 ∧ rbs ps1 = srecs R1) := ⟨HP1.out, HL1.out, HRB1.out⟩
              rcases HCASE.out with ⟨hle, rfl, hso⟩ | ⟨hlt, rfl, rfl⟩
              · have e8 : ¬ (4611686018427387904 : Int) < (G1 : Int) := by omega
                have CG := fun V hV => hso.gen V hV
                have HCG := Lib.hid CG
                have HSO := Lib.hid hso
                clear hso CG HCASE hRR HSN HSP HA
                go_wp2_with fail
                refine (HCG.out w6 HB6.out).mono ?_
                rintro e w7 ⟨rfl, hb7⟩
                have HB67 := Lib.hid hb7
                have HB7 := Lib.hid (HB6.out.trans (hb7.mono HB6.out.size))
                clear hb7
                go_wp2_with fail
                refine (HSO.out.snap w7 HB7.out).mono ?_
                rintro e w8 ⟨v8, rfl, ho8, hb8⟩
                have HB68 := Lib.hid (HB67.out.trans (hb8.mono HB67.out.size))
                have HB8 := Lib.hid (HB7.out.trans (hb8.mono HB7.out.size))
                have csm := same_any v8 p1 _ _ w8 ho8.bs (HT.out.1.below HB68.out)
                rw [beq_self_true] at csm
                have CSM := Lib.hid csm
                clear hb8 ho8 csm
                go_wp2_with fail
                refine CSM.out.mono ?_
                rintro e w9 ⟨rfl, hb9⟩
                have HB69 := Lib.hid (HB68.out.trans (hb9.mono HB68.out.size))
                have HB9 := Lib.hid (HB8.out.trans (hb9.mono HB8.out.size))
                clear hb9
                go_wp2_with fail
                refine (HSO.out.recs w9 HB9.out).mono ?_
                rintro e w10 ⟨v10, ps10, rfl, hrc, hrb, hb10⟩
                have HB610 := Lib.hid (HB69.out.trans (hb10.mono HB69.out.size))
                have HB10 := Lib.hid (HB9.out.trans (hb10.mono HB9.out.size))
                have crs := rlsame_any v10 l1 ps10 ps1 w10 hrc (HT.out.2.1.below HB610.out)
                rw [hrb, HT.out.2.2, beq_self_eq_true] at crs
                have CRS := Lib.hid crs
                clear hrc hrb hb10 crs
                go_wp2_with fail
                refine CRS.out.mono ?_
                rintro e w11 ⟨rfl, hb11⟩
                have HB11 := Lib.hid (HB10.out.trans (hb11.mono HB10.out.size))
                clear hb11
                go_wp2
                go_ret
                exact ⟨rfl, HB4.out.trans (HB11.out.mono HB4.out.size)⟩
              · have e8 : (4611686018427387904 : Int) < (G1 : Int) := by omega
                clear HCASE hRR HSN HSP HA
                go_wp2
                go_ret
                exact ⟨rfl, HB4.out.trans (HB6.out.mono HB4.out.size)⟩
            · have e7 : ¬ (G0 : Int) < (G1 : Int) := by omega
              have hRR : sbank R0 R1 (spick R0 R1) = R0 := by rw [HSP.out]; rw [decide_eq_false hc]; simp only [Bool.not_true, Bool.or_false, Bool.and_false]; rw [sbank_false, HSN.out]; rfl
              rw [hRR] at HA HCASE
              obtain rfl : G0 = A := by rw [← HA.out, HG0.out]
              have HT : Hid (Bs w6 p0 (ssnap R0) ∧ Rcs w6 l0 ps0 ∧ rbs ps0 = srecs R0) := ⟨HP0.out, HL0.out, HRB0.out⟩
              rcases HCASE.out with ⟨hle, rfl, hso⟩ | ⟨hlt, rfl, rfl⟩
              · have e8 : ¬ (4611686018427387904 : Int) < (G0 : Int) := by omega
                have CG := fun V hV => hso.gen V hV
                have HCG := Lib.hid CG
                have HSO := Lib.hid hso
                clear hso CG HCASE hRR HSN HSP HA
                go_wp2_with fail
                refine (HCG.out w6 HB6.out).mono ?_
                rintro e w7 ⟨rfl, hb7⟩
                have HB67 := Lib.hid hb7
                have HB7 := Lib.hid (HB6.out.trans (hb7.mono HB6.out.size))
                clear hb7
                go_wp2_with fail
                refine (HSO.out.snap w7 HB7.out).mono ?_
                rintro e w8 ⟨v8, rfl, ho8, hb8⟩
                have HB68 := Lib.hid (HB67.out.trans (hb8.mono HB67.out.size))
                have HB8 := Lib.hid (HB7.out.trans (hb8.mono HB7.out.size))
                have csm := same_any v8 p0 _ _ w8 ho8.bs (HT.out.1.below HB68.out)
                rw [beq_self_true] at csm
                have CSM := Lib.hid csm
                clear hb8 ho8 csm
                go_wp2_with fail
                refine CSM.out.mono ?_
                rintro e w9 ⟨rfl, hb9⟩
                have HB69 := Lib.hid (HB68.out.trans (hb9.mono HB68.out.size))
                have HB9 := Lib.hid (HB8.out.trans (hb9.mono HB8.out.size))
                clear hb9
                go_wp2_with fail
                refine (HSO.out.recs w9 HB9.out).mono ?_
                rintro e w10 ⟨v10, ps10, rfl, hrc, hrb, hb10⟩
                have HB610 := Lib.hid (HB69.out.trans (hb10.mono HB69.out.size))
                have HB10 := Lib.hid (HB9.out.trans (hb10.mono HB9.out.size))
                have crs := rlsame_any v10 l0 ps10 ps0 w10 hrc (HT.out.2.1.below HB610.out)
                rw [hrb, HT.out.2.2, beq_self_eq_true] at crs
                have CRS := Lib.hid crs
                clear hrc hrb hb10 crs
                go_wp2_with fail
                refine CRS.out.mono ?_
                rintro e w11 ⟨rfl, hb11⟩
                have HB11 := Lib.hid (HB10.out.trans (hb11.mono HB10.out.size))
                clear hb11
                go_wp2
                go_ret
                exact ⟨rfl, HB4.out.trans (HB11.out.mono HB4.out.size)⟩
              · have e8 : (4611686018427387904 : Int) < (G0 : Int) := by omega
                clear HCASE hRR HSN HSP HA
                go_wp2
                go_ret
                exact ⟨rfl, HB4.out.trans (HB6.out.mono HB4.out.size)⟩
end Go.Proofs.Ytbonapdainlpjaa
