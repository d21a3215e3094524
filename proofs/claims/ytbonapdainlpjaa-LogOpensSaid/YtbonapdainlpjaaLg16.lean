/- Layer 35 (log): the statement LogOpens, the walk. -/
import Derived.Test.YtbonapdainlpjaaLg15
import Derived.Lib.QuietBelow
set_option linter.unusedSimpArgs false
namespace Go.Proofs.Ytbonapdainlpjaa
open Go.RowKit Go.Sort

theorem bimg_reg (s : BSt) (fr n : Nat) (h : fr + n ≤ s.n) : ((bimg s).drop (fr * 64)).take ((fr + n) * 64 - fr * 64) = lreg s fr n := by
  have hm : (fr + n) * 64 = fr * 64 + n * 64 := Nat.add_mul _ _ _
  apply List.ext_getElem?
  intro j
  unfold bimg lreg
  rw [List.getElem?_take, List.getElem?_drop, List.getElem?_map, List.getElem?_map]
  by_cases hj : j < n * 64
  · rw [if_pos (by omega), List.getElem?_range (by omega), List.getElem?_range hj]
    rfl
  · rw [if_neg (by omega), List.getElem?_eq_none (l := List.range _) (by simpa using hj)]
    rfl

/-- the new image, byte by byte -/
theorem bimg_wiped (s s' : BSt) (fr n e : Nat) (hn : s'.n = s.n) (hf : ∀ j, s'.f j = if fr * 64 + e ≤ j ∧ j < (fr + n) * 64 then 0 else s.f j) (j : Nat) (x y : UInt8) (hx : (bimg s)[j]? = some x) (hy : (bimg s')[j]? = some y) :
    y = if fr * 64 + e ≤ j ∧ j < (fr + n) * 64 then 0 else x := by
  unfold bimg at hx hy
  rw [hn] at hy
  by_cases hj : j < s.n * 64
  · rw [List.getElem?_map, List.getElem?_range hj] at hx hy
    simp only [Option.map_some, Option.some.injEq] at hx hy
    rw [← hy, hf, hx]
  · rw [List.getElem?_eq_none (by simpa using hj)] at hx
    cases hx

set_option maxRecDepth 100000 in
set_option maxHeartbeats 3200000 in
theorem lo_walk (v : Value) (l : List UInt8) (z0 z1 : Int) (w : World) (h : Bs w v l) (hz0 : -9223372036854775808 ≤ z0 ∧ z0 ≤ 9223372036854775807) (hz1 : -9223372036854775808 ≤ z1 ∧ z1 ≤ 9223372036854775807) :
    Calls Try.prog 7 #[v, .agg #[.int .i64 z0, .int .i64 z1]] w fun e w' => e = .returned (.bool true) ∧ Below w.heap.size w w' := by
  obtain ⟨q, hq⟩ : ∃ q, w.heap.size = q := ⟨_, rfl⟩
  obtain ⟨W, hW⟩ : ∃ V, w.alloc (.cells #[.int .i64 z0, .int .i64 z1] 34) = V := ⟨_, rfl⟩
  have hB : Below w.heap.size w W := by rw [← hW]; exact (Below.refl _ _).alloc (Nat.le_refl _) _
  have hr : W.heap[q]? = some (.cells #[.int .i64 z0, .int .i64 z1] 34 (0, 0)) := by rw [← hW, ← hq]; exact heap_alloc_new _ _
  have HZ := Lib.hid (fun (V : World) (hV : Below W.heap.size W V) => show V.cell? ⟨q, 0, none⟩ = some (.int .i64 z0) ∧ V.cell? ⟨q, 1, none⟩ = some (.int .i64 z1) from ⟨cell_of_row V _ _ _ _ _ ((hV.block _ (heap_lt hr)).trans hr), cell_of_row V _ _ _ _ _ ((hV.block _ (heap_lt hr)).trans hr)⟩)
  have HV : Hid (Bs W v l) := h.below hB
  have HB := Lib.hid hB
  have CA := Lib.hid (lAwake_any W)
  obtain ⟨L, hL⟩ : ∃ L, l.length = L := ⟨_, rfl⟩
  obtain ⟨a, c, hs⟩ := h.shape
  rw [hL] at hs
  subst hs
  have HL := Lib.hid hL
  have HZ0 := Lib.hid hz0
  have HZ1 := Lib.hid hz1
  clear h hB hr hL hz0 hz1
  go_enter Try.func7, Try.ntmps7
  go_wp2_with fail
  try rw [hq]
  try rw [hW]
  clear hq hW
  refine CA.out.mono ?_
  rintro e w1 ⟨rfl, hb1⟩
  have HB1 := Lib.hid hb1
  have HB01 := Lib.hid (HB.out.trans (hb1.mono HB.out.size))
  clear hb1
  by_cases h64 : L < 64
  · have e1 : (L : Int) < 64 := by omega
    go_wp2
    go_ret
    exact ⟨rfl, HB01.out⟩
  · have e1 : ¬ (L : Int) < 64 := by omega
    by_cases h2000 : 2000 < L
    · have e2 : (2000 : Int) < L := by omega
      go_wp2
      go_ret
      exact ⟨rfl, HB01.out⟩
    · have e2 : ¬ (2000 : Int) < L := by omega
      have CS := Lib.hid (lStore_any (.slice a L c) l w1 (HV.out.below HB1.out) (by rw [HL.out]; omega) (by rw [HL.out]; omega))
      go_wp2_with fail
      refine CS.out.mono ?_
      rintro e w2 ⟨g, gb, rfl, hb2, hst⟩
      rw [HL.out] at hst
      obtain ⟨M, hM⟩ : ∃ M, L / 64 = M := ⟨_, rfl⟩
      rw [hM] at hst
      obtain ⟨s, hs⟩ : ∃ s : BSt, (⟨M, bfill l M, false, none, (M : Int)⟩ : BSt) = s := ⟨_, rfl⟩
      rw [hs] at hst
      have hsn : s.n = M := by rw [← hs]
      have hson : s.off = false := by rw [← hs]
      have hsf : s.fu = none := by rw [← hs]
      have hsc : s.cnt = (M : Int) := by rw [← hs]
      have hM1 : 1 ≤ M ∧ M ≤ 31 := by omega
      obtain ⟨B, hBe⟩ : ∃ B, w1.heap.size = B := ⟨_, rfl⟩
      rw [hBe] at hst hb2
      have CI := Lib.hid (bImage_any g gb none s B w2 hst)
      have HBE := Lib.hid hBe
      have HST2 := Lib.hid hst
      have HB2 := Lib.hid hb2
      have HSN := Lib.hid hsn
      have HSON := Lib.hid hson
      have HSF := Lib.hid hsf
      have HSC := Lib.hid hsc
      clear hst hb2 hs hsn hson hsf hsc hM hBe h64 h2000 CS CA
      go_wp2_with fail
      refine CI.out.mono ?_
      rintro e w3 ⟨v3, rfl, ho3, hb3⟩
      obtain ⟨IM, hIM⟩ : ∃ IM, (bimg s).length = IM := ⟨_, rfl⟩
      have hIM2 : IM = M * 64 := by rw [← hIM]; unfold bimg; rw [List.length_map, List.length_range, HSN.out]
      obtain ⟨a3, c3, hs3⟩ := ho3.shape
      rw [hIM] at hs3
      subst hs3
      have hB12 : w1.heap.size ≤ w2.heap.size := by rw [HBE.out]; exact Nat.le_trans (by rw [HBE.out]; exact Nat.le_refl _ : B ≤ w1.heap.size) HB2.out.size
      have hst3 := HST2.out.below hb3
      have hb13 : Below w1.heap.size w1 w3 := by
        have h1 := HB2.out
        rw [← HBE.out] at h1
        exact h1.trans (hb3.mono hB12)
      have hbq := HZ.out w3 (HB1.out.trans (hb13.mono HB1.out.size))
      obtain ⟨q0, q1⟩ := hbq
      have r0 := fun d os => cell_regrown q0 d os
      have r1 := fun d os => cell_regrown q1 d os
      have HIM := Lib.hid hIM
      have HIM2 := Lib.hid hIM2
      have HST3 := Lib.hid hst3
      have HB13 := Lib.hid hb13
      have HO3 := Lib.hid ho3
      clear hst3 hb13 hB12 hb3 ho3 hIM hIM2 q0 q1 CI
      go_wp2_with fail
      refine wp_region_quiet_below (by kernel_rfl) (by kernel_rfl) ?_
      repeat (go_big_quiet_step ((fail)))
      refine wpQuiet_nil ?_
      intro _ hw'
      obtain ⟨⟨dq, osq⟩, hw''⟩ := hw'
      subst hw''
      have HB34 := below_regrown w3 dq osq
      obtain ⟨W4, hwq⟩ : ∃ x, x = grow (redrawn w3 dq) osq := ⟨_, rfl⟩
      rw [← hwq] at HB34 ⊢
      clear hwq
      have HST4 := Lib.hid (HST3.out.below HB34)
      have HOB4 : Hid (Ob W4 w2.heap.size 5 (.slice a3 IM c3) (bimg s)) := HO3.out.below HB34
      have HWAS := Lib.hid HOB4.out.bs
      have HB14 := Lib.hid (HB13.out.trans (HB34.mono HB13.out.size))
      have HBS4 : Hid (B ≤ W4.heap.size) := by
        have h1 := HB14.out.size
        rw [HBE.out] at h1
        exact h1
      clear HB34 r0 r1
      by_cases hbad : z1 < 1 ∨ z0 < 0 ∨ (M : Int) < z1 ∨ (M : Int) - z1 < z0
--<A
      · have CO := Lib.hid (lOpen_bad W4 B g gb none s z0 z1 HST4.out HZ0.out.1 HZ1.out.1 HZ0.out.2 HZ1.out.2 (by rw [HSN.out]; exact hbad))
        have CL := Lib.hid (bLen_any g gb none s B W4 HST4.out)
        rw [HSN.out] at CL
        have CI := Lib.hid (bImage_any g gb none s B W4 HST4.out)
        have CSA : Hid (∀ (V : World) (u : Value), Below W4.heap.size W4 V → Bs V u (bimg s) → Calls Try.prog 30 #[u, .slice a3 IM c3] V fun e w' => e = .returned (.bool true) ∧ Below V.heap.size V w') := fun V u hV hu => by
          have := same_any u (.slice a3 IM c3) (bimg s) (bimg s) V hu (HWAS.out.below hV)
          rwa [beq_self_true] at this
        have e5 : ((2 : Int) == 2) = true := by decide
        have hz0 := HZ0.out
        have hz1 := HZ1.out
        by_cases b1 : z1 < 1
        · clear hbad
          go_wp2_with (first | (go_at_call 43; refine CO.out.mono ?_; rintro e w' ⟨rfl, rfl⟩) | (go_at_call 27; refine CL.out.mono ?_; rintro e w' ⟨rfl, rfl⟩) | (go_at_call 39; refine CI.out.mono ?_; rintro e w5 ⟨v5, rfl, ho5, hb5⟩; have HO5 := Lib.hid ho5; have HB5 := Lib.hid hb5; clear ho5 hb5) | (go_at_call 30; refine (CSA.out _ _ HB5.out HO5.out.bs).mono ?_; rintro e w6 ⟨rfl, hb6⟩; have HB6 := Lib.hid hb6; clear hb6))
          go_ret
          exact ⟨rfl, HB01.out.trans ((HB14.out.trans ((HB5.out.trans (HB6.out.mono HB5.out.size)).mono HB14.out.size)).mono HB01.out.size)⟩
        · by_cases b2 : z0 < 0
          · clear hbad
            go_wp2_with (first | (go_at_call 43; refine CO.out.mono ?_; rintro e w' ⟨rfl, rfl⟩) | (go_at_call 27; refine CL.out.mono ?_; rintro e w' ⟨rfl, rfl⟩) | (go_at_call 39; refine CI.out.mono ?_; rintro e w5 ⟨v5, rfl, ho5, hb5⟩; have HO5 := Lib.hid ho5; have HB5 := Lib.hid hb5; clear ho5 hb5) | (go_at_call 30; refine (CSA.out _ _ HB5.out HO5.out.bs).mono ?_; rintro e w6 ⟨rfl, hb6⟩; have HB6 := Lib.hid hb6; clear hb6))
            go_ret
            exact ⟨rfl, HB01.out.trans ((HB14.out.trans ((HB5.out.trans (HB6.out.mono HB5.out.size)).mono HB14.out.size)).mono HB01.out.size)⟩
          · by_cases b3 : (M : Int) < z1
            · clear hbad
              go_wp2_with (first | (go_at_call 43; refine CO.out.mono ?_; rintro e w' ⟨rfl, rfl⟩) | (go_at_call 27; refine CL.out.mono ?_; rintro e w' ⟨rfl, rfl⟩) | (go_at_call 39; refine CI.out.mono ?_; rintro e w5 ⟨v5, rfl, ho5, hb5⟩; have HO5 := Lib.hid ho5; have HB5 := Lib.hid hb5; clear ho5 hb5) | (go_at_call 30; refine (CSA.out _ _ HB5.out HO5.out.bs).mono ?_; rintro e w6 ⟨rfl, hb6⟩; have HB6 := Lib.hid hb6; clear hb6))
              go_ret
              exact ⟨rfl, HB01.out.trans ((HB14.out.trans ((HB5.out.trans (HB6.out.mono HB5.out.size)).mono HB14.out.size)).mono HB01.out.size)⟩
            · have b4 : (M : Int) - z1 < z0 := by omega
              clear hbad
              go_wp2_with (first | (go_at_call 43; refine CO.out.mono ?_; rintro e w' ⟨rfl, rfl⟩) | (go_at_call 27; refine CL.out.mono ?_; rintro e w' ⟨rfl, rfl⟩) | (go_at_call 39; refine CI.out.mono ?_; rintro e w5 ⟨v5, rfl, ho5, hb5⟩; have HO5 := Lib.hid ho5; have HB5 := Lib.hid hb5; clear ho5 hb5) | (go_at_call 30; refine (CSA.out _ _ HB5.out HO5.out.bs).mono ?_; rintro e w6 ⟨rfl, hb6⟩; have HB6 := Lib.hid hb6; clear hb6))
              go_ret
              exact ⟨rfl, HB01.out.trans ((HB14.out.trans ((HB5.out.trans (HB6.out.mono HB5.out.size)).mono HB14.out.size)).mono HB01.out.size)⟩
-->A
      · obtain ⟨fr, rfl⟩ : ∃ n : Nat, z0 = n := ⟨z0.toNat, by omega⟩
        obtain ⟨n, rfl⟩ : ∃ n : Nat, z1 = n := ⟨z1.toNat, by omega⟩
        have hn1 : 1 ≤ n := by omega
        have hfit : fr + n ≤ M := by omega
--<G
        have CO := Lib.hid (lOpen_any W4 B g gb none s fr n HST4.out HSON.out hn1 (by rw [HSN.out]; exact hfit) (by rw [HSC.out]; omega) (by rw [HSC.out]; omega) HBS4.out)
        have HN1 := Lib.hid hn1
        have HFIT := Lib.hid hfit
        have b1 : ¬ (n : Int) < 1 := by omega
        have b2 : ¬ (fr : Int) < 0 := by omega
        have b3 : ¬ (M : Int) < (n : Int) := by omega
        have b3b : decide (M < n) = false := decide_eq_false (by omega)
        have b4 : ¬ (M : Int) - (n : Int) < (fr : Int) := by omega
        clear hbad hfit hn1
        go_wp2_with fail
        refine CO.out.mono ?_
        intro e W5 hpost
        obtain ⟨s', d', lg, bb, bc, vr, ps, rfl, hst5, hlo5, ho5, hok5, hfr5, hn5, hrec5, hfin5, hfu5, hsn5, -, -, hf5⟩ := hpost.ok HSF.out rfl (by rw [HSN.out]; exact HFIT.out)
        obtain ⟨E, hE⟩ : ∃ E, (lrecs (lreg s fr n)).2 = E := ⟨_, rfl⟩
        rw [hE] at hfin5 hf5
        have hEn : E ≤ n * 64 := by rw [← hfin5, ← hn5]; exact hok5.le
        have hown5 : Ob W5 w2.heap.size 5 (.slice a3 IM c3) (bimg s) := HOB4.out.only ho5 (fun k hk hf => by
          obtain ⟨A, hA⟩ := HOB4.out.tag k hk
          obtain ⟨A', t, h1, h2⟩ := HST4.out.tag hf
          have := tags_apart hA h1
          subst this
          rcases h2 with h2 | h2 | h2 <;> exact absurd h2 (by decide))
        have hm : (fr + n) * 64 = fr * 64 + n * 64 := Nat.add_mul _ _ _
        obtain ⟨Y, hY, hYb⟩ := Bs.piece (P := Try.prog) elB hown5.bs (fr * 64) ((fr + n) * 64) (by omega) (by rw [HIM.out, HIM2.out]; have := HFIT.out; omega)
        rw [bimg_reg s fr n (by rw [HSN.out]; exact HFIT.out)] at hYb
        rw [show (((fr * 64 : Nat)) : Int) = (fr : Int) * 64 by omega, show ((((fr + n) * 64 : Nat)) : Int) = ((fr : Int) + (n : Int)) * 64 by omega] at hY
        have CR := Lib.hid (rrecs_any Y (lreg s fr n) W5 hYb (by rw [lreg_len]; have := HFIT.out; omega))
        unfold RRecPost at CR
        rw [hE] at CR
        have CL := Lib.hid (bLen_any g gb none s' B W5 hst5)
        rw [hsn5, HSN.out] at CL
        have hB5 : Below w.heap.size w W5 := by
          have h1 := HB01.out.trans (HB14.out.mono HB01.out.size)
          have h2 : w.heap.size ≤ B := by rw [← HBE.out]; exact HB01.out.size
          exact h1.trans (ho5.below (fun k hk => Nat.le_trans h2 (HST4.out.foot k hk).1) h1.size)
        have HB5 := Lib.hid hB5
        have CREC := Lib.hid (fun (V : World) (hV : Below W5.heap.size W5 V) => lRecords_any V W4.heap.size lg bb bc g vr ps d' (hlo5.below hV))
        have CEND : Hid (∀ V : World, Below W5.heap.size W5 V → Calls Try.prog 47 #[.pointer (some ⟨lg, 0, none⟩)] V fun e w' => e = .returned (.int .i64 (E : Int)) ∧ V = w') := fun V hV => by
          have := lEnd_any V W4.heap.size lg bb bc g vr ps d' (hlo5.below hV)
          rw [hfin5] at this
          exact this.mono fun _ _ h => ⟨h.1, h.2.symm⟩
        have CROOM : Hid (∀ V : World, Below W5.heap.size W5 V → Calls Try.prog 48 #[.pointer (some ⟨lg, 0, none⟩)] V fun e w' => e = .returned (.int .i64 (lroom (n * 64 - E) : Int)) ∧ Below V.heap.size V w') := fun V hV => by
          have := lRoom_any V W4.heap.size lg bb bc g vr ps d' (hlo5.below hV)
          rw [hfin5, hn5] at this
          exact this
        have HEACH : Hid (∀ x ∈ ps, Bs W5 x.v x.2) := fun x hx => (hlo5.each x hx).1.bs
        have HRBS : Hid (rbs ps = (lrecs (lreg s fr n)).1) := hlo5.is.trans hrec5
        obtain ⟨R, hR⟩ : ∃ R, n * 64 - E = R := ⟨_, rfl⟩
        have hroom : ((fr : Int) + (n : Int)) * 64 - (fr : Int) * 64 - (E : Int) = (R : Int) := by omega
        have hRb : R ≤ 1000000000 := by have := HFIT.out; omega
        rw [hR] at CROOM
        have CRR := Lib.hid (fun (V : World) => rroom_any R hRb V)
        have CI2 : Hid (∀ V : World, Below W5.heap.size W5 V → Calls Try.prog 39 #[.pointer (some ⟨g, 0, none⟩)] V (ImgPost V s')) := fun V hV => bImage_any g gb none s' B V (hst5.below hV)
        have HWAS5 := Lib.hid hown5.bs
        have HF5 := Lib.hid hf5
        have HSN5 : Hid (s'.n = M) := by show _ = _; rw [hsn5, HSN.out]
        have HEN := Lib.hid hEn
        have fr1 : (fr : Int) ≤ 31 := by have := HFIT.out; omega
        have n1 : (n : Int) ≤ 31 := by have := HFIT.out; omega
        have E1 : (E : Int) ≤ 1984 := by have := HFIT.out; omega
        have HLL := Lib.hid hE
        clear hpost hst5 hlo5 ho5 hok5 hfr5 hn5 hrec5 hfin5 hfu5 hsn5 hf5 hown5 hm hYb hB5 hR hRb hEn CO hE
        go_wp2_with (go_at_call 27; refine CL.out.mono ?_; rintro e w' ⟨rfl, rfl⟩)
        refine CR.out.mono ?_
        rintro e w6 ⟨v6, ps6, rfl, hrc6, hrb6, hb6⟩
        have HB6 := Lib.hid hb6
        have HRC6 := Lib.hid hrc6
        have HRB6 := Lib.hid hrb6
        clear hrc6 hrb6 hb6 CR CL
        go_wp2_with fail
        refine (CREC.out _ HB6.out).mono ?_
        rintro e w7 ⟨v7, rfl, hg7, hb7⟩
        have hb57 := HB6.out.trans (hb7.mono HB6.out.size)
        have hsame := rlsame_any v7 v6 ps ps6 w7 ⟨hg7.gs, fun x hx => (HEACH.out x hx).below hb57⟩ (HRC6.out.below hb7)
        rw [HRBS.out, HRB6.out, beq_self_eq_true] at hsame
        have CSM := Lib.hid hsame
        have HB7 := Lib.hid hb57
        clear hg7 hb7 hb57 hsame
        go_wp2_with fail
        refine CSM.out.mono ?_
        rintro e w8 ⟨rfl, hb8⟩
        have hb58 := HB7.out.trans (hb8.mono HB7.out.size)
        have HB8 := Lib.hid hb58
        clear hb8 hb58
        go_wp2_with (go_at_call 47; refine (CEND.out _ HB8.out).mono ?_; rintro e w9 ⟨rfl, rfl⟩)
        refine (CROOM.out _ HB8.out).mono ?_
        rintro e w9 ⟨rfl, hb9⟩
        have hb59 := HB8.out.trans (hb9.mono HB8.out.size)
        have HB9 := Lib.hid hb59
        clear hb9 hb59
        go_wp2_with fail
        refine (CRR.out w9).mono ?_
        rintro e w10 ⟨rfl, hb10⟩
        have hb510 := HB9.out.trans (hb10.mono HB9.out.size)
        have HB10 := Lib.hid hb510
        clear hb10 hb510
        go_wp2_with fail
        refine (CI2.out _ HB10.out).mono ?_
        rintro e w11 ⟨v11, rfl, ho11, hb11⟩
        have hb511 := HB10.out.trans (hb11.mono HB10.out.size)
        have HB11 := Lib.hid hb511
        have hlen : (bimg s').length = IM := by unfold bimg; rw [List.length_map, List.length_range, HSN5.out, HIM2.out]
        obtain ⟨a11, c11, bdr, rfl, hb1', hb2', hb3', hb4', hb5'⟩ := Bs.open_n elB ho11.bs IM hlen
        obtain ⟨a', c', adr, he, ha1', ha2', ha3', ha4', ha5'⟩ := Bs.open_n elB (HWAS5.out.below hb511) IM HIM.out
        simp only [Value.slice.injEq, true_and] at he
        obtain ⟨rfl, rfl⟩ := he
        have HB3' := Lib.hid hb3'
        have HA3' := Lib.hid ha3'
        have HB5' := Lib.hid hb5'
        have HA5' := Lib.hid ha5'
        have HLEN := Lib.hid hlen
        have HIMb : IM ≤ 1984 := by rw [HIM2.out]; omega
        clear hb11 hb511 hlen ho11 hb3' hb4' hb5' ha3' ha4' ha5' hY hroom
        go_wp2_with fail
        go_loop [123] (fun vi => ∃ k : Nat, k ≤ IM ∧ vi = .int .i64 k) (fun vi => IM - (intOf vi).toNat)
        case atStart => exact ⟨0, by omega, rfl⟩
        case round =>
          obtain ⟨k, hk, rfl⟩ := hrel
          by_cases hlt : k < IM
          · have e6 : (k : Int) < IM := by omega
            obtain ⟨y, hy⟩ : ∃ y, (bimg s')[k]? = some y := ⟨_, List.getElem?_eq_getElem (by rw [HLEN.out]; exact hlt)⟩
            obtain ⟨x, hx⟩ : ∃ x, (bimg s)[k]? = some x := ⟨_, List.getElem?_eq_getElem (by rw [HIM.out]; exact hlt)⟩
            have hyx := bimg_wiped s s' fr n E (by rw [HSN5.out, HSN.out]) HF5.out k x y hx hy
            have ky := HB5'.out k y hy
            have kx := HA5'.out k x hx
            have iy := fun W => HB3'.out W (k : Int) (by omega) (by omega)
            have ix := fun W => HA3'.out W (k : Int) (by omega) (by omega)
            rw [Int.toNat_natCast] at iy ix
            have HLT := Lib.hid hlt
            clear hy hx
            by_cases hc1 : fr * 64 + E ≤ k
            · have c1 : (fr : Int) * 64 + (E : Int) ≤ (k : Int) := by omega
              by_cases hc2 : k < (fr + n) * 64
              · have c2 : (k : Int) < ((fr : Int) + (n : Int)) * 64 := by omega
                rw [if_pos ⟨hc1, hc2⟩] at hyx
                subst hyx
                have e7 : (((0 : UInt8).toNat : Int) != 0) = false := by decide
                clear hc1 hc2
                go_wp2
                go_round
                case rel => exact ⟨k + 1, HLT.out, by go_num⟩
                case measure => simp [intOf]; have := HLT.out; omega
              · have c2 : ¬ (k : Int) < ((fr : Int) + (n : Int)) * 64 := by omega
                rw [if_neg (fun h => hc2 h.2)] at hyx
                subst hyx
                clear hc1 hc2
                go_wp2
                go_round
                case rel => exact ⟨k + 1, HLT.out, by go_num⟩
                case measure => simp [intOf]; have := HLT.out; omega
            · have c1 : ¬ (fr : Int) * 64 + (E : Int) ≤ (k : Int) := by omega
              rw [if_neg (fun h => hc1 h.1)] at hyx
              subst hyx
              clear hc1
              go_wp2
              go_round
              case rel => exact ⟨k + 1, HLT.out, by go_num⟩
              case measure => simp [intOf]; have := HLT.out; omega
          · obtain rfl : k = IM := by omega
            have e6 : ¬ (k : Int) < k := by omega
            go_wp2
            go_ret
            exact ⟨rfl, HB5.out.trans (HB11.out.mono HB5.out.size)⟩
-->G

end Go.Proofs.Ytbonapdainlpjaa
