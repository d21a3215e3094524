/- Layer 38 (op): the walk of OpBack. -/
import Derived.Test.YticpmkdlnjnfgaaOp14
import Derived.Test.YticpmkdlnjnfgaaOp8
import Derived.Deep.CutBlock
set_option linter.unusedSimpArgs false
namespace Go.Proofs.Yticpmkdlnjnfgaa
open Go.RowKit Go.Sort

/-- an operation laid in a block of its own -/
theorem op_laid {w W : World} {k x0 x1 x2 : Int} {ya yb yc : Value} (hW : w.alloc (.cells #[.int .i64 k, .int .i64 x0, .int .i64 x1, .int .i64 x2, ya, yb, yc] 44) = W) :
    Below w.heap.size w W ∧ W.heap[w.heap.size]? = some (.cells #[.int .i64 k, .int .i64 x0, .int .i64 x1, .int .i64 x2, ya, yb, yc] 44 (0, 0)) := by
  subst hW
  exact ⟨(Below.refl _ _).alloc (Nat.le_refl _) _, heap_alloc_new _ _⟩

theorem opParts_few (o : OpD) (h : ∀ i, i < 3 → (o.part i).length ≤ 3000) : ∀ i, i ≤ 3 → (opParts o i).length ≤ 3010 * i
  | 0, _ => by simp [opParts]
  | i + 1, hi => by
    have h1 := opParts_few o h i (by omega)
    have h2 := h i (by omega)
    have h3 := vput_len10 (o.part i).length (by omega)
    simp only [opParts, List.length_append]
    omega
theorem opBytes_few {o : OpD} (hf : opFew o = true) (hok : opRight o = true) : (opBytes o).length ≤ 50000 := by
  obtain ⟨_, hns, _⟩ := opRight_parts hok
  have h1 := opNums_len o hns (opN o.k) (opN_le _)
  have h2 := opParts_few o (fun i hi => by
    unfold opFew at hf
    simp at hf
    have h3 : i = 0 ∨ i = 1 ∨ i = 2 := by omega
    rcases h3 with rfl | rfl | rfl
    · exact hf.1
    · exact hf.2.1
    · exact hf.2.2) (opK o.k) (opK_le _)
  have h3 := opN_le o.k
  have h4 := opK_le o.k
  unfold opBytes
  simp only [List.length_append, List.length_cons, List.length_nil]
  omega

set_option maxRecDepth 100000 in
set_option maxHeartbeats 3200000 in
theorem opback_walk (o : OpD) (va vb vc v : Value) (b : List UInt8) (w : World) (ho : OpV w o va vb vc) (hb : Bs w v b) :
    Calls Try.prog 8 #[o.agg va vb vc, v] w fun e w' => e = .returned (.bool true) ∧ Below w.heap.size w w' := by
  have HV := Lib.hid hb
  obtain ⟨pb, pc, rfl⟩ := hb.shape
  obtain ⟨N, hN⟩ : ∃ N, b.length = N := ⟨_, rfl⟩
  rw [hN] at HV ⊢
  have HN := Lib.hid hN
  have hcap := (by have := HV.out.len_eq.2; exact this : N ≤ pc ∧ pc ≤ 9223372036854775807)
  clear hN hb
  obtain ⟨⟨a0, l0, c0, rfl⟩, ⟨a1, l1, c1, rfl⟩, ⟨a2, l2, c2, rfl⟩⟩ := ho.shapes
  obtain ⟨W, hW⟩ : ∃ W, w.alloc (.cells #[.int .i64 o.k, .int .i64 o.x0, .int .i64 o.x1, .int .i64 o.x2, .slice a0 l0 c0, .slice a1 l1 c1, .slice a2 l2 c2] 44) = W := ⟨_, rfl⟩
  obtain ⟨hB, hr⟩ := op_laid hW
  have HB := Lib.hid hB
  have ho' := ho.below hB
  have CF := Lib.hid (fun (V : World) (h : Below W.heap.size W V) => opFew_any o _ _ _ V (ho'.below h).1 (ho'.below h).2.1 (ho'.below h).2.2)
  have CP := Lib.hid (fun (V : World) (h : Below W.heap.size W V) => opPut_any o _ _ _ V (ho'.below h).1 (ho'.below h).2.1 (ho'.below h).2.2)
  have CT := Lib.hid (fun (V : World) (h : Below W.heap.size W V) (hl : b.length ≤ 100000) => opTake_any _ b V (HV.out.below (hB.trans (h.mono hB.size))) hl)
  unfold OpPutPost at CP
  unfold OTakePost at CT
  have HO := Lib.hid ho'
  have HFEW : Hid (opFew o = true → opRight o = true → (opBytes o).length ≤ 50000) := fun hf hk => opBytes_few hf hk
  obtain ⟨bo, hbo⟩ : ∃ b, opFew o = b := ⟨_, rfl⟩
  rw [hbo] at CF HFEW
  obtain ⟨R, hR⟩ : ∃ n, opRight o = n := ⟨_, rfl⟩
  rw [hR] at CP HFEW
  have HRR := Lib.hid hR
  obtain ⟨p, E, hpE⟩ : ∃ p E, otake b = (p, E) := ⟨_, _, rfl⟩
  rw [hpE] at CT
  have HPE := Lib.hid hpE
  simp only at CT
  clear hbo hR hpE ho ho' hB
  have HKEEP := Lib.hid (fun (V : World) (hV : Below W.heap.size W V) => op_cellsV ((hV.block _ (heap_lt hr)).trans hr))
  obtain ⟨q, hq⟩ : ∃ q, w.heap.size = q := ⟨_, rfl⟩
  rw [hq] at HKEEP hr
  have HQ := Lib.hid hq
  have HW := Lib.hid hW
  obtain ⟨s0, s1, s2, s3, s4, s5, s6⟩ := HKEEP.out W (Below.refl _ _)
  clear hr hW hq
  unfold OpD.agg at CF CP ⊢
  go_enter Try.func8, Try.ntmps8
  go_wp2_with fail
  rw [HW.out, HQ.out]
  refine (opAwake_any W).mono ?_
  rintro e w1 ⟨rfl, hb1⟩
  have HB1 := Lib.hid hb1
  clear hb1 s0 s1 s2 s3 s4 s5 s6
  obtain ⟨s0, s1, s2, s3, s4, s5, s6⟩ := HKEEP.out w1 HB1.out
  go_wp2_with fail
  refine (CF.out w1 HB1.out).mono ?_
  rintro e w2 ⟨rfl, hb2⟩
  have HB2 := Lib.hid (HB1.out.trans (hb2.mono HB1.out.size))
  clear hb2 s0 s1 s2 s3 s4 s5 s6
  have hfin2 := HB.out.trans (HB2.out.mono HB.out.size)
  have HF2 := Lib.hid hfin2
  clear hfin2
  cases bo with
  | false =>
    go_wp2
    go_ret
    exact ⟨rfl, HF2.out⟩
  | true =>
  by_cases hl : 5000 < (N : Int)
  · go_wp2
    go_ret
    exact ⟨rfl, HF2.out⟩
  have hl2 : b.length ≤ 100000 := by have := HN.out; omega
  have HL2 := Lib.hid hl2
  clear hl2
  obtain ⟨s0, s1, s2, s3, s4, s5, s6⟩ := HKEEP.out w2 HB2.out
  go_wp2_with fail
  refine (CP.out w2 HB2.out).mono ?_
  rintro e w3 hp3
  clear s0 s1 s2 s3 s4 s5 s6
  cases R with
  | false =>
    simp only [Bool.false_eq_true, if_false] at hp3
    obtain ⟨rfl, hb3⟩ := hp3
    have HB3 := Lib.hid (HB2.out.trans (hb3.mono HB2.out.size))
    clear hb3
    go_wp2_with fail
    unfold OpD.agg at CT
    refine (CT.out w3 HB3.out HL2.out).mono ?_
    rintro e w20 ⟨ya', yb', yc', rfl, hv20, hb20⟩
    obtain ⟨⟨e4, m4, d4, rfl⟩, ⟨e5, m5, d5, rfl⟩, ⟨e6, m6, d6, rfl⟩⟩ := hv20.shapes
    obtain ⟨W20, hW20⟩ : ∃ W, w20.alloc (.cells #[.int .i64 p.k, .int .i64 p.x0, .int .i64 p.x1, .int .i64 p.x2, .slice e4 m4 d4, .slice e5 m5 d5, .slice e6 m6 d6] 44) = W := ⟨_, rfl⟩
    obtain ⟨hBa, hr20⟩ := op_laid hW20
    have HB20 := Lib.hid (HB3.out.trans ((hb20.trans (hBa.mono hb20.size)).mono HB3.out.size))
    have HV20 := Lib.hid (hv20.below hBa)
    obtain ⟨q20, hq20⟩ : ∃ q, w20.heap.size = q := ⟨_, rfl⟩
    rw [hq20] at hr20
    have HR20 := Lib.hid hr20
    have HQ20 := Lib.hid hq20
    have HW20 := Lib.hid hW20
    have HBB20 := Lib.hid (HV.out.below (HB.out.trans (HB20.out.mono HB.out.size)))
    clear hv20 hb20 hW20 hBa hr20 hq20
    by_cases hE : E = 0
    · subst hE
      obtain ⟨hk1, hk2⟩ := op_back HPE.out
      have CP2 := Lib.hid (opPut_any p _ _ _ W20 HV20.out.1 HV20.out.2.1 HV20.out.2.2)
      unfold OpPutPost at CP2
      rw [hk1, hk2] at CP2
      simp only [if_true] at CP2
      have CR2 := Lib.hid (fun (V : World) (h : Below W20.heap.size W20 V) => opRight_any p _ _ _ V (HV20.out.below h).1 (HV20.out.below h).2.1 (HV20.out.below h).2.2)
      rw [hk1] at CR2
      unfold OpD.agg at CP2 CR2
      clear hk1 hk2
      obtain ⟨s0, s1, s2, s3, s4, s5, s6⟩ := op_cellsV HR20.out
      go_upto_region 12 with fail
      rw [HW20.out, HQ20.out]
      go_wp2_with fail
      refine CP2.out.mono ?_
      rintro e w21 ⟨v21, rfl, hbs21, hb21⟩
      have HB21 := Lib.hid (HB20.out.trans (hb21.mono HB20.out.size))
      have HH21 := Lib.hid hb21
      obtain ⟨e7, d7, rfl⟩ := hbs21.shape
      have HX21 := Lib.hid hbs21
      have hr21 := (hb21.block q20 (heap_lt HR20.out)).trans HR20.out
      clear hbs21 hb21 s0 s1 s2 s3 s4 s5 s6
      obtain ⟨s0, s1, s2, s3, s4, s5, s6⟩ := op_cellsV hr21
      clear hr21
      go_wp2_with fail
      refine (CR2.out w21 HH21.out).mono ?_
      rintro e w22 ⟨rfl, hb22⟩
      have CS2 := Lib.hid (same_any _ _ _ _ w22 (HX21.out.below hb22) ((HBB20.out.below HH21.out).below hb22))
      rw [beq_self_true] at CS2
      have HB22 := Lib.hid (HB21.out.trans (hb22.mono HB21.out.size))
      clear hb22 s0 s1 s2 s3 s4 s5 s6
      go_wp2_with fail
      refine CS2.out.mono ?_
      rintro e w23 ⟨rfl, hb23⟩
      have HB23 := Lib.hid (HB.out.trans ((HB22.out.trans (hb23.mono HB22.out.size)).mono HB.out.size))
      clear hb23
      go_wp2
      go_ret
      exact ⟨rfl, HB23.out⟩
    · obtain rfl := op_fail HPE.out hE
      have hEn : ((E : Int) != 0) = true := by simp; omega
      have CS2 := Lib.hid (ropSame_any opZero opZero _ _ _ (.slice none 0 0) (.slice none 0 0) (.slice none 0 0) W20 HV20.out.1 HV20.out.2.1 HV20.out.2.2 (Rd.nil _ _) (Rd.nil _ _) (Rd.nil _ _))
      rw [opSame_refl] at CS2
      unfold OpD.agg at CS2
      obtain ⟨s0, s1, s2, s3, s4, s5, s6⟩ := op_cellsV HR20.out
      unfold opZero at *
      simp only at CS2 HW20 s0 s1 s2 s3 ⊢
      clear hE
      go_upto_region 12 with fail
      rw [HW20.out, HQ20.out]
      go_wp2_with fail
      refine CS2.out.mono ?_
      rintro e w23 ⟨rfl, hb23⟩
      have HB23 := Lib.hid (HB.out.trans ((HB20.out.trans (hb23.mono HB20.out.size)).mono HB.out.size))
      clear hb23
      go_wp2
      go_ret
      exact ⟨rfl, HB23.out⟩
  | true =>
    simp only [if_true] at hp3
    obtain ⟨v3, rfl, hbs3, hb3⟩ := hp3
    have HB3 := Lib.hid (HB2.out.trans (hb3.mono HB2.out.size))
    have HX3 := Lib.hid hbs3
    have hal := HFEW.out (by simp) (by simp)
    obtain ⟨x, hx⟩ : ∃ x, opBytes o = x := ⟨_, rfl⟩
    have HOT1 : Hid (otake x = (o, 0)) := by
      have := otake_put HRR.out []
      rw [List.append_nil, if_pos rfl, hx] at this
      exact this
    have HOT2 : Hid (otake (x ++ [0]) = (opZero, 13)) := by
      have := otake_put HRR.out [0]
      rw [if_neg (by simp), hx] at this
      exact this
    rw [hx] at HX3 hbs3 hal
    obtain ⟨a3, c3, rfl⟩ := hbs3.shape
    obtain ⟨M, hM⟩ : ∃ M, x.length = M := ⟨_, rfl⟩
    have CT1 := Lib.hid (opTake_any _ x w3 hbs3 (by omega))
    unfold OTakePost at CT1
    rw [HOT1.out] at CT1
    simp only at CT1
    rw [hM] at HX3 CT1 ⊢
    have HM := Lib.hid hM
    have HAL := Lib.hid hal
    clear hb3 hbs3 hx hM hal
    go_wp2_with fail
    refine CT1.out.mono ?_
    rintro e w4 ⟨ya, yb, yc, rfl, hv4, hb4⟩
    obtain ⟨⟨a4, l4, c4, rfl⟩, ⟨a5, l5, c5, rfl⟩, ⟨a6, l6, c6, rfl⟩⟩ := hv4.shapes
    obtain ⟨W4, hW4⟩ : ∃ W, w4.alloc (.cells #[.int .i64 o.k, .int .i64 o.x0, .int .i64 o.x1, .int .i64 o.x2, .slice a4 l4 c4, .slice a5 l5 c5, .slice a6 l6 c6] 44) = W := ⟨_, rfl⟩
    obtain ⟨hBa, hr4⟩ := op_laid hW4
    have HB4 := Lib.hid (HB3.out.trans ((hb4.trans (hBa.mono hb4.size)).mono HB3.out.size))
    have HV4 := Lib.hid (hv4.below hBa)
    have HX4 := Lib.hid ((HX3.out.below hb4).below hBa)
    have HR4 := Lib.hid hr4
    obtain ⟨q4, hq4⟩ : ∃ q, w4.heap.size = q := ⟨_, rfl⟩
    rw [hq4] at HR4
    have HQ4 := Lib.hid hq4
    have HW4 := Lib.hid hW4
    clear hv4 hb4 hW4 hBa hr4 hq4
    unfold OpD.agg
    go_upto_region 8 with fail
    rw [HW4.out, HQ4.out]
    have hal1 : Below W4.heap.size W4 (W4.alloc (.cells #[] 5)) := (Below.refl _ _).alloc (Nat.le_refl _) _
    have ho1 : Ob (W4.alloc (.cells #[] 5)) W4.heap.size 5 (.slice (some ⟨W4.heap.size, 0, none⟩) 0 0) [] := ob_lit W4 5 #[] [] 0 rfl (by decide) rfl
    have hx1 := HX4.out.below hal1
    have hz1 := hal1.size
    have hM2 : x.length = M := HM.out
    have hM3 : x.length ≤ 50000 := HAL.out
    go_wp2_with (first
      | (at_builtin; refine wpList_append_bytes ho1 hx1 elB (by simp; omega) (by simp; omega) hz1 ?_ _ _ rfl rfl rfl rfl; intro v8 w8 ho8 _ hb8 _; have HO8 := Lib.hid ho8; have HB8 := Lib.hid hb8; have ho2 := (ho8.below ((Below.refl w8.heap.size w8).alloc (Nat.le_refl _) (.cells #[.int .u8 0] 5))); have hx2 := (ob_lit w8 5 #[.int .u8 0] [0] 1 rfl (by simp [maxLen]) rfl).bs; have hz2 : W4.heap.size ≤ (w8.alloc (.cells #[.int .u8 0] 5)).heap.size := Nat.le_trans (Nat.le_trans hz1 hb8.size) (by simp); clear ho1 hx1 ho8 hb8)
      | (at_builtin; refine wpList_append_bytes ho2 hx2 elB (by simp; omega) (by simp; omega) hz2 ?_ _ _ rfl rfl rfl rfl; intro v9 w9 ho9 _ hb9 _; have HO9 := Lib.hid ho9; have HB9 := Lib.hid hb9; clear ho2 hx2 ho9 hb9))
    have hbs9 := HO9.out.bs
    rw [List.nil_append] at hbs9
    have CT2 := Lib.hid (opTake_any v9 _ w9 hbs9 (by simp; omega))
    unfold OTakePost at CT2
    rw [HOT2.out] at CT2
    simp only at CT2
    unfold OpD.agg opZero at CT2
    simp only at CT2
    have hz8 : W4.heap.size ≤ w8.heap.size := Nat.le_trans hz1 HB8.out.size
    have hal2 : Below w8.heap.size w8 (w8.alloc (.cells #[.int .u8 0] 5)) := (Below.refl w8.heap.size w8).alloc (Nat.le_refl _) _
    have hb49 : Below W4.heap.size W4 w9 := hal1.trans (HB8.out.trans ((hal2.mono hz8).trans HB9.out))
    have HB9' := Lib.hid (HB4.out.trans (hb49.mono HB4.out.size))
    have HR9 := Lib.hid ((hb49.block q4 (heap_lt HR4.out)).trans HR4.out)
    have HV9 := Lib.hid (HV4.out.below hb49)
    clear hz8 hal2 hb49 hal1 hz1 hM2 hM3 hbs9 hz2
    refine CT2.out.mono ?_
    rintro e w10 ⟨za, zb, zc, rfl, hv10, hb10⟩
    obtain ⟨⟨a7, l7, c7, rfl⟩, ⟨a8, l8, c8, rfl⟩, ⟨a9, l9, c9, rfl⟩⟩ := hv10.shapes
    obtain ⟨W10, hW10⟩ : ∃ W, w10.alloc (.cells #[.int .i64 0, .int .i64 0, .int .i64 0, .int .i64 0, .slice a7 l7 c7, .slice a8 l8 c8, .slice a9 l9 c9] 44) = W := ⟨_, rfl⟩
    obtain ⟨hBa, -⟩ := op_laid hW10
    have hb910 := hb10.trans (hBa.mono hb10.size)
    have HB10 := Lib.hid (HB9'.out.trans (hb910.mono HB9'.out.size))
    have hr10 := (hb910.block q4 (heap_lt HR9.out)).trans HR9.out
    have hv10' := HV9.out.below hb910
    have ho10 := HO.out.below HB10.out
    have CS := Lib.hid (ropSame_any o o _ _ _ _ _ _ W10 ho10.1 ho10.2.1 ho10.2.2 hv10'.1 hv10'.2.1 hv10'.2.2)
    rw [opSame_refl] at CS
    unfold OpD.agg at CS
    obtain ⟨s0, s1, s2, s3, s4, s5, s6⟩ := HKEEP.out W10 HB10.out
    obtain ⟨t0, t1, t2, t3, t4, t5, t6⟩ := op_cellsV hr10
    have HW10 := Lib.hid hW10
    clear hv10 hb10 hW10 hBa hb910 hr10 hv10' ho10
    go_upto_region 9 with fail
    rw [HW10.out]
    go_wp2_with fail
    refine CS.out.mono ?_
    rintro e w11 ⟨rfl, hb11⟩
    have HB11 := Lib.hid (HB10.out.trans (hb11.mono HB10.out.size))
    clear hb11 s0 s1 s2 s3 s4 s5 s6 t0 t1 t2 t3 t4 t5 t6
    go_wp2_with fail
    unfold OpD.agg at CT
    refine (CT.out w11 HB11.out HL2.out).mono ?_
    rintro e w20 ⟨ya', yb', yc', rfl, hv20, hb20⟩
    obtain ⟨⟨e4, m4, d4, rfl⟩, ⟨e5, m5, d5, rfl⟩, ⟨e6, m6, d6, rfl⟩⟩ := hv20.shapes
    obtain ⟨W20, hW20⟩ : ∃ W, w20.alloc (.cells #[.int .i64 p.k, .int .i64 p.x0, .int .i64 p.x1, .int .i64 p.x2, .slice e4 m4 d4, .slice e5 m5 d5, .slice e6 m6 d6] 44) = W := ⟨_, rfl⟩
    obtain ⟨hBa, hr20⟩ := op_laid hW20
    have HB20 := Lib.hid (HB11.out.trans ((hb20.trans (hBa.mono hb20.size)).mono HB11.out.size))
    have HV20 := Lib.hid (hv20.below hBa)
    obtain ⟨q20, hq20⟩ : ∃ q, w20.heap.size = q := ⟨_, rfl⟩
    rw [hq20] at hr20
    have HR20 := Lib.hid hr20
    have HQ20 := Lib.hid hq20
    have HW20 := Lib.hid hW20
    have HBB20 := Lib.hid (HV.out.below (HB.out.trans (HB20.out.mono HB.out.size)))
    clear hv20 hb20 hW20 hBa hr20 hq20
    by_cases hE : E = 0
    · subst hE
      obtain ⟨hk1, hk2⟩ := op_back HPE.out
      have CP2 := Lib.hid (opPut_any p _ _ _ W20 HV20.out.1 HV20.out.2.1 HV20.out.2.2)
      unfold OpPutPost at CP2
      rw [hk1, hk2] at CP2
      simp only [if_true] at CP2
      have CR2 := Lib.hid (fun (V : World) (h : Below W20.heap.size W20 V) => opRight_any p _ _ _ V (HV20.out.below h).1 (HV20.out.below h).2.1 (HV20.out.below h).2.2)
      rw [hk1] at CR2
      unfold OpD.agg at CP2 CR2
      clear hk1 hk2
      obtain ⟨s0, s1, s2, s3, s4, s5, s6⟩ := op_cellsV HR20.out
      go_upto_region 12 with fail
      rw [HW20.out, HQ20.out]
      go_wp2_with fail
      refine CP2.out.mono ?_
      rintro e w21 ⟨v21, rfl, hbs21, hb21⟩
      have HB21 := Lib.hid (HB20.out.trans (hb21.mono HB20.out.size))
      have HH21 := Lib.hid hb21
      obtain ⟨e7, d7, rfl⟩ := hbs21.shape
      have HX21 := Lib.hid hbs21
      have hr21 := (hb21.block q20 (heap_lt HR20.out)).trans HR20.out
      clear hbs21 hb21 s0 s1 s2 s3 s4 s5 s6
      obtain ⟨s0, s1, s2, s3, s4, s5, s6⟩ := op_cellsV hr21
      clear hr21
      go_wp2_with fail
      refine (CR2.out w21 HH21.out).mono ?_
      rintro e w22 ⟨rfl, hb22⟩
      have CS2 := Lib.hid (same_any _ _ _ _ w22 (HX21.out.below hb22) ((HBB20.out.below HH21.out).below hb22))
      rw [beq_self_true] at CS2
      have HB22 := Lib.hid (HB21.out.trans (hb22.mono HB21.out.size))
      clear hb22 s0 s1 s2 s3 s4 s5 s6
      go_wp2_with fail
      refine CS2.out.mono ?_
      rintro e w23 ⟨rfl, hb23⟩
      have HB23 := Lib.hid (HB.out.trans ((HB22.out.trans (hb23.mono HB22.out.size)).mono HB.out.size))
      clear hb23
      go_wp2
      go_ret
      exact ⟨rfl, HB23.out⟩
    · obtain rfl := op_fail HPE.out hE
      have hEn : ((E : Int) != 0) = true := by simp; omega
      have CS2 := Lib.hid (ropSame_any opZero opZero _ _ _ (.slice none 0 0) (.slice none 0 0) (.slice none 0 0) W20 HV20.out.1 HV20.out.2.1 HV20.out.2.2 (Rd.nil _ _) (Rd.nil _ _) (Rd.nil _ _))
      rw [opSame_refl] at CS2
      unfold OpD.agg at CS2
      obtain ⟨s0, s1, s2, s3, s4, s5, s6⟩ := op_cellsV HR20.out
      unfold opZero at *
      simp only at CS2 HW20 s0 s1 s2 s3 ⊢
      clear hE
      go_upto_region 12 with fail
      rw [HW20.out, HQ20.out]
      go_wp2_with fail
      refine CS2.out.mono ?_
      rintro e w23 ⟨rfl, hb23⟩
      have HB23 := Lib.hid (HB.out.trans ((HB20.out.trans (hb23.mono HB20.out.size)).mono HB.out.size))
      clear hb23
      go_wp2
      go_ret
      exact ⟨rfl, HB23.out⟩

end Go.Proofs.Yticpmkdlnjnfgaa
