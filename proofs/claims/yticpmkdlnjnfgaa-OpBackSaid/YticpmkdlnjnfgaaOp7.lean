/- Layer 38 (op): the walk of OpPuts. -/
import Derived.Test.YticpmkdlnjnfgaaOp6
import Derived.Lib.QuietBelow
import Derived.Deep.CutBlock
set_option linter.unusedSimpArgs false
namespace Go.Proofs.Yticpmkdlnjnfgaa
open Go.RowKit Go.Sort

def opOne : OpD := ⟨1, 5, 0, 0, [], [], []⟩
theorem opOne_right : opRight opOne = true := by decide
theorem opOne_bytes : opBytes opOne = [1, 5] := by kernel_rfl

theorem Bs.at1 {w : World} {a : Option Addr} {n c : Nat} {l : List UInt8} (h : Bs w (.slice a n c) l) (h0 : 0 < l.length) :
    ∃ b o, a = some ⟨b, o, none⟩ ∧ ∀ k x, l[k]? = some x → w.cell? ⟨b, o + k, none⟩ = some (bv x) := by
  obtain ⟨_, a', c', he, _, _, _, h5⟩ := h
  simp only [Value.slice.injEq] at he
  obtain ⟨rfl, _, _⟩ := he
  rcases h5 with h5 | ⟨b, off, rfl, _, hc⟩
  · omega
  · exact ⟨b, off, rfl, fun k x hx => hc k _ (by rw [List.getElem?_map, hx]; rfl)⟩

set_option maxRecDepth 100000 in
theorem opAwake_any (w : World) : Calls Try.prog 22 #[] w fun e w' => e = .returned (.bool true) ∧ Below w.heap.size w w' := by
  have CP := Lib.hid (opPut_any opOne (.slice none 0 0) (.slice none 0 0) (.slice none 0 0) w (Rd.nil _ _) (Rd.nil _ _) (Rd.nil _ _))
  unfold OpPutPost at CP
  rw [opOne_right] at CP
  simp only [if_true] at CP
  rw [opOne_bytes] at CP
  unfold OpD.agg opOne at CP
  simp only at CP
  go_enter Try.func22, Try.ntmps22
  go_wp2_with fail
  refine CP.out.mono ?_
  rintro e w2 ⟨v, rfl, hb2, hbel⟩
  obtain ⟨a, c, rfl⟩ := hb2.shape
  obtain ⟨b, o, rfl, hc⟩ := hb2.at1 (by decide)
  have cc0 : w2.cell? ⟨b, o, none⟩ = some (.int .u8 1) := hc 0 1 rfl
  have cc1 : w2.cell? ⟨b, o + 1, none⟩ = some (.int .u8 5) := hc 1 5 rfl
  have HB := Lib.hid hbel
  clear hc hb2 hbel
  go_wp2
  go_ret
  exact ⟨rfl, HB.out⟩

def OpV (w : World) (o : OpD) (va vb vc : Value) : Prop := Bs w va o.a ∧ Bs w vb o.b ∧ Bs w vc o.c
theorem OpV.below {w w' : World} {o : OpD} {va vb vc : Value} (h : OpV w o va vb vc) (hb : Below w.heap.size w w') : OpV w' o va vb vc := ⟨h.1.below hb, h.2.1.below hb, h.2.2.below hb⟩
theorem OpV.shapes {w : World} {o : OpD} {va vb vc : Value} (h : OpV w o va vb vc) : (∃ a n c, va = .slice a n c) ∧ (∃ a n c, vb = .slice a n c) ∧ (∃ a n c, vc = .slice a n c) :=
  ⟨by obtain ⟨_, _, h⟩ := h.1.shape; exact ⟨_, _, _, h⟩, by obtain ⟨_, _, h⟩ := h.2.1.shape; exact ⟨_, _, _, h⟩, by obtain ⟨_, _, h⟩ := h.2.2.shape; exact ⟨_, _, _, h⟩⟩

set_option maxRecDepth 100000 in
set_option maxHeartbeats 3200000 in
theorem opputs_walk (o p : OpD) (va vb vc ua ub uc : Value) (w : World) (ho : OpV w o va vb vc) (hp : OpV w p ua ub uc) :
    Calls Try.prog 6 #[o.agg va vb vc, p.agg ua ub uc] w fun e w' => e = .returned (.bool true) ∧ Below w.heap.size w w' := by
  obtain ⟨W, hW⟩ : ∃ W, (w.alloc (.cells (o.row va vb vc) 44)).alloc (.cells (p.row ua ub uc) 44) = W := ⟨_, rfl⟩
  have hB : Below w.heap.size w W := by rw [← hW]; exact ((Below.refl _ _).alloc (Nat.le_refl _) _).alloc (by simp) _
  obtain ⟨q, hq⟩ : ∃ q, w.heap.size = q := ⟨_, rfl⟩
  have hr : W.heap[q]? = some (.cells (o.row va vb vc) 44 (0, 0)) := by rw [← hW, ← hq, alloc_get, if_neg (by simp)]; exact heap_alloc_new _ _
  have hr2 : W.heap[q + 1]? = some (.cells (p.row ua ub uc) 44 (0, 0)) := by rw [← hW, ← hq, alloc_get, if_pos (by simp)]
  have ho' := ho.below hB
  have hp' := hp.below hB
  have CFO : Hid (∀ V, Below W.heap.size W V → Calls Try.prog 23 #[o.agg va vb vc] V fun e w' => e = .returned (.bool (opFew o)) ∧ Hid (Below V.heap.size V w')) := fun V h => opFew_any o va vb vc V (ho'.below h).1 (ho'.below h).2.1 (ho'.below h).2.2
  have CFP : Hid (∀ V, Below W.heap.size W V → Calls Try.prog 23 #[p.agg ua ub uc] V fun e w' => e = .returned (.bool (opFew p)) ∧ Hid (Below V.heap.size V w')) := fun V h => opFew_any p ua ub uc V (hp'.below h).1 (hp'.below h).2.1 (hp'.below h).2.2
  have CS : Hid (∀ V, Calls Try.prog 24 #[.int .i64 o.k] V fun e w' => e = .returned (.tuple #[.int .i64 (opN o.k : Int), .int .i64 (opK o.k : Int), .bool (opIs o.k)]) ∧ w' = V) := fun V => opShape_any o.k V
  have CRS : Hid (∀ V, Calls Try.prog 25 #[.int .i64 o.k] V fun e w' => e = .returned (.tuple #[.int .i64 (opN o.k : Int), .int .i64 (opK o.k : Int), .bool (opIs o.k)]) ∧ Hid (Below V.heap.size V w')) := fun V => ropShape_any o.k V
  have CR : Hid (∀ V, Below W.heap.size W V → Calls Try.prog 26 #[o.agg va vb vc] V fun e w' => e = .returned (.bool (opRight o)) ∧ Below V.heap.size V w') := fun V h => opRight_any o va vb vc V (ho'.below h).1 (ho'.below h).2.1 (ho'.below h).2.2
  have CRR : Hid (∀ V, Below W.heap.size W V → Calls Try.prog 27 #[o.agg va vb vc] V fun e w' => e = .returned (.bool (opRight o)) ∧ Below V.heap.size V w') := fun V h => ropRight_any o va vb vc V (ho'.below h).1 (ho'.below h).2.1 (ho'.below h).2.2
  have CSA : Hid (∀ V, Below W.heap.size W V → Calls Try.prog 28 #[o.agg va vb vc, p.agg ua ub uc] V fun e w' => e = .returned (.bool (opSame o p)) ∧ Below V.heap.size V w') := fun V h => opSame_any o p va vb vc ua ub uc V (ho'.below h).1 (ho'.below h).2.1 (ho'.below h).2.2 (hp'.below h).1 (hp'.below h).2.1 (hp'.below h).2.2
  have CRA : Hid (∀ V, Below W.heap.size W V → Calls Try.prog 29 #[o.agg va vb vc, p.agg ua ub uc] V fun e w' => e = .returned (.bool (opSame o p)) ∧ Below V.heap.size V w') := fun V h => ropSame_any o p va vb vc ua ub uc V (ho'.below h).1 (ho'.below h).2.1 (ho'.below h).2.2 (hp'.below h).1 (hp'.below h).2.1 (hp'.below h).2.2
  have CSS : Hid (∀ V, Below W.heap.size W V → Calls Try.prog 28 #[o.agg va vb vc, o.agg va vb vc] V fun e w' => e = .returned (.bool true) ∧ Below V.heap.size V w') := fun V h => by
    have := opSame_any o o va vb vc va vb vc V (ho'.below h).1 (ho'.below h).2.1 (ho'.below h).2.2 (ho'.below h).1 (ho'.below h).2.1 (ho'.below h).2.2
    rwa [show opSame o o = true by unfold opSame; simp] at this
  have CC : Hid (∀ V, Calls Try.prog 30 #[.int .i64 o.k] V fun e w' => e = .returned (.bool (opIs o.k && (o.k != 4 && o.k != 11))) ∧ w' = V) := fun V => opChanges_any o.k V
  have CP : Hid (∀ V, Below W.heap.size W V → Calls Try.prog 31 #[o.agg va vb vc] V (OpPutPost o V)) := fun V h => opPut_any o va vb vc V (ho'.below h).1 (ho'.below h).2.1 (ho'.below h).2.2
  have CRP : Hid (opRight o = true → ∀ V, Below W.heap.size W V → Calls Try.prog 32 #[o.agg va vb vc] V fun e w' => ∃ v, e = .returned v ∧ Bs w' v (opBytes o) ∧ Hid (Below V.heap.size V w')) := fun hok V h => ropPut_any o va vb vc V (ho'.below h).1 (ho'.below h).2.1 (ho'.below h).2.2 hok
  obtain ⟨⟨_, _, _, rfl⟩, ⟨_, _, _, rfl⟩, ⟨_, _, _, rfl⟩⟩ := ho.shapes
  obtain ⟨⟨_, _, _, rfl⟩, ⟨_, _, _, rfl⟩, ⟨_, _, _, rfl⟩⟩ := hp.shapes
  clear ho hp ho' hp'
  unfold OpPutPost at CP
  obtain ⟨bo, hbo⟩ : ∃ b, opFew o = b := ⟨_, rfl⟩
  obtain ⟨bp, hbp⟩ : ∃ b, opFew p = b := ⟨_, rfl⟩
  obtain ⟨n, hn⟩ : ∃ n, opN o.k = n := ⟨_, rfl⟩
  obtain ⟨m, hm⟩ : ∃ n, opK o.k = n := ⟨_, rfl⟩
  obtain ⟨is, his⟩ : ∃ n, opIs o.k = n := ⟨_, rfl⟩
  obtain ⟨R, hR⟩ : ∃ n, opRight o = n := ⟨_, rfl⟩
  obtain ⟨T, hT⟩ : ∃ n, opSame o p = n := ⟨_, rfl⟩
  obtain ⟨all, hall⟩ : ∃ n, opBytes o = n := ⟨_, rfl⟩
  rw [hbo] at CFO
  rw [hbp] at CFP
  rw [hn, hm, his] at CS CRS
  rw [his] at CC
  rw [hR] at CR CRR CP CRP
  rw [hT] at CSA CRA
  rw [hall] at CP CRP
  clear hbo hbp hn hm his hR hT hall
  obtain ⟨k, x0, x1, x2, a, b, c⟩ := o
  obtain ⟨k', y0, y1, y2, a', b', c'⟩ := p
  unfold OpD.agg at *
  unfold OpD.row at hr hr2 hW
  simp only at hr hr2 hW CFO CFP CS CRS CR CRR CSA CRA CSS CC CP CRP ⊢
  have HKEEP := Lib.hid (fun (V : World) (hV : Below W.heap.size W V) => And.intro (op_cells ((hV.block q (heap_lt hr)).trans hr)) (op_cells ((hV.block (q + 1) (heap_lt hr2)).trans hr2)))
  have HW := Lib.hid hW
  have HB := Lib.hid hB
  have HQ := Lib.hid hq
  obtain ⟨⟨s0, s1, s2, s3, s4, s5, s6⟩, ⟨t0, t1, t2, t3, t4, t5, t6⟩⟩ := HKEEP.out W (Below.refl _ _)
  clear hr hr2 hW hB hq
  go_enter Try.func6, Try.ntmps6
  go_wp2_with fail
  rw [HW.out, HQ.out]
  refine (opAwake_any W).mono ?_
  rintro e w2 ⟨rfl, hb2⟩
  have HB2 := Lib.hid hb2
  clear s0 s1 s2 s3 s4 s5 s6 t0 t1 t2 t3 t4 t5 t6 hb2
  obtain ⟨⟨s0, s1, s2, s3, s4, s5, s6⟩, ⟨t0, t1, t2, t3, t4, t5, t6⟩⟩ := HKEEP.out w2 HB2.out
  go_wp2_with fail
  refine (CFO.out w2 HB2.out).mono ?_
  rintro e w3 ⟨rfl, hb3⟩
  have HB3 := Lib.hid (HB2.out.trans (hb3.out.mono HB2.out.size))
  clear s0 s1 s2 s3 s4 s5 s6 t0 t1 t2 t3 t4 t5 t6 hb3
  obtain ⟨⟨s0, s1, s2, s3, s4, s5, s6⟩, ⟨t0, t1, t2, t3, t4, t5, t6⟩⟩ := HKEEP.out w3 HB3.out
  cases bo with
  | false =>
    have hf := HB.out.trans (HB3.out.mono HB.out.size)
    go_wp2
    go_ret
    exact ⟨rfl, hf⟩
  | true =>
  go_wp2_with fail
  refine (CFP.out w3 HB3.out).mono ?_
  rintro e w4 ⟨rfl, hb4⟩
  have HB4 := Lib.hid (HB3.out.trans (hb4.out.mono HB3.out.size))
  clear s0 s1 s2 s3 s4 s5 s6 t0 t1 t2 t3 t4 t5 t6 hb4
  obtain ⟨⟨s0, s1, s2, s3, s4, s5, s6⟩, ⟨t0, t1, t2, t3, t4, t5, t6⟩⟩ := HKEEP.out w4 HB4.out
  cases bp with
  | false =>
    have hf := HB.out.trans (HB4.out.mono HB.out.size)
    go_wp2
    go_ret
    exact ⟨rfl, hf⟩
  | true =>
  go_wp2_with fail
  refine (CS.out w4).mono ?_
  rintro e w5 ⟨rfl, rfl⟩
  obtain ⟨w4, hw4⟩ : ∃ V, V = w5 := ⟨_, rfl⟩
  subst hw4
  go_wp2_with fail
  refine (CRS.out w4).mono ?_
  rintro e w5 ⟨rfl, hb5⟩
  have HB5 := Lib.hid (HB4.out.trans (hb5.out.mono HB4.out.size))
  clear s0 s1 s2 s3 s4 s5 s6 t0 t1 t2 t3 t4 t5 t6 hb5
  obtain ⟨⟨s0, s1, s2, s3, s4, s5, s6⟩, ⟨t0, t1, t2, t3, t4, t5, t6⟩⟩ := HKEEP.out w5 HB5.out
  have hnn : ((n : Int) != n) = false := by simp
  have hmm : ((m : Int) != m) = false := by simp
  have hRR : (R != R) = false := by cases R <;> rfl
  have hTT : (T != T) = false := by cases T <;> rfl
  have hRG : ∀ d os, Below W.heap.size W (grow (redrawn w5 d) os) := fun d os => HB5.out.trans ((below_regrown w5 d os).mono HB5.out.size)
  have S1 : Hid (∀ d os, Calls Try.prog 26 _ (grow (redrawn w5 d) os) fun e w'' => e = .returned (.bool R) ∧ ∃ p : Regrown, w'' = grow (redrawn w5 p.d) p.os) := fun d os => Calls.regrown_of (CR.out _ (hRG d os))
  have S2 : Hid (∀ d os, Calls Try.prog 27 _ (grow (redrawn w5 d) os) fun e w'' => e = .returned (.bool R) ∧ ∃ p : Regrown, w'' = grow (redrawn w5 p.d) p.os) := fun d os => Calls.regrown_of (CRR.out _ (hRG d os))
  have S3 : Hid (∀ d os, Calls Try.prog 28 _ (grow (redrawn w5 d) os) fun e w'' => e = .returned (.bool T) ∧ ∃ p : Regrown, w'' = grow (redrawn w5 p.d) p.os) := fun d os => Calls.regrown_of (CSA.out _ (hRG d os))
  have S4 : Hid (∀ d os, Calls Try.prog 29 _ (grow (redrawn w5 d) os) fun e w'' => e = .returned (.bool T) ∧ ∃ p : Regrown, w'' = grow (redrawn w5 p.d) p.os) := fun d os => Calls.regrown_of (CRA.out _ (hRG d os))
  have S5 : Hid (∀ d os, Calls Try.prog 28 _ (grow (redrawn w5 d) os) fun e w'' => e = .returned (.bool true) ∧ ∃ p : Regrown, w'' = grow (redrawn w5 p.d) p.os) := fun d os => Calls.regrown_of (CSS.out _ (hRG d os))
  have S6 : Hid (∀ d os, Calls Try.prog 30 #[.int .i64 k] (grow (redrawn w5 d) os) fun e w'' => e = .returned (.bool (is && (k != 4 && k != 11))) ∧ ∃ p : Regrown, w'' = grow (redrawn w5 p.d) p.os) := fun d os => by
    refine Calls.regrown_of ((CC.out _).mono ?_)
    rintro e w' ⟨rfl, rfl⟩
    exact ⟨rfl, Below.refl _ _⟩
  have q0 := fun d os => cell_regrown s0 d os
  have q1 := fun d os => cell_regrown s1 d os
  have q2 := fun d os => cell_regrown s2 d os
  have q3 := fun d os => cell_regrown s3 d os
  have q4 := fun d os => cell_regrown s4 d os
  have q5 := fun d os => cell_regrown s5 d os
  have q6 := fun d os => cell_regrown s6 d os
  have r0 := fun d os => cell_regrown t0 d os
  have r1 := fun d os => cell_regrown t1 d os
  have r2 := fun d os => cell_regrown t2 d os
  have r3 := fun d os => cell_regrown t3 d os
  have r4 := fun d os => cell_regrown t4 d os
  have r5 := fun d os => cell_regrown t5 d os
  have r6 := fun d os => cell_regrown t6 d os
  clear hRG
  have hways : is = false ∨ (is = true ∧ k = 4) ∨ (is = true ∧ k = 11) ∨ (is = true ∧ (k != 4) = true ∧ (k != 11) = true) := by
    cases is with
    | false => exact .inl rfl
    | true =>
      by_cases h4 : k = 4
      · exact .inr (.inl ⟨rfl, h4⟩)
      · by_cases h11 : k = 11
        · exact .inr (.inr (.inl ⟨rfl, h11⟩))
        · exact .inr (.inr (.inr ⟨rfl, by simpa using h4, by simpa using h11⟩))
  go_upto_region 7 with fail
  clear s0 s1 s2 s3 s4 s5 s6 t0 t1 t2 t3 t4 t5 t6
  rcases hways with rfl | ⟨rfl, rfl⟩ | ⟨rfl, rfl⟩ | ⟨rfl, e4, e11⟩
  all_goals
    first
      | rw [Bool.false_and] at S6
      | rw [show (true && ((4 : Int) != 4 && (4 : Int) != 11)) = false by decide] at S6
      | rw [show (true && ((11 : Int) != 4 && (11 : Int) != 11)) = false by decide] at S6
      | rw [e4, e11, show (true && (true && true)) = true by decide] at S6
    refine wp_region_quiet_below (by kernel_rfl) (by kernel_rfl) ?_
    repeat (go_big_quiet_step ((first | (go_at_call 26; with_reducible exact S1.out _ _) | (go_at_call 27; with_reducible exact S2.out _ _) | (go_at_call 28; with_reducible exact S3.out _ _) | (go_at_call 29; with_reducible exact S4.out _ _) | (go_at_call 28; with_reducible exact S5.out _ _) | (go_at_call 30; with_reducible exact S6.out _ _))))
    refine wpQuiet_nil ?_
    intro _ hw'
    obtain ⟨⟨dq, osq⟩, hw''⟩ := hw'
    subst hw''
    have HB6 := below_regrown w5 dq osq
    obtain ⟨w6, hwq⟩ : ∃ x, x = grow (redrawn w5 dq) osq := ⟨_, rfl⟩
    rw [← hwq] at HB6 ⊢
    clear hwq
    have HB6' := Lib.hid (HB5.out.trans (HB6.mono HB5.out.size))
    clear HB6 q0 q1 q2 q3 q4 q5 q6 r0 r1 r2 r3 r4 r5 r6 S1 S2 S3 S4 S5 S6 hnn hmm hRR hTT
    obtain ⟨⟨s0, s1, s2, s3, s4, s5, s6⟩, -⟩ := HKEEP.out w6 HB6'.out
    go_wp2_with fail
    refine (CP.out w6 HB6'.out).mono ?_
    rintro e w7 hp7
    clear s0 s1 s2 s3 s4 s5 s6
    cases R with
    | false =>
      simp only [Bool.false_eq_true, if_false] at hp7
      obtain ⟨rfl, hb7⟩ := hp7
      have HB7 := Lib.hid (HB6'.out.trans (hb7.mono HB6'.out.size))
      clear hb7
      obtain ⟨⟨s0, s1, s2, s3, s4, s5, s6⟩, -⟩ := HKEEP.out w7 HB7.out
      go_wp2_with fail
      refine (CRR.out w7 HB7.out).mono ?_
      rintro e w8 ⟨rfl, hb8⟩
      have HB8 := Lib.hid (HB.out.trans ((HB7.out.trans (hb8.mono HB7.out.size)).mono HB.out.size))
      clear hb8 s0 s1 s2 s3 s4 s5 s6
      go_wp2
      go_ret
      exact ⟨rfl, HB8.out⟩
    | true =>
      simp only [if_true] at hp7
      obtain ⟨v7, rfl, hbs7, hb7⟩ := hp7
      have HB7 := Lib.hid (HB6'.out.trans (hb7.mono HB6'.out.size))
      have HBS7 := Lib.hid hbs7
      clear hb7
      obtain ⟨⟨s0, s1, s2, s3, s4, s5, s6⟩, -⟩ := HKEEP.out w7 HB7.out
      obtain ⟨v7a, v7c, hv7⟩ := hbs7.shape
      subst hv7
      clear hbs7
      go_wp2_with fail
      refine (CRR.out w7 HB7.out).mono ?_
      rintro e w8 ⟨rfl, hb8⟩
      have HB8 := Lib.hid (HB7.out.trans (hb8.mono HB7.out.size))
      have HBS8 := Lib.hid (HBS7.out.below hb8)
      clear hb8 s0 s1 s2 s3 s4 s5 s6
      obtain ⟨⟨s0, s1, s2, s3, s4, s5, s6⟩, -⟩ := HKEEP.out w8 HB8.out
      go_wp2_with fail
      refine (CRP.out (by simp) w8 HB8.out).mono ?_
      rintro e w9 ⟨v9, rfl, hbs9, hb9⟩
      have HB9 := Lib.hid (HB8.out.trans (hb9.out.mono HB8.out.size))
      have CSM := Lib.hid (same_any _ _ _ _ w9 (HBS8.out.below hb9.out) hbs9)
      rw [beq_self_true] at CSM
      clear hbs9 hb9 s0 s1 s2 s3 s4 s5 s6
      go_wp2_with fail
      refine CSM.out.mono ?_
      rintro e w10 ⟨rfl, hb10⟩
      have HB10 := Lib.hid (HB.out.trans ((HB9.out.trans (hb10.mono HB9.out.size)).mono HB.out.size))
      clear hb10
      go_wp2
      go_ret
      exact ⟨rfl, HB10.out⟩

end Go.Proofs.Yticpmkdlnjnfgaa
