/- Layer 38 (op): Same, both sides. -/
import Derived.Test.YticpmkdlnjnfgaaOp3
import Derived.Test.YticpmkdlnjnfgaaFrameWhole
set_option linter.unusedSimpArgs false
namespace Go.Proofs.Yticpmkdlnjnfgaa
open Go.RowKit

theorem opSame_def (o p : OpD) {b0 b1 b2 b3 b4 b5 b6 : Bool} (h0 : (o.k == p.k) = b0) (h1 : (o.x0 == p.x0) = b1) (h2 : (o.x1 == p.x1) = b2) (h3 : (o.x2 == p.x2) = b3) (h4 : (o.a == p.a) = b4) (h5 : (o.b == p.b) = b5) (h6 : (o.c == p.c) = b6) :
    opSame o p = (b0 && (b1 && (b2 && (b3 && (b4 && (b5 && b6)))))) := by unfold opSame; rw [h0, h1, h2, h3, h4, h5, h6]

set_option maxRecDepth 100000 in
set_option maxHeartbeats 1600000 in
theorem ropSame_any (o p : OpD) (va vb vc ua ub uc : Value) (w : World) (ha : Bs w va o.a) (hb : Bs w vb o.b) (hc : Bs w vc o.c) (ka : Bs w ua p.a) (kb : Bs w ub p.b) (kc : Bs w uc p.c) :
    Calls Try.prog 29 #[o.agg va vb vc, p.agg ua ub uc] w fun e w' => e = .returned (.bool (opSame o p)) ∧ Below w.heap.size w w' := by
  obtain ⟨b0, h0⟩ : ∃ z, (o.k == p.k) = z := ⟨_, rfl⟩
  obtain ⟨b1, h1⟩ : ∃ z, (o.x0 == p.x0) = z := ⟨_, rfl⟩
  obtain ⟨b2, h2⟩ : ∃ z, (o.x1 == p.x1) = z := ⟨_, rfl⟩
  obtain ⟨b3, h3⟩ : ∃ z, (o.x2 == p.x2) = z := ⟨_, rfl⟩
  obtain ⟨b4, h4⟩ : ∃ z, (o.a == p.a) = z := ⟨_, rfl⟩
  obtain ⟨b5, h5⟩ : ∃ z, (o.b == p.b) = z := ⟨_, rfl⟩
  obtain ⟨b6, h6⟩ : ∃ z, (o.c == p.c) = z := ⟨_, rfl⟩
  have HS := Lib.hid (opSame_def o p h0 h1 h2 h3 h4 h5 h6)
  rw [HS.out]
  obtain ⟨W, hW⟩ : ∃ W, (w.alloc (.cells (o.row va vb vc) 44)).alloc (.cells (p.row ua ub uc) 44) = W := ⟨_, rfl⟩
  have hB : Below w.heap.size w W := by rw [← hW]; exact ((Below.refl _ _).alloc (Nat.le_refl _) _).alloc (by simp) _
  obtain ⟨q, hq⟩ : ∃ q, w.heap.size = q := ⟨_, rfl⟩
  have hr : W.heap[q]? = some (.cells (o.row va vb vc) 44 (0, 0)) := by rw [← hW, ← hq, alloc_get, if_neg (by simp)]; exact heap_alloc_new _ _
  have hr2 : W.heap[q + 1]? = some (.cells (p.row ua ub uc) 44 (0, 0)) := by rw [← hW, ← hq, alloc_get, if_pos (by simp)]
  have CA : Hid (∀ V, Below W.heap.size W V → Calls Try.prog 16 #[va, ua] V fun e w' => e = .returned (.bool b4) ∧ Hid (Below V.heap.size V w')) := fun V hV => by
    have := same_any va ua _ _ V ((ha.below hB).below hV) ((ka.below hB).below hV)
    rw [h4] at this
    exact this
  have CB : Hid (∀ V, Below W.heap.size W V → Calls Try.prog 16 #[vb, ub] V fun e w' => e = .returned (.bool b5) ∧ Hid (Below V.heap.size V w')) := fun V hV => by
    have := same_any vb ub _ _ V ((hb.below hB).below hV) ((kb.below hB).below hV)
    rw [h5] at this
    exact this
  have CC : Hid (∀ V, Below W.heap.size W V → Calls Try.prog 16 #[vc, uc] V fun e w' => e = .returned (.bool b6) ∧ Hid (Below V.heap.size V w')) := fun V hV => by
    have := same_any vc uc _ _ V ((hc.below hB).below hV) ((kc.below hB).below hV)
    rw [h6] at this
    exact this
  have HSH : Hid ((∃ a n c, va = .slice a n c) ∧ (∃ a n c, vb = .slice a n c) ∧ (∃ a n c, vc = .slice a n c) ∧ (∃ a n c, ua = .slice a n c) ∧ (∃ a n c, ub = .slice a n c) ∧ (∃ a n c, uc = .slice a n c)) :=
    ⟨by obtain ⟨_, _, h⟩ := ha.shape; exact ⟨_, _, _, h⟩, by obtain ⟨_, _, h⟩ := hb.shape; exact ⟨_, _, _, h⟩, by obtain ⟨_, _, h⟩ := hc.shape; exact ⟨_, _, _, h⟩,
     by obtain ⟨_, _, h⟩ := ka.shape; exact ⟨_, _, _, h⟩, by obtain ⟨_, _, h⟩ := kb.shape; exact ⟨_, _, _, h⟩, by obtain ⟨_, _, h⟩ := kc.shape; exact ⟨_, _, _, h⟩⟩
  clear ha hb hc ka kb kc h4 h5 h6 HS
  obtain ⟨k, x0, x1, x2, a, b, c⟩ := o
  obtain ⟨k', y0, y1, y2, a', b', c'⟩ := p
  obtain ⟨⟨_, _, _, rfl⟩, ⟨_, _, _, rfl⟩, ⟨_, _, _, rfl⟩, ⟨_, _, _, rfl⟩, ⟨_, _, _, rfl⟩, ⟨_, _, _, rfl⟩⟩ := HSH.out
  unfold OpD.agg
  unfold OpD.row at hr hr2 hW
  simp only at hr hr2 hW h0 h1 h2 h3 ⊢
  have HKEEP := Lib.hid (fun (V : World) (hV : Below W.heap.size W V) => And.intro (op_cells ((hV.block q (heap_lt hr)).trans hr)) (op_cells ((hV.block (q + 1) (heap_lt hr2)).trans hr2)))
  have HW := Lib.hid hW
  have HB := Lib.hid hB
  have HQ := Lib.hid hq
  clear hr hr2 hW hB hq HSH
  go_enter Try.func29, Try.ntmps29
  cases b0 with
  | false => go_wp2; go_ret; exact ⟨rfl, by have := HB.out; rwa [← HW.out] at this⟩
  | true =>
  cases b1 with
  | false => go_wp2; go_ret; exact ⟨rfl, by have := HB.out; rwa [← HW.out] at this⟩
  | true =>
  cases b2 with
  | false => go_wp2; go_ret; exact ⟨rfl, by have := HB.out; rwa [← HW.out] at this⟩
  | true =>
  cases b3 with
  | false => go_wp2; go_ret; exact ⟨rfl, by have := HB.out; rwa [← HW.out] at this⟩
  | true =>
  go_wp2_with fail
  rw [HW.out, HQ.out]
  refine (CA.out W (Below.refl _ _)).mono ?_
  rintro e w4 ⟨rfl, hb4⟩
  have HB4 := Lib.hid (HB.out.trans (hb4.out.mono HB.out.size))
  cases b4 with
  | false => clear hb4; go_wp2; go_ret; exact ⟨rfl, HB4.out⟩
  | true =>
  obtain ⟨⟨s0, s1, s2, s3, s4, s5, s6⟩, ⟨t0, t1, t2, t3, t4, t5, t6⟩⟩ := HKEEP.out w4 hb4.out
  go_wp2_with fail
  refine (CB.out w4 hb4.out).mono ?_
  rintro e w5 ⟨rfl, hb5⟩
  have hb45 := Lib.hid (hb4.out.trans (hb5.out.mono hb4.out.size))
  have HB5 := Lib.hid (HB4.out.trans (hb5.out.mono HB4.out.size))
  clear s0 s1 s2 s3 s4 s5 s6 t0 t1 t2 t3 t4 t5 t6 hb4 hb5
  cases b5 with
  | false => clear hb45; go_wp2; go_ret; exact ⟨rfl, HB5.out⟩
  | true =>
  obtain ⟨⟨s0, s1, s2, s3, s4, s5, s6⟩, ⟨t0, t1, t2, t3, t4, t5, t6⟩⟩ := HKEEP.out w5 hb45.out
  go_wp2_with fail
  refine (CC.out w5 hb45.out).mono ?_
  rintro e w6 ⟨rfl, hb6⟩
  have HB6 := Lib.hid (HB5.out.trans (hb6.out.mono HB5.out.size))
  clear s0 s1 s2 s3 s4 s5 s6 t0 t1 t2 t3 t4 t5 t6 hb45 hb6
  cases b6 with
  | false => go_wp2; go_ret; exact ⟨rfl, HB6.out⟩
  | true => go_wp2; go_ret; exact ⟨rfl, HB6.out⟩

theorem eq_arr3 (x0 x1 x2 y0 y1 y2 : Int) (w : World) : (Op.equalIn 10000 42 (.agg #[.int .i64 x0, .int .i64 x1, .int .i64 x2]) (.agg #[.int .i64 y0, .int .i64 y1, .int .i64 y2])).run Try.prog w = .ok ((x0 == y0) && ((x1 == y1) && (x2 == y2))) w := by
  have u3 := Try.underlying3
  have a3 := Try.isAgg3
  have z3 := Try.sizeOf3
  rw [show (10000 : Nat) = 9999 + 1 from rfl, Op.equalIn]
  simp only [Sem.run_bind, run_underlying Try.underlying42, Result.andThen_ok]
  simp only [Std.Legacy.Range.forIn_eq_forIn_range', Std.Legacy.Range.size, Nat.sub_zero, Nat.add_sub_cancel, Nat.div_one, List.range'_succ, List.range'_zero, List.forIn_cons, List.forIn_nil]
  go_simp
  by_cases h1 : x0 = y0 <;> by_cases h2 : x1 = y1 <;> by_cases h3 : x2 = y2 <;> simp [h1, h2, h3]

set_option maxRecDepth 100000 in
set_option maxHeartbeats 1600000 in
theorem opSame_any (o p : OpD) (va vb vc ua ub uc : Value) (w : World) (ha : Bs w va o.a) (hb : Bs w vb o.b) (hc : Bs w vc o.c) (ka : Bs w ua p.a) (kb : Bs w ub p.b) (kc : Bs w uc p.c) :
    Calls Try.prog 28 #[o.agg va vb vc, p.agg ua ub uc] w fun e w' => e = .returned (.bool (opSame o p)) ∧ Below w.heap.size w w' := by
  obtain ⟨b0, h0⟩ : ∃ z, (o.k == p.k) = z := ⟨_, rfl⟩
  obtain ⟨b1, h1⟩ : ∃ z, (o.x0 == p.x0) = z := ⟨_, rfl⟩
  obtain ⟨b2, h2⟩ : ∃ z, (o.x1 == p.x1) = z := ⟨_, rfl⟩
  obtain ⟨b3, h3⟩ : ∃ z, (o.x2 == p.x2) = z := ⟨_, rfl⟩
  obtain ⟨b4, h4⟩ : ∃ z, (o.a == p.a) = z := ⟨_, rfl⟩
  obtain ⟨b5, h5⟩ : ∃ z, (o.b == p.b) = z := ⟨_, rfl⟩
  obtain ⟨b6, h6⟩ : ∃ z, (o.c == p.c) = z := ⟨_, rfl⟩
  have HS := Lib.hid (opSame_def o p h0 h1 h2 h3 h4 h5 h6)
  rw [HS.out]
  obtain ⟨W, hW⟩ : ∃ W, (w.alloc (.cells (o.row va vb vc) 44)).alloc (.cells (p.row ua ub uc) 44) = W := ⟨_, rfl⟩
  have hB : Below w.heap.size w W := by rw [← hW]; exact ((Below.refl _ _).alloc (Nat.le_refl _) _).alloc (by simp) _
  obtain ⟨q, hq⟩ : ∃ q, w.heap.size = q := ⟨_, rfl⟩
  have hr : W.heap[q]? = some (.cells (o.row va vb vc) 44 (0, 0)) := by rw [← hW, ← hq, alloc_get, if_neg (by simp)]; exact heap_alloc_new _ _
  have hr2 : W.heap[q + 1]? = some (.cells (p.row ua ub uc) 44 (0, 0)) := by rw [← hW, ← hq, alloc_get, if_pos (by simp)]
  have CA : Hid (∀ V, Below W.heap.size W V → Calls Try.prog 70 #[va, ua] V fun e w' => e = .returned (.bool b4) ∧ Hid (Below V.heap.size V w')) := fun V hV => by
    have := equal_any va ua _ _ V ((ha.below hB).below hV) ((ka.below hB).below hV)
    rw [h4] at this
    refine this.mono ?_
    rintro e w' ⟨rfl, rfl⟩
    exact ⟨rfl, Below.refl _ _⟩
  have CB : Hid (∀ V, Below W.heap.size W V → Calls Try.prog 70 #[vb, ub] V fun e w' => e = .returned (.bool b5) ∧ Hid (Below V.heap.size V w')) := fun V hV => by
    have := equal_any vb ub _ _ V ((hb.below hB).below hV) ((kb.below hB).below hV)
    rw [h5] at this
    refine this.mono ?_
    rintro e w' ⟨rfl, rfl⟩
    exact ⟨rfl, Below.refl _ _⟩
  have CC : Hid (∀ V, Below W.heap.size W V → Calls Try.prog 70 #[vc, uc] V fun e w' => e = .returned (.bool b6) ∧ Hid (Below V.heap.size V w')) := fun V hV => by
    have := equal_any vc uc _ _ V ((hc.below hB).below hV) ((kc.below hB).below hV)
    rw [h6] at this
    refine this.mono ?_
    rintro e w' ⟨rfl, rfl⟩
    exact ⟨rfl, Below.refl _ _⟩
  have HSH : Hid ((∃ a n c, va = .slice a n c) ∧ (∃ a n c, vb = .slice a n c) ∧ (∃ a n c, vc = .slice a n c) ∧ (∃ a n c, ua = .slice a n c) ∧ (∃ a n c, ub = .slice a n c) ∧ (∃ a n c, uc = .slice a n c)) :=
    ⟨by obtain ⟨_, _, h⟩ := ha.shape; exact ⟨_, _, _, h⟩, by obtain ⟨_, _, h⟩ := hb.shape; exact ⟨_, _, _, h⟩, by obtain ⟨_, _, h⟩ := hc.shape; exact ⟨_, _, _, h⟩,
     by obtain ⟨_, _, h⟩ := ka.shape; exact ⟨_, _, _, h⟩, by obtain ⟨_, _, h⟩ := kb.shape; exact ⟨_, _, _, h⟩, by obtain ⟨_, _, h⟩ := kc.shape; exact ⟨_, _, _, h⟩⟩
  clear ha hb hc ka kb kc h4 h5 h6 HS
  obtain ⟨k, x0, x1, x2, a, b, c⟩ := o
  obtain ⟨k', y0, y1, y2, a', b', c'⟩ := p
  obtain ⟨⟨_, _, _, rfl⟩, ⟨_, _, _, rfl⟩, ⟨_, _, _, rfl⟩, ⟨_, _, _, rfl⟩, ⟨_, _, _, rfl⟩, ⟨_, _, _, rfl⟩⟩ := HSH.out
  unfold OpD.agg
  unfold OpD.row at hr hr2 hW
  simp only at hr hr2 hW h0 h1 h2 h3 ⊢
  have HKEEP := Lib.hid (fun (V : World) (hV : Below W.heap.size W V) => And.intro (op_cells ((hV.block q (heap_lt hr)).trans hr)) (op_cells ((hV.block (q + 1) (heap_lt hr2)).trans hr2)))
  have HW := Lib.hid hW
  have HB := Lib.hid hB
  have HQ := Lib.hid hq
  clear hr hr2 hW hB hq HSH
  have hEA : ∀ V : World, (Op.equalIn 10000 42 (.agg #[.int .i64 x0, .int .i64 x1, .int .i64 x2]) (.agg #[.int .i64 y0, .int .i64 y1, .int .i64 y2])).run Try.prog V = .ok (b1 && (b2 && b3)) V := fun V => by rw [eq_arr3, h1, h2, h3]
  go_enter Try.func28, Try.ntmps28
  cases b0 with
  | false => go_wp2; go_ret; exact ⟨rfl, by have := HB.out; rwa [← HW.out] at this⟩
  | true =>
  cases b1 with
  | false => go_wp2; go_ret; exact ⟨rfl, by have := HB.out; rwa [← HW.out] at this⟩
  | true =>
  cases b2 with
  | false => go_wp2; go_ret; exact ⟨rfl, by have := HB.out; rwa [← HW.out] at this⟩
  | true =>
  cases b3 with
  | false => go_wp2; go_ret; exact ⟨rfl, by have := HB.out; rwa [← HW.out] at this⟩
  | true =>
  go_wp2_with fail
  rw [HW.out, HQ.out]
  refine (CA.out W (Below.refl _ _)).mono ?_
  rintro e w4 ⟨rfl, hb4⟩
  have HB4 := Lib.hid (HB.out.trans (hb4.out.mono HB.out.size))
  cases b4 with
  | false => clear hb4; go_wp2; go_ret; exact ⟨rfl, HB4.out⟩
  | true =>
  obtain ⟨⟨s0, s1, s2, s3, s4, s5, s6⟩, ⟨t0, t1, t2, t3, t4, t5, t6⟩⟩ := HKEEP.out w4 hb4.out
  go_wp2_with fail
  refine (CB.out w4 hb4.out).mono ?_
  rintro e w5 ⟨rfl, hb5⟩
  have hb45 := Lib.hid (hb4.out.trans (hb5.out.mono hb4.out.size))
  have HB5 := Lib.hid (HB4.out.trans (hb5.out.mono HB4.out.size))
  clear s0 s1 s2 s3 s4 s5 s6 t0 t1 t2 t3 t4 t5 t6 hb4 hb5
  cases b5 with
  | false => clear hb45; go_wp2; go_ret; exact ⟨rfl, HB5.out⟩
  | true =>
  obtain ⟨⟨s0, s1, s2, s3, s4, s5, s6⟩, ⟨t0, t1, t2, t3, t4, t5, t6⟩⟩ := HKEEP.out w5 hb45.out
  go_wp2_with fail
  refine (CC.out w5 hb45.out).mono ?_
  rintro e w6 ⟨rfl, hb6⟩
  have HB6 := Lib.hid (HB5.out.trans (hb6.out.mono HB5.out.size))
  clear s0 s1 s2 s3 s4 s5 s6 t0 t1 t2 t3 t4 t5 t6 hb45 hb6
  cases b6 with
  | false => go_wp2; go_ret; exact ⟨rfl, HB6.out⟩
  | true => go_wp2; go_ret; exact ⟨rfl, HB6.out⟩

end Go.Proofs.Yticpmkdlnjnfgaa
