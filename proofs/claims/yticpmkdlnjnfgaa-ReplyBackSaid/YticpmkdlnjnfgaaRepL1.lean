/- Layer 39 (reply): the example; the walk of the statement ReplyBytes. -/
import Derived.Test.YticpmkdlnjnfgaaRepL0
import Derived.Test.YticpmkdlnjnfgaaFBspec
import Derived.Test.YticpmkdlnjnfgaaRep4
import Derived.Lib.QuietBelow
import Derived.Deep.RegionHeld3
set_option linter.unusedSimpArgs false
namespace Go.Proofs.Yticpmkdlnjnfgaa
open Go.RowKit Go.Sort

theorem repFail_any (e : Int) (w : World) : Calls Try.prog 78 #[.int .i64 e] w fun x w' => x = .returned ((⟨e, 0, 0, []⟩ : Rep).agg (.slice none 0 0)) ∧ Below w.heap.size w w' := by
  go_enter Try.func78, Try.ntmps78
  go_wp2
  refine bodyPost_ret (v := (⟨e, 0, 0, []⟩ : Rep).agg (.slice none 0 0)) (by simp [results, Try.results78, go_sem, Rep.agg]) rfl ⟨rfl, ?_⟩
  exact (Below.refl _ _).alloc (Nat.le_refl _) _

theorem rcontent_ex : rcontent ⟨3, 0, 0, []⟩ = [3, 0, 0, 0] := by
  unfold rcontent
  have h0 : vput 0 = [0] := by rw [vput_small (by omega)]; rfl
  have h3 : vput 3 = [3] := by rw [vput_small (by omega)]; rfl
  have ht : (vturn 0).toNat = 0 := by decide
  simp [h0, h3, ht]
theorem repOk_ex : repOk ⟨3, 0, 0, []⟩ = true := by decide

set_option maxRecDepth 100000 in
theorem awake39_any (w : World) : Calls Try.prog 35 #[] w fun e w' => e = .returned (.bool true) ∧ Below w.heap.size w w' := by
  have hwh := fwhole_frame 6 (rcontent ⟨3, 0, 0, []⟩) (by rw [rcontent_ex]; decide)
  rw [rcontent_ex] at hwh
  have hrb : rbytesOf ⟨3, 0, 0, []⟩ = fframe 6 [3, 0, 0, 0] := by unfold rbytesOf; rw [rcontent_ex]
  have hfl : (fframe 6 [3, 0, 0, 0]).length ≤ 1048576 := by rw [fframe_len, vput_small (by simp)]; decide
  have HWH := Lib.hid hwh
  have HRB := Lib.hid hrb
  have HFL := Lib.hid hfl
  clear hwh hrb hfl
  go_enter Try.func35, Try.ntmps35
  go_wp2_with fail
  refine (repFail_any 3 _).mono ?_
  rintro e w1 ⟨rfl, hb1⟩
  have hP := Lib.hid (repPut_any ⟨3, 0, 0, []⟩ (.slice none 0 0) w1 (Rd.nil _ _) ⟨by simp, by simp, by simp⟩ (by simp))
  unfold Rep.agg at hP ⊢
  go_wp2_with fail
  refine hP.out.mono ?_
  rintro e w2 h2
  unfold RepPutPost at h2
  rcases h2 with ⟨-, v, rfl, ho, hb2⟩ | ⟨h, -⟩
  · rw [HRB.out] at ho
    have hw2 := hb1.trans (hb2.mono hb1.size)
    obtain ⟨xa, xc, hs⟩ := ho.shape
    subst hs
    go_wp2_with fail
    refine (rfwhole_any 6 6 rfl _ _ _ ho.bs HFL.out).mono ?_
    rintro e w3 ⟨v3, he, hv3, hb3⟩
    rw [HWH.out] at he hv3
    subst he
    simp only at hv3
    have hw3 := hw2.trans (hb3.mono hw2.size)
    have HV3 := Lib.hid hv3
    obtain ⟨xa3, xc3, hs⟩ := hv3.shape
    subst hs
    clear hv3
    go_wp2_with fail
    refine (same_any _ _ _ _ _ (HV3.out.alloc _) (ob_lit w3 5 #[.int .u8 3, .int .u8 0, .int .u8 0, .int .u8 0] [3, 0, 0, 0] 4 rfl (by simp [maxLen]) rfl).bs).mono ?_
    rintro e w4 ⟨rfl, hb4⟩
    rw [beq_self_true]
    go_wp2
    go_ret
    exact ⟨rfl, hw3.trans ((((Below.refl _ _).alloc (Nat.le_refl _) _).trans (hb4.mono (by simp))).mono hw3.size)⟩
  · rw [repOk_ex] at h
    cases h

theorem repSame_self (r : Rep) : repSame r r = true := by simp [repSame]

/-- the four cells of a reply in a block -/
theorem rep_cells {W : World} {B : Nat} {r : Rep} {v : Value} (h : W.heap[B]? = some (.cells #[.int .i64 r.e, .int .i64 r.n, .int .i64 r.m, v] 59 (0, 0))) :
    W.cell? ⟨B, 0, none⟩ = some (.int .i64 r.e) ∧ W.cell? ⟨B, 1, none⟩ = some (.int .i64 r.n) ∧ W.cell? ⟨B, 2, none⟩ = some (.int .i64 r.m) ∧ W.cell? ⟨B, 3, none⟩ = some v :=
  ⟨cell_of_row _ _ 0 _ _ _ h, cell_of_row _ _ 1 _ _ _ h, cell_of_row _ _ 2 _ _ _ h, cell_of_row _ _ 3 _ _ _ h⟩

set_option maxRecDepth 100000 in
set_option maxHeartbeats 3200000 in
theorem replyBytes_walk (r : Rep) (va vb : Value) (b : List UInt8) (w : World) (ha : Bs w va r.t) (hwf : RepWf r) (hb : Bs w vb b) :
    Calls Try.prog 9 #[r.agg va, vb] w fun e w' => e = .returned (.bool true) ∧ Below w.heap.size w w' := by
  obtain ⟨a, ca, hs⟩ := ha.shape
  subst hs
  obtain ⟨a2, cb, hs⟩ := hb.shape
  subst hs
  obtain ⟨w0, hw0⟩ : ∃ W, w.alloc (.cells #[.int .i64 r.e, .int .i64 r.n, .int .i64 r.m, .slice a r.t.length ca] 59) = W := ⟨_, rfl⟩
  have hb0 : Below w.heap.size w w0 := by rw [← hw0]; exact (Below.refl _ _).alloc (Nat.le_refl _) _
  have k0 : w0.heap[w.heap.size]? = some (.cells #[.int .i64 r.e, .int .i64 r.n, .int .i64 r.m, .slice a r.t.length ca] 59 (0, 0)) := by rw [← hw0]; exact heap_alloc_new _ _
  have HW0 := Lib.hid hw0
  have KK : Hid (∀ W, Below w0.heap.size w0 W → W.heap[w.heap.size]? = some (.cells #[.int .i64 r.e, .int .i64 r.n, .int .i64 r.m, .slice a r.t.length ca] 59 (0, 0))) := fun W hW => (hW.block w.heap.size (heap_lt k0)).trans k0
  have KB : Hid (∀ W, Below w0.heap.size w0 W → Below w.heap.size w W) := fun W hW => hb0.trans (hW.mono hb0.size)
  have hb := hb.below hb0
  have ha := ha.below hb0
  clear hw0 k0 hb0
  by_cases hl : r.t.length ≤ 3000
  · have dl : decide ((3000 : Int) < r.t.length) = false := by simp; omega
    by_cases hlb : b.length ≤ 3000
    · have dlb : decide ((3000 : Int) < b.length) = false := by simp; omega
      obtain ⟨ok, hok⟩ : ∃ ok, repOk r = ok := ⟨_, rfl⟩
      have hP := fun W h => repPut_any r (.slice a r.t.length ca) W h hwf (by omega)
      have hR := fun W h => rrepPut_any r (.slice a r.t.length ca) W h hwf (by omega)
      have hO := fun W h => repRight_any r (.slice a r.t.length ca) W h
      have hQ := fun W h => rrepRight_any r (.slice a r.t.length ca) W h
      rw [hok] at hO hQ
      unfold Rep.agg at hP hR hO hQ ⊢
      have HP := Lib.hid hP
      have HR := Lib.hid hR
      have HO := Lib.hid hO
      have HQ := Lib.hid hQ
      have HOK := Lib.hid hok
      clear hP hR hO hQ hok
      go_enter Try.func9, Try.ntmps9
      go_wp2_with fail
      rw [HW0.out]
      go_wp2_with fail
      refine (awake39_any _).mono ?_
      rintro e w1 ⟨rfl, hb1⟩
      obtain ⟨i0, i1, i2, i3⟩ := rep_cells (KK.out _ hb1)
      go_wp2_with fail
      refine (HP.out _ (ha.below hb1)).mono ?_
      rintro e w2 h2
      unfold RepPutPost at h2
      rcases h2 with ⟨hyes, v2, rfl, ho2, hb2⟩ | ⟨hno, rfl, hb2⟩
      focus
        rw [HOK.out] at hyes
        subst hyes
        have hw2 := hb1.trans (hb2.mono hb1.size)
        obtain ⟨x2, c2, hs⟩ := ho2.shape
        subst hs
        obtain ⟨i0, i1, i2, i3⟩ := rep_cells (KK.out _ hw2)
        go_wp2_with fail
        refine (HR.out _ (ha.below hw2)).mono ?_
        rintro e w3 ⟨v3, rfl, ho3, hb3⟩
        have hw3 := hw2.trans (hb3.mono hw2.size)
        obtain ⟨x3, c3, hs⟩ := ho3.shape
        subst hs
        obtain ⟨j0, j1, j2, j3⟩ := rep_cells (KK.out _ hw3)
        have q0 := fun d os => cell_regrown j0 d os
        have q1 := fun d os => cell_regrown j1 d os
        have q2 := fun d os => cell_regrown j2 d os
        have q3 := fun d os => cell_regrown j3 d os
        have ha3 := Lib.hid (ha.below hw3)
        clear i0 i1 i2 i3
        go_wp2_with fail
        refine wp_region_quiet_below (by kernel_rfl) (by kernel_rfl) ?_
        repeat (go_big_quiet_step ((first | (go_at_call 38; exact Calls.regrown_of (HO.out _ (ha3.out.below (below_regrown _ _ _)))) | (go_at_call 39; exact Calls.regrown_of (HQ.out _ (ha3.out.below (below_regrown _ _ _)))))))
        refine wpQuiet_nil ?_
        intro _ hw'
        obtain ⟨⟨dq, osq⟩, hw''⟩ := hw'
        subst hw''
        have hb4 := below_regrown w3 dq osq
        obtain ⟨w4, hwq⟩ : ∃ x, x = grow (redrawn w3 dq) osq := ⟨_, rfl⟩
        rw [← hwq] at hb4 ⊢
        clear hwq
        have hw4 := hw3.trans (hb4.mono hw3.size)
        clear q0 q1 q2 q3 j0 j1 j2 j3
        obtain ⟨i0, i1, i2, i3⟩ := rep_cells (KK.out _ hw4)
        go_wp2_with fail
        refine (HQ.out _ (ha.below hw4)).mono ?_
        rintro e w5 ⟨rfl, hb5⟩
        have hw5 := hw4.trans (hb5.mono hw4.size)
        go_wp2_with fail
        refine (same_any _ _ _ _ _ (((ho2.bs.below hb3).below hb4).below hb5) ((ho3.bs.below hb4).below hb5)).mono ?_
        rintro e w6 ⟨rfl, hb6⟩
        rw [beq_self_true]
        have hw6 := hw5.trans (hb6.mono hw5.size)
        clear ho2 ho3
        go_wp2_with fail
      rotate_left 1
      focus
        rw [HOK.out] at hno
        subst hno
        have hw2 := hb1.trans (hb2.mono hb1.size)
        obtain ⟨i0, i1, i2, i3⟩ := rep_cells (KK.out _ hw2)
        go_wp2_with fail
        refine (HR.out _ (ha.below hw2)).mono ?_
        rintro e w3 ⟨v3, rfl, ho3, hb3⟩
        have hw3 := hw2.trans (hb3.mono hw2.size)
        obtain ⟨x3, c3, hs⟩ := ho3.shape
        subst hs
        obtain ⟨j0, j1, j2, j3⟩ := rep_cells (KK.out _ hw3)
        have q0 := fun d os => cell_regrown j0 d os
        have q1 := fun d os => cell_regrown j1 d os
        have q2 := fun d os => cell_regrown j2 d os
        have q3 := fun d os => cell_regrown j3 d os
        have ha3 := Lib.hid (ha.below hw3)
        clear i0 i1 i2 i3
        go_wp2_with fail
        refine wp_region_quiet_below (by kernel_rfl) (by kernel_rfl) ?_
        repeat (go_big_quiet_step ((first | (go_at_call 38; exact Calls.regrown_of (HO.out _ (ha3.out.below (below_regrown _ _ _)))) | (go_at_call 39; exact Calls.regrown_of (HQ.out _ (ha3.out.below (below_regrown _ _ _)))))))
        refine wpQuiet_nil ?_
        intro _ hw'
        obtain ⟨⟨dq, osq⟩, hw''⟩ := hw'
        subst hw''
        have hb4 := below_regrown w3 dq osq
        obtain ⟨w4, hwq⟩ : ∃ x, x = grow (redrawn w3 dq) osq := ⟨_, rfl⟩
        rw [← hwq] at hb4 ⊢
        clear hwq
        have hw4 := hw3.trans (hb4.mono hw3.size)
        clear q0 q1 q2 q3 j0 j1 j2 j3
        obtain ⟨i0, i1, i2, i3⟩ := rep_cells (KK.out _ hw4)
        go_wp2_with fail
        refine (HQ.out _ (ha.below hw4)).mono ?_
        rintro e w6 ⟨rfl, hb5⟩
        have hw6 := hw4.trans (hb5.mono hw4.size)
        clear ho3
        go_wp2_with fail
      all_goals
        obtain ⟨o, err, hv⟩ : ∃ o err, rtakeRep b = (o, err) := ⟨_, _, rfl⟩
        have hT := fun W h => repTake_any (.slice a2 b.length cb) b W h (by omega)
        have hS := fun W h => rrepTake_any (.slice a2 b.length cb) b W h (by omega)
        unfold RepTakePost at hT hS
        rw [hv] at hT hS
        unfold Rep.agg at hT hS
        simp only at hT hS
        have HT := Lib.hid hT
        have HS := Lib.hid hS
        clear hT hS hv
        refine (HT.out _ (hb.below hw6)).mono ?_
        rintro e w7 ⟨v7, rfl, hv7, hb7⟩
        have hw7 := hw6.trans (hb7.mono hw6.size)
        obtain ⟨x7, c7, hs⟩ := hv7.shape
        subst hs
        obtain ⟨w8, hw8⟩ : ∃ W, w7.alloc (.cells #[.int .i64 o.e, .int .i64 o.n, .int .i64 o.m, .slice x7 o.t.length c7] 59) = W := ⟨_, rfl⟩
        have hb8 : Below w7.heap.size w7 w8 := by rw [← hw8]; exact (Below.refl _ _).alloc (Nat.le_refl _) _
        have r8 : w8.heap[w7.heap.size]? = some (.cells #[.int .i64 o.e, .int .i64 o.n, .int .i64 o.m, .slice x7 o.t.length c7] 59 (0, 0)) := by rw [← hw8]; exact heap_alloc_new _ _
        have HW8 := Lib.hid hw8
        have hw88 := hw7.trans (hb8.mono hw7.size)
        clear hw8
        go_wp2_with fail
        rw [HW8.out]
        go_wp2_with fail
        refine (HS.out _ (hb.below hw88)).mono ?_
        rintro e w9 ⟨v9, rfl, hv9, hb9⟩
        have hw9 := hw88.trans (hb9.mono hw88.size)
        obtain ⟨x9, c9, hs⟩ := hv9.shape
        subst hs
        obtain ⟨w10, hw10⟩ : ∃ W, w9.alloc (.cells #[.int .i64 o.e, .int .i64 o.n, .int .i64 o.m, .slice x9 o.t.length c9] 59) = W := ⟨_, rfl⟩
        have hb10 : Below w9.heap.size w9 w10 := by rw [← hw10]; exact (Below.refl _ _).alloc (Nat.le_refl _) _
        have r10 : w10.heap[w9.heap.size]? = some (.cells #[.int .i64 o.e, .int .i64 o.n, .int .i64 o.m, .slice x9 o.t.length c9] 59 (0, 0)) := by rw [← hw10]; exact heap_alloc_new _ _
        have r9 := (hb9.block _ (heap_lt r8)).trans r8
        have r10b := (hb10.block _ (heap_lt r9)).trans r9
        obtain ⟨k0, k1, k2, k3⟩ := rep_cells r10
        obtain ⟨l0, l1, l2, l3⟩ := rep_cells r10b
        obtain ⟨m0, m1, m2, m3⟩ := rep_cells r9
        have l0a := l0
        have l1a := l1
        have l2a := l2
        have l3a := l3
        rw [← hw10] at l0a l1a l2a l3a
        have HW10 := Lib.hid hw10
        have hww := hw9.trans (hb10.mono hw9.size)
        have hSame := rrepSame_any o o (.slice x7 o.t.length c7) (.slice x9 o.t.length c9) w10 (((hv7.below hb8).below hb9).below hb10) (hv9.below hb10)
        rw [repSame_self] at hSame
        unfold Rep.agg at hSame
        have HSA := Lib.hid hSame
        have ne7 : w7.heap.size ≠ w9.heap.size := by have := heap_lt r9; omega
        clear hw10 r8 r9 r10 r10b hSame
        have ee : ((err : Int) == err) = true := by simp
        go_wp2_with fail
        try rw [HW10.out]
        try go_wp2_with fail
        refine HSA.out.mono ?_
        rintro e w11 ⟨rfl, hb11⟩
        go_wp2
        go_ret
        exact ⟨rfl, KB.out _ (hww.trans (hb11.mono hww.size))⟩
    · have dlb : decide ((3000 : Int) < b.length) = true := by simp; omega
      unfold Rep.agg
      go_enter Try.func9, Try.ntmps9
      go_wp2_with fail
      rw [HW0.out]
      go_wp2_with fail
      refine (awake39_any _).mono ?_
      rintro e w1 ⟨rfl, hb1⟩
      obtain ⟨i0, i1, i2, i3⟩ := rep_cells (KK.out _ hb1)
      go_wp2
      go_ret
      exact ⟨rfl, KB.out _ hb1⟩
  · have dl : decide ((3000 : Int) < r.t.length) = true := by simp; omega
    unfold Rep.agg
    go_enter Try.func9, Try.ntmps9
    go_wp2_with fail
    rw [HW0.out]
    go_wp2_with fail
    refine (awake39_any _).mono ?_
    rintro e w1 ⟨rfl, hb1⟩
    obtain ⟨i0, i1, i2, i3⟩ := rep_cells (KK.out _ hb1)
    go_wp2
    go_ret
    exact ⟨rfl, KB.out _ hb1⟩

theorem replyBytes_row (v : Value) (x : Rep × Value) (vb : Value) (b : List UInt8) (w : World) (h : v = x.1.agg x.2 ∧ Bs w x.2 x.1.t ∧ RepWf x.1) (hb : Bs w vb b) :
    Calls Try.prog 9 #[v, vb] w fun e w' => e = .returned (.bool true) ∧ Below w.heap.size w w' := by
  obtain ⟨rfl, h1, h2⟩ := h
  exact replyBytes_walk x.1 x.2 vb b w h1 h2 hb

end Go.Proofs.Yticpmkdlnjnfgaa
