/- Layer 39 (reply): the walk of the statement ReplyBack. -/
import Derived.Test.YticpmkdlnjnfgaaRepL1
import Derived.Test.YticpmkdlnjnfgaaRepSpec
import Derived.Lib.QuietBelow
set_option linter.unusedSimpArgs false
namespace Go.Proofs.Yticpmkdlnjnfgaa
open Go.RowKit Go.Sort

set_option maxRecDepth 100000 in
set_option maxHeartbeats 3200000 in
theorem replyBack_walk (A B : Rep) (va vb : Value) (w : World) (ha : Bs w va A.t) (wa : RepWf A) (hb : Bs w vb B.t) (wb : RepWf B) :
    Calls Try.prog 10 #[A.agg va, B.agg vb] w fun e w' => e = .returned (.bool true) ∧ Below w.heap.size w w' := by
  obtain ⟨a, ca, hs⟩ := ha.shape
  subst hs
  obtain ⟨b, cb, hs⟩ := hb.shape
  subst hs
  obtain ⟨w0, hw0⟩ : ∃ W, (w.alloc (.cells #[.int .i64 A.e, .int .i64 A.n, .int .i64 A.m, .slice a A.t.length ca] 59)).alloc (.cells #[.int .i64 B.e, .int .i64 B.n, .int .i64 B.m, .slice b B.t.length cb] 59) = W := ⟨_, rfl⟩
  have hb0 : Below w.heap.size w w0 := by rw [← hw0]; exact ((Below.refl _ _).alloc (Nat.le_refl _) _).alloc (by simp) _
  have k0 : w0.heap[w.heap.size]? = some (.cells #[.int .i64 A.e, .int .i64 A.n, .int .i64 A.m, .slice a A.t.length ca] 59 (0, 0)) := by rw [← hw0, alloc_get, if_neg (by simp), alloc_get, if_pos rfl]
  have k1 : w0.heap[w.heap.size + 1]? = some (.cells #[.int .i64 B.e, .int .i64 B.n, .int .i64 B.m, .slice b B.t.length cb] 59 (0, 0)) := by rw [← hw0, alloc_get, if_pos (by simp)]
  have HW0 := Lib.hid hw0
  have KA : Hid (∀ W, Below w0.heap.size w0 W → W.heap[w.heap.size]? = some (.cells #[.int .i64 A.e, .int .i64 A.n, .int .i64 A.m, .slice a A.t.length ca] 59 (0, 0))) := fun W hW => (hW.block w.heap.size (heap_lt k0)).trans k0
  have KC : Hid (∀ W, Below w0.heap.size w0 W → W.heap[w.heap.size + 1]? = some (.cells #[.int .i64 B.e, .int .i64 B.n, .int .i64 B.m, .slice b B.t.length cb] 59 (0, 0))) := fun W hW => (hW.block (w.heap.size + 1) (heap_lt k1)).trans k1
  have KB : Hid (∀ W, Below w0.heap.size w0 W → Below w.heap.size w W) := fun W hW => hb0.trans (hW.mono hb0.size)
  have hb := hb.below hb0
  have ha := ha.below hb0
  clear hw0 k0 k1 hb0
  by_cases hl : A.t.length ≤ 3000
  · have dl : decide ((3000 : Int) < A.t.length) = false := by simp; omega
    by_cases hlb : B.t.length ≤ 3000
    · have dlb : decide ((3000 : Int) < B.t.length) = false := by simp; omega
      obtain ⟨sm, hsm⟩ : ∃ sm, repSame A B = sm := ⟨_, rfl⟩
      have hP := fun W h => repPut_any A (.slice a A.t.length ca) W h wa (by omega)
      have hQ := fun W h => repPut_any B (.slice b B.t.length cb) W h wb (by omega)
      have hS := fun W h1 h2 => repSame_any A B (.slice a A.t.length ca) (.slice b B.t.length cb) W h1 h2
      have hT := fun W h1 h2 => rrepSame_any A B (.slice a A.t.length ca) (.slice b B.t.length cb) W h1 h2
      have hU := fun W h1 h2 => repSame_any A A (.slice a A.t.length ca) (.slice a A.t.length ca) W h1 h2
      have hR := fun W h => repRight_any A (.slice a A.t.length ca) W h
      rw [hsm] at hS hT
      rw [repSame_self] at hU
      unfold Rep.agg at hP hQ hS hT hU hR ⊢
      have HP := Lib.hid hP
      have HQ := Lib.hid hQ
      have HS := Lib.hid hS
      have HT := Lib.hid hT
      have HU := Lib.hid hU
      have HR := Lib.hid hR
      have HSM := Lib.hid hsm
      have hss : (sm == sm) = true := by simp
      clear hP hQ hS hT hU hR hsm
      go_enter Try.func10, Try.ntmps10
      go_wp2_with fail
      rw [HW0.out]
      go_wp2_with fail
      refine (awake39_any _).mono ?_
      rintro e w1 ⟨rfl, hb1⟩
      obtain ⟨i0, i1, i2, i3⟩ := rep_cells (KA.out _ hb1)
      obtain ⟨j0, j1, j2, j3⟩ := rep_cells (KC.out _ hb1)
      go_wp2_with fail
      refine (HS.out _ (ha.below hb1) (hb.below hb1)).mono ?_
      rintro e w2 ⟨rfl, hb2⟩
      have hw2 := hb1.trans (hb2.mono hb1.size)
      clear i0 i1 i2 i3 j0 j1 j2 j3
      obtain ⟨i0, i1, i2, i3⟩ := rep_cells (KA.out _ hw2)
      obtain ⟨j0, j1, j2, j3⟩ := rep_cells (KC.out _ hw2)
      go_wp2_with fail
      refine (HT.out _ (ha.below hw2) (hb.below hw2)).mono ?_
      rintro e w3 ⟨rfl, hb3⟩
      have hw3 := hw2.trans (hb3.mono hw2.size)
      clear i0 i1 i2 i3 j0 j1 j2 j3
      obtain ⟨i0, i1, i2, i3⟩ := rep_cells (KA.out _ hw3)
      have hsn : (sm != sm) = false := by simp
      go_wp2_with fail
      refine (HU.out _ (ha.below hw3) (ha.below hw3)).mono ?_
      rintro e w4 ⟨rfl, hb4⟩
      have hw4 := hw3.trans (hb4.mono hw3.size)
      clear i0 i1 i2 i3
      obtain ⟨i0, i1, i2, i3⟩ := rep_cells (KA.out _ hw4)
      go_wp2_with fail
      refine (HP.out _ (ha.below hw4)).mono ?_
      rintro e w5 h5
      unfold RepPutPost at h5
      clear i0 i1 i2 i3
      rcases h5 with ⟨hya, v5, rfl, ho5, hb5⟩ | ⟨hna, rfl, hb5⟩
      · have hw5 := hw4.trans (hb5.mono hw4.size)
        have htp := rtake_put A hya wa (by omega)
        have hln := rbytes_len wa (by omega)
        obtain ⟨X, hX⟩ : ∃ X, rbytesOf A = X := ⟨_, rfl⟩
        rw [hX] at htp hln ho5
        have hTk := fun va W h => repTake_any va X W h (by omega)
        unfold RepTakePost at hTk
        rw [htp] at hTk
        unfold Rep.agg at hTk
        simp only at hTk
        have HTK := Lib.hid hTk
        have HX := Lib.hid hX
        obtain ⟨x5, c5, hs⟩ := ho5.shape
        subst hs
        clear hTk htp hX
        obtain ⟨j0, j1, j2, j3⟩ := rep_cells (KC.out _ hw5)
        go_wp2_with fail
        refine (HQ.out _ (hb.below hw5)).mono ?_
        rintro e w6 h6
        unfold RepPutPost at h6
        clear j0 j1 j2 j3
        rcases h6 with ⟨hyb, v6, rfl, ho6, hb6⟩ | ⟨hnb, rfl, hb6⟩
        · have hw6 := hw5.trans (hb6.mono hw5.size)
          have hin := rep_inj hya hyb wa wb (by omega) (by omega)
          obtain ⟨x6, c6, hs⟩ := ho6.shape
          subst hs
          go_wp2_with fail
          have hv6 := ho5.bs.below hb6
          refine (HTK.out _ _ hv6).mono ?_
          rintro e w7 ⟨v7, rfl, hv7, hb7⟩
          have hw7 := hw6.trans (hb7.mono hw6.size)
          obtain ⟨x7, c7, hs⟩ := hv7.shape
          subst hs
          obtain ⟨w8, hw8'⟩ : ∃ W, w7.alloc (.cells #[.int .i64 A.e, .int .i64 A.n, .int .i64 A.m, .slice x7 A.t.length c7] 59) = W := ⟨_, rfl⟩
          have hb8 : Below w7.heap.size w7 w8 := by rw [← hw8']; exact (Below.refl _ _).alloc (Nat.le_refl _) _
          have hw8 := hw7.trans (hb8.mono hw7.size)
          have ra := KA.out _ hw7
          have ra8 := KA.out _ hw8
          obtain ⟨k0, k1, k2, k3⟩ := rep_cells ra
          obtain ⟨l0, l1, l2, l3⟩ := rep_cells ra8
          have ne7 : w.heap.size ≠ w7.heap.size := by have := heap_lt ra; omega
          have hSame := rrepSame_any A A (.slice a A.t.length ca) (.slice x7 A.t.length c7) w8 (ha.below hw8) (hv7.below hb8)
          rw [repSame_self] at hSame
          unfold Rep.agg at hSame
          have HSA := Lib.hid hSame
          have HW8 := Lib.hid hw8'
          rw [← hw8'] at l0 l1 l2 l3
          clear hw8' ra ra8 hSame
          go_wp2_with fail
          rw [HW8.out]
          refine HSA.out.mono ?_
          rintro e w9 ⟨rfl, hb9⟩
          have hw9 := hw8.trans (hb9.mono hw8.size)
          rw [HX.out, HSM.out] at hin
          have hsx := same_any _ _ _ _ w9 (((hv6.below hb7).below hb8).below hb9) (((ho6.bs.below hb7).below hb8).below hb9)
          rw [hin] at hsx
          have HSX := Lib.hid hsx
          clear hsx hin
          go_wp2_with fail
          refine HSX.out.mono ?_
          rintro e w10 ⟨rfl, hb10⟩
          go_wp2
          go_ret
          exact ⟨rfl, KB.out _ (hw9.trans (hb10.mono hw9.size))⟩
        · have hw6 := hw5.trans (hb6.mono hw5.size)
          go_wp2_with fail
          have hv6 := ho5.bs.below hb6
          refine (HTK.out _ _ hv6).mono ?_
          rintro e w7 ⟨v7, rfl, hv7, hb7⟩
          have hw7 := hw6.trans (hb7.mono hw6.size)
          obtain ⟨x7, c7, hs⟩ := hv7.shape
          subst hs
          obtain ⟨w8, hw8'⟩ : ∃ W, w7.alloc (.cells #[.int .i64 A.e, .int .i64 A.n, .int .i64 A.m, .slice x7 A.t.length c7] 59) = W := ⟨_, rfl⟩
          have hb8 : Below w7.heap.size w7 w8 := by rw [← hw8']; exact (Below.refl _ _).alloc (Nat.le_refl _) _
          have hw8 := hw7.trans (hb8.mono hw7.size)
          have ra := KA.out _ hw7
          have ra8 := KA.out _ hw8
          obtain ⟨k0, k1, k2, k3⟩ := rep_cells ra
          obtain ⟨l0, l1, l2, l3⟩ := rep_cells ra8
          have ne7 : w.heap.size ≠ w7.heap.size := by have := heap_lt ra; omega
          have hSame := rrepSame_any A A (.slice a A.t.length ca) (.slice x7 A.t.length c7) w8 (ha.below hw8) (hv7.below hb8)
          rw [repSame_self] at hSame
          unfold Rep.agg at hSame
          have HSA := Lib.hid hSame
          have HW8 := Lib.hid hw8'
          rw [← hw8'] at l0 l1 l2 l3
          clear hw8' ra ra8 hSame
          go_wp2_with fail
          rw [HW8.out]
          refine HSA.out.mono ?_
          rintro e w9 ⟨rfl, hb9⟩
          have hw9 := hw8.trans (hb9.mono hw8.size)
          go_wp2
          go_ret
          exact ⟨rfl, KB.out _ hw9⟩
      · have hw5 := hw4.trans (hb5.mono hw4.size)
        obtain ⟨j0, j1, j2, j3⟩ := rep_cells (KC.out _ hw5)
        have hR' := HR.out
        rw [hna] at hR'
        have HR' := Lib.hid hR'
        clear hR'
        go_wp2_with fail
        refine (HQ.out _ (hb.below hw5)).mono ?_
        rintro e w6 h6
        have hx : ∃ v6 f6, e = .returned (.tuple #[v6, f6]) ∧ Below w5.heap.size w5 w6 := by
          unfold RepPutPost at h6
          rcases h6 with ⟨_, v6, rfl, ho6, hb6⟩ | ⟨hnb, rfl, hb6⟩
          · exact ⟨_, _, rfl, hb6⟩
          · exact ⟨_, _, rfl, hb6⟩
        obtain ⟨v6, f6, rfl, hb6⟩ := hx
        have hw6 := hw5.trans (hb6.mono hw5.size)
        clear h6 j0 j1 j2 j3
        obtain ⟨i0, i1, i2, i3⟩ := rep_cells (KA.out _ hw6)
        go_wp2_with fail
        refine (HR'.out _ (ha.below hw6)).mono ?_
        rintro e w7 ⟨rfl, hb7⟩
        go_wp2
        go_ret
        exact ⟨rfl, KB.out _ (hw6.trans (hb7.mono hw6.size))⟩
    · have dlb : decide ((3000 : Int) < B.t.length) = true := by simp; omega
      unfold Rep.agg
      go_enter Try.func10, Try.ntmps10
      go_wp2_with fail
      rw [HW0.out]
      go_wp2_with fail
      refine (awake39_any _).mono ?_
      rintro e w1 ⟨rfl, hb1⟩
      obtain ⟨i0, i1, i2, i3⟩ := rep_cells (KA.out _ hb1)
      obtain ⟨j0, j1, j2, j3⟩ := rep_cells (KC.out _ hb1)
      go_wp2
      go_ret
      exact ⟨rfl, KB.out _ hb1⟩
  · have dl : decide ((3000 : Int) < A.t.length) = true := by simp; omega
    unfold Rep.agg
    go_enter Try.func10, Try.ntmps10
    go_wp2_with fail
    rw [HW0.out]
    go_wp2_with fail
    refine (awake39_any _).mono ?_
    rintro e w1 ⟨rfl, hb1⟩
    obtain ⟨i0, i1, i2, i3⟩ := rep_cells (KA.out _ hb1)
    go_wp2
    go_ret
    exact ⟨rfl, KB.out _ hb1⟩

theorem replyBack_row (v : Value) (x : Rep × Value) (v' : Value) (x' : Rep × Value) (w : World) (h : v = x.1.agg x.2 ∧ Bs w x.2 x.1.t ∧ RepWf x.1) (h' : v' = x'.1.agg x'.2 ∧ Bs w x'.2 x'.1.t ∧ RepWf x'.1) :
    Calls Try.prog 10 #[v, v'] w fun e w' => e = .returned (.bool true) ∧ Below w.heap.size w w' := by
  obtain ⟨rfl, h1, h2⟩ := h
  obtain ⟨rfl, h3, h4⟩ := h'
  exact replyBack_walk x.1 x'.1 x.2 x'.2 w h1 h2 h3 h4

end Go.Proofs.Yticpmkdlnjnfgaa
