/- Replies (layer 39): walks of the writing of both. -/
import Derived.Test.YticpmkdlnjnfgaaRep0
set_option linter.unusedSimpArgs false
namespace Go.Proofs.Yticpmkdlnjnfgaa
open Go.RowKit Go.Sort

def rcontent (r : Rep) : List UInt8 := vput r.e.toNat ++ vput (vturn r.n).toNat ++ vput (vturn r.m).toNat ++ (vput r.t.length ++ r.t)
def rbytesOf (r : Rep) : List UInt8 := fframe 6 (rcontent r)

theorem rcontent_len (r : Rep) (h : RepWf r) (ht : r.t.length ≤ 1000000) : (rcontent r).length ≤ r.t.length + 40 := by
  obtain ⟨h1, h2, h3⟩ := h
  have e1 := vput_len10 r.e.toNat (by omega)
  have e2 := vput_len10 (vturn r.n).toNat (vturn_bound _ h2.1 h2.2)
  have e3 := vput_len10 (vturn r.m).toNat (vturn_bound _ h3.1 h3.2)
  have e4 := vput_len10 r.t.length (by omega)
  simp only [rcontent, List.length_append]
  omega

def RepPutPost (r : Rep) (w : World) (e : Ending) (w' : World) : Prop :=
  (repOk r = true ∧ ∃ v, e = .returned (.tuple #[v, .int .i64 0]) ∧ Ob w' w.heap.size 5 v (rbytesOf r) ∧ Below w.heap.size w w') ∨ (repOk r = false ∧ e = .returned (.tuple #[.slice none 0 0, .int .i64 2]) ∧ Below w.heap.size w w')

set_option maxRecDepth 100000 in
set_option maxHeartbeats 1600000 in
theorem repPut_any (r : Rep) (v : Value) (w : World) (hv : Bs w v r.t) (hwf : RepWf r) (ht : r.t.length ≤ 1000000) : Calls Try.prog 36 #[r.agg v] w (RepPutPost r w) := by
  obtain ⟨a, c, hs⟩ := hv.shape
  subst hs
  have hcl := rcontent_len r hwf ht
  obtain ⟨⟨f1, f2⟩, ⟨n1, n2⟩, ⟨m1, m2⟩⟩ := hwf
  have l1 := vput_len10 r.e.toNat (by omega)
  have l2 := vput_len10 (vturn r.n).toNat (vturn_bound _ n1 n2)
  have l3 := vput_len10 (vturn r.m).toNat (vturn_bound _ m1 m2)
  have l4 := vput_len10 r.t.length (by omega)
  have hbl : Below w.heap.size w (w.alloc (.cells #[.int .i64 r.e, .int .i64 r.n, .int .i64 r.m, .slice a r.t.length c] 59)) := (Below.refl _ _).alloc (Nat.le_refl _) _
  have hblk := heap_alloc_new w (.cells #[.int .i64 r.e, .int .i64 r.n, .int .i64 r.m, .slice a r.t.length c] 59)
  have hR := Lib.hid (repRight_any r (.slice a r.t.length c) _ (hv.below hbl))
  have hvlt := hv.lt
  unfold Rep.agg at hR ⊢
  go_enter Try.func36, Try.ntmps36
  go_wp2_with fail
  refine hR.out.mono ?_
  rintro e w1 ⟨rfl, hb1⟩
  have hw1 := hbl.trans (hb1.mono (by simp))
  have hblk1 := (hb1.block w.heap.size (by simp)).trans hblk
  obtain ⟨b, hb⟩ : ∃ b, repOk r = b := ⟨_, rfl⟩
  rw [hb]
  have HB := Lib.hid hb
  clear hb hblk hR
  cases b
  · go_wp2
    go_ret2
    exact .inr ⟨HB.out, rfl, hw1⟩
  · have hg1 : w.heap.size < w1.heap.size := heap_lt hblk1
    have hwr : Wr (w1.alloc (.cells #[.slice none 0 0] 81)) w1.heap.size w1.heap.size (.slice none 0 0) [] := ⟨Nat.le_refl _, heap_alloc_new w1 _, Ob.nil _ _ _⟩
    have hb2 : Below w1.heap.size w1 (w1.alloc (.cells #[.slice none 0 0] 81)) := (Below.refl _ _).alloc (Nat.le_refl _) _
    have HC : Hid (∀ W, Below w1.heap.size w1 W → W.cell? ⟨w.heap.size, 0, none⟩ = some (.int .i64 r.e) ∧ W.cell? ⟨w.heap.size, 1, none⟩ = some (.int .i64 r.n) ∧ W.cell? ⟨w.heap.size, 2, none⟩ = some (.int .i64 r.m) ∧ W.cell? ⟨w.heap.size, 3, none⟩ = some (.slice a r.t.length c)) := by
      intro W hW
      have h := (hW.block w.heap.size hg1).trans hblk1
      exact ⟨cell_of_row W _ 0 _ _ _ h, cell_of_row W _ 1 _ _ _ h, cell_of_row W _ 2 _ _ _ h, cell_of_row W _ 3 _ _ _ h⟩
    have hvw := hv.below hw1
    have HW := Lib.hid hwr
    have x0 := (HC.out _ hb2).1
    clear hblk1 hwr
    go_wp2_with fail
    refine (wNumber_any r.e f1 f2 _ _ _ _ _ HW.out (by simp) (by simp)).mono ?_
    rintro e w3 ⟨rfl, v3, hwt3⟩
    have hb3 := hb2.trans (hwt3.bel HW.out (by simp))
    have x1 := (HC.out _ hb3).2.1
    have HW3 := Lib.hid hwt3.wr
    clear hwt3 x0
    go_wp2_with fail
    refine (wSigned_any r.n n1 n2 _ v3 _ w1.heap.size w3 HW3.out hb3.size (by simp; omega)).mono ?_
    rintro e w4 ⟨rfl, v4, hwt4⟩
    have hb4 := hb3.trans (hwt4.bel HW3.out hb3.size)
    have x2 := (HC.out _ hb4).2.2.1
    have HW4 := Lib.hid hwt4.wr
    clear hwt4 x1
    go_wp2_with fail
    refine (wSigned_any r.m m1 m2 _ v4 _ w1.heap.size w4 HW4.out hb4.size (by simp; omega)).mono ?_
    rintro e w5 ⟨rfl, v5, hwt5⟩
    have hb5 := hb4.trans (hwt5.bel HW4.out hb4.size)
    have x3 := (HC.out _ hb5).2.2.2
    have HW5 := Lib.hid hwt5.wr
    clear hwt5 x2
    go_wp2_with fail
    refine (wBytes_any _ r.t _ v5 _ w1.heap.size w5 HW5.out (hvw.below hb5) (fun hne k hk hf => by have h1 := hvlt hne k hk; have h2 := (HW5.out.foot k hf).1; omega) hb5.size (by simp; omega) (by omega)).mono ?_
    rintro e w6 ⟨rfl, v6, hwt6⟩
    have hb6 := hb5.trans (hwt6.bel HW5.out hb5.size)
    have HW6 := Lib.hid hwt6.wr
    clear hwt6 x3
    go_wp2_with fail
    refine (wOut_any _ v6 _ w1.heap.size w6 HW6.out (by simp; omega)).mono ?_
    rintro e w7 ⟨v7, rfl, ho7, hb7⟩
    have hb7' := hb6.trans (hb7.mono hb6.size)
    have ho7' : Ob w7 w6.heap.size 5 v7 (rcontent r) := by simpa [rcontent] using ho7
    clear ho7
    go_wp2_with fail
    refine (fput_any 6 6 (by decide) _ _ _ ho7'.bs (by omega)).mono ?_
    rintro e w8 ⟨v8, rfl, ho8, hb8⟩
    have hb8' := hb7'.trans (hb8.mono hb7'.size)
    have hw8 := hw1.trans (hb8'.mono hw1.size)
    go_wp2
    go_ret2
    exact .inl ⟨HB.out, _, rfl, ho8.mono (B' := w.heap.size) (by have h1 := hb7'.size; omega), hw8⟩

set_option maxRecDepth 100000 in
set_option maxHeartbeats 1600000 in
theorem rrepContent_any (r : Rep) (v : Value) (w : World) (hv : Bs w v r.t) (hwf : RepWf r) (ht : r.t.length ≤ 1000000) : Calls Try.prog 81 #[r.agg v] w fun e w' => ∃ v', e = .returned v' ∧ Ob w' w.heap.size 5 v' (rcontent r) ∧ Below w.heap.size w w' := by
  obtain ⟨a, c, hs⟩ := hv.shape
  subst hs
  obtain ⟨⟨f1, f2⟩, ⟨n1, n2⟩, ⟨m1, m2⟩⟩ := hwf
  have l1 := vput_len10 r.e.toNat (by omega)
  have l2 := vput_len10 (vturn r.n).toNat (vturn_bound _ n1 n2)
  have l3 := vput_len10 (vturn r.m).toNat (vturn_bound _ m1 m2)
  have l4 := vput_len10 r.t.length (by omega)
  obtain ⟨w1, hw1⟩ : ∃ W, w.alloc (.cells #[.int .i64 r.e, .int .i64 r.n, .int .i64 r.m, .slice a r.t.length c] 59) = W := ⟨_, rfl⟩
  have hb1 : Below w.heap.size w w1 := by rw [← hw1]; exact (Below.refl _ _).alloc (Nat.le_refl _) _
  have hblk1 : w1.heap[w.heap.size]? = some (.cells #[.int .i64 r.e, .int .i64 r.n, .int .i64 r.m, .slice a r.t.length c] 59 (0, 0)) := by rw [← hw1]; exact heap_alloc_new w _
  have hg1 : w.heap.size < w1.heap.size := heap_lt hblk1
  have HC : Hid (∀ W, Below w1.heap.size w1 W → W.cell? ⟨w.heap.size, 0, none⟩ = some (.int .i64 r.e) ∧ W.cell? ⟨w.heap.size, 1, none⟩ = some (.int .i64 r.n) ∧ W.cell? ⟨w.heap.size, 2, none⟩ = some (.int .i64 r.m) ∧ W.cell? ⟨w.heap.size, 3, none⟩ = some (.slice a r.t.length c)) := by
    intro W hW
    have h := (hW.block w.heap.size hg1).trans hblk1
    exact ⟨cell_of_row W _ 0 _ _ _ h, cell_of_row W _ 1 _ _ _ h, cell_of_row W _ 2 _ _ _ h, cell_of_row W _ 3 _ _ _ h⟩
  have hvw := hv.below hb1
  have x0 := (HC.out _ (Below.refl _ _)).1
  have HWW := Lib.hid hw1
  clear hw1 hblk1
  unfold Rep.agg
  go_enter Try.func81, Try.ntmps81
  go_wp2_with fail
  rw [HWW.out]
  refine (rnumber_any r.e f1 f2 _).mono ?_
  rintro e w2 ⟨v2, rfl, ho2, hb2⟩
  have x1 := (HC.out _ hb2).2.1
  clear x0
  go_wp2_with fail
  refine (rsigned_any r.n n1 n2 _).mono ?_
  rintro e w3 ⟨v3, rfl, ho3, hb3⟩
  have h13 := hb2.trans (hb3.mono hb2.size)
  have ho2' := ho2.below hb3
  have g3 := h13.size
  clear x1 ho2
  go_wp2_with (at_builtin; go_must (refine wpList_append_bytes ho2' ho3.bs elB (by omega) (by omega) g3 ?_ _ _ rfl rfl rfl rfl); intro v4 w4 ho4 hg4 hb4 _; have h14 := h13.trans hb4; have x2 := (HC.out _ h14).2.2.1; have HO4 := Lib.hid ho4; clear ho4 ho2' ho3)
  refine (rsigned_any r.m m1 m2 _).mono ?_
  rintro e w5 ⟨v5, rfl, ho5, hb5⟩
  have h15 := h14.trans (hb5.mono h14.size)
  have ho4' := HO4.out.below hb5
  have g5 := h15.size
  clear x2
  go_wp2_with (at_builtin; go_must (refine wpList_append_bytes ho4' ho5.bs elB (by simp; omega) (by simp; omega) g5 ?_ _ _ rfl rfl rfl rfl); intro v6 w6 ho6 hg6 hb6 _; have h16 := h15.trans hb6; have x3 := (HC.out _ h16).2.2.2; have HO6 := Lib.hid ho6; clear ho6 ho4' ho5)
  refine (rbytes_any _ r.t _ (hvw.below h16) (by omega)).mono ?_
  rintro e w7 ⟨v7, rfl, ho7, hb7⟩
  have h17 := h16.trans (hb7.mono h16.size)
  have ho6' := HO6.out.below hb7
  have g7 := h17.size
  clear x3
  go_wp2_with (at_builtin; go_must (refine wpList_append_bytes ho6' ho7.bs elB (by simp; omega) (by simp; omega) g7 ?_ _ _ rfl rfl rfl rfl); intro v8 w8 ho8 hg8 hb8 _; have h18 := h17.trans hb8; have HO8 := Lib.hid ho8; clear ho8 ho6' ho7)
  go_ret
  refine ⟨_, rfl, ?_, hb1.trans (h18.mono hb1.size)⟩
  have := HO8.out.mono (B' := w.heap.size) (by omega)
  simpa [rcontent] using this

set_option maxRecDepth 100000 in
theorem rrepPut_any (r : Rep) (v : Value) (w : World) (hv : Bs w v r.t) (hwf : RepWf r) (ht : r.t.length ≤ 1000000) : Calls Try.prog 37 #[r.agg v] w fun e w' => ∃ v', e = .returned (.tuple #[v', .bool true]) ∧ Ob w' w.heap.size 5 v' (rbytesOf r) ∧ Below w.heap.size w w' := by
  obtain ⟨a, c, hs⟩ := hv.shape
  subst hs
  have hcl := rcontent_len r hwf ht
  have hbl : Below w.heap.size w (w.alloc (.cells #[.int .i64 r.e, .int .i64 r.n, .int .i64 r.m, .slice a r.t.length c] 59)) := (Below.refl _ _).alloc (Nat.le_refl _) _
  have hC := Lib.hid (rrepContent_any r (.slice a r.t.length c) _ (hv.below hbl) hwf ht)
  unfold Rep.agg at hC ⊢
  go_enter Try.func37, Try.ntmps37
  go_wp2_with fail
  refine hC.out.mono ?_
  rintro e w1 ⟨v1, rfl, ho1, hb1⟩
  have hw1 := hbl.trans (hb1.mono (by simp))
  obtain ⟨a1, c1, hs⟩ := ho1.shape
  subst hs
  go_wp2_with fail
  refine (rfput_any 6 6 (by decide) _ _ _ ho1.bs (by omega)).mono ?_
  rintro e w2 ⟨v2, rfl, ho2, hb2⟩
  go_wp2
  go_ret2
  exact ⟨_, rfl, ho2.mono hw1.size, hw1.trans (hb2.mono hw1.size)⟩

end Go.Proofs.Yticpmkdlnjnfgaa
