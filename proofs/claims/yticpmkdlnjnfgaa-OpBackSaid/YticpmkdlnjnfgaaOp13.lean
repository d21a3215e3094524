/- Layer 38 (op): the walk of OpTakes. -/
import Derived.Test.YticpmkdlnjnfgaaOp12
set_option linter.unusedSimpArgs false
namespace Go.Proofs.Yticpmkdlnjnfgaa
open Go.RowKit Go.Sort

theorem opSame_refl (o : OpD) : opSame o o = true := by unfold opSame; simp

set_option maxRecDepth 100000 in
set_option maxHeartbeats 1600000 in
theorem optakes_walk (v : Value) (b : List UInt8) (w : World) (hb : Bs w v b) :
    Calls Try.prog 7 #[v] w fun e w' => e = .returned (.bool true) ∧ Below w.heap.size w w' := by
  have HV := Lib.hid hb
  obtain ⟨a, ca, rfl⟩ := hb.shape
  obtain ⟨N, hN⟩ : ∃ N, b.length = N := ⟨_, rfl⟩
  rw [hN] at HV ⊢
  have HN := Lib.hid hN
  have hcap := hb.len_eq.2
  rw [hN] at hb
  have hcap2 := hb.len_eq.2
  clear hb hcap
  have CT := Lib.hid (fun (V : World) (hV : Below w.heap.size w V) (hl : b.length ≤ 100000) => opTake_any _ b V (HV.out.below hV) hl)
  have CR := Lib.hid (fun (V : World) (hV : Below w.heap.size w V) (hl : b.length ≤ 100000) => ropTake_any _ b V (HV.out.below hV) hl)
  unfold OTakePost at CT CR
  obtain ⟨OT, hOT⟩ : ∃ o, otake b = o := ⟨_, rfl⟩
  rw [hOT] at CT CR
  obtain ⟨o, E⟩ := OT
  simp only at CT CR
  clear hOT hN
  go_enter Try.func7, Try.ntmps7
  go_wp2_with fail
  refine (opAwake_any w).mono ?_
  rintro e w1 ⟨rfl, hb1⟩
  have HB1 := Lib.hid hb1
  clear hb1
  by_cases hl : 5000 < (N : Int)
  · go_wp2
    go_ret
    exact ⟨rfl, HB1.out⟩
  · have hl2 : b.length ≤ 100000 := by have := HN.out; omega
    have HL2 := Lib.hid hl2
    clear hl2
    go_wp2_with fail
    refine (CT.out w1 HB1.out HL2.out).mono ?_
    rintro e w2 ⟨va, vb, vc, rfl, hv2, hb2⟩
    have HB2 := Lib.hid (HB1.out.trans (hb2.mono HB1.out.size))
    have HV2 := Lib.hid hv2
    obtain ⟨⟨a0, l0, c0, rfl⟩, ⟨a1, l1, c1, rfl⟩, ⟨a2, l2, c2, rfl⟩⟩ := hv2.shapes
    obtain ⟨W2, hW2⟩ : ∃ W, w2.alloc (.cells (o.row (.slice a0 l0 c0) (.slice a1 l1 c1) (.slice a2 l2 c2)) 44) = W := ⟨_, rfl⟩
    have hr2 : W2.heap[w2.heap.size]? = some (.cells (o.row (.slice a0 l0 c0) (.slice a1 l1 c1) (.slice a2 l2 c2)) 44 (0, 0)) := by rw [← hW2]; exact heap_alloc_new _ _
    have hba : Below w2.heap.size w2 W2 := by rw [← hW2]; exact (Below.refl _ _).alloc (Nat.le_refl _) _
    have HBA := Lib.hid (HB2.out.trans (hba.mono HB2.out.size))
    have HVA := Lib.hid (HV2.out.below hba)
    obtain ⟨k, x0, x1, x2, ba, bb, bc⟩ := o
    unfold OpD.row at hW2 hr2
    simp only at hW2 hr2
    have HW2 := Lib.hid hW2
    have HR2 := Lib.hid hr2
    unfold OpD.agg
    simp only
    clear hW2 hr2 hba hv2 hb2
    go_wp2_with fail
    rw [HW2.out]
    refine (CR.out W2 HBA.out HL2.out).mono ?_
    rintro e w3 ⟨ua, ub, uc, rfl, hv3, hb3⟩
    have HB3 := Lib.hid (HBA.out.trans (hb3.mono HBA.out.size))
    have HV3 := Lib.hid hv3
    obtain ⟨⟨a3, l3, c3, rfl⟩, ⟨a4, l4, c4, rfl⟩, ⟨a5, l5, c5, rfl⟩⟩ := hv3.shapes
    obtain ⟨W3, hW3⟩ : ∃ W, w3.alloc (.cells #[.int .i64 k, .int .i64 x0, .int .i64 x1, .int .i64 x2, .slice a3 l3 c3, .slice a4 l4 c4, .slice a5 l5 c5] 44) = W := ⟨_, rfl⟩
    have hr3 : W3.heap[w3.heap.size]? = some (.cells #[.int .i64 k, .int .i64 x0, .int .i64 x1, .int .i64 x2, .slice a3 l3 c3, .slice a4 l4 c4, .slice a5 l5 c5] 44 (0, 0)) := by rw [← hW3]; exact heap_alloc_new _ _
    have hba : Below w3.heap.size w3 W3 := by rw [← hW3]; exact (Below.refl _ _).alloc (Nat.le_refl _) _
    have hr32 : W3.heap[w2.heap.size]? = some (.cells #[.int .i64 k, .int .i64 x0, .int .i64 x1, .int .i64 x2, .slice a0 l0 c0, .slice a1 l1 c1, .slice a2 l2 c2] 44 (0, 0)) :=
      (hba.block _ (Nat.lt_of_lt_of_le (heap_lt HR2.out) hb3.size)).trans ((hb3.block _ (heap_lt HR2.out)).trans HR2.out)
    have HBA3 := Lib.hid (HB3.out.trans (hba.mono HB3.out.size))
    have hva := (HVA.out.below hb3).below hba
    have hvb := HV3.out.below hba
    have CS := Lib.hid (ropSame_any ⟨k, x0, x1, x2, ba, bb, bc⟩ ⟨k, x0, x1, x2, ba, bb, bc⟩ _ _ _ _ _ _ W3 hva.1 hva.2.1 hva.2.2 hvb.1 hvb.2.1 hvb.2.2)
    rw [opSame_refl] at CS
    unfold OpD.agg at CS ⊢
    simp only at CS ⊢
    obtain ⟨s0, s1, s2, s3, s4, s5, s6⟩ := op_cellsV hr32
    obtain ⟨t0, t1, t2, t3, t4, t5, t6⟩ := op_cellsV hr3
    have HW3 := Lib.hid hW3
    clear hW3 hr3 hba hr32 hva hvb hv3 hb3
    go_upto_region 7 with fail
    rw [HW3.out]
    go_wp2_with fail
    refine CS.out.mono ?_
    rintro e w4 ⟨rfl, hb4⟩
    have HB4 := Lib.hid (HBA3.out.trans (hb4.mono HBA3.out.size))
    clear hb4 s0 s1 s2 s3 s4 s5 s6 t0 t1 t2 t3 t4 t5 t6
    go_wp2
    go_ret
    exact ⟨rfl, HB4.out⟩

end Go.Proofs.Yticpmkdlnjnfgaa
