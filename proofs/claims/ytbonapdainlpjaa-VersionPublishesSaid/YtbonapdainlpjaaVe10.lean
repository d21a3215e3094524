/- Layer 15 (graph): == of stops and of links. -/
import Derived.Test.YtbonapdainlpjaaVe9
import Derived.Laws.StructEq
import Derived.Deep.CutBlock
import Derived.Lib.QuietBelow
set_option linter.unusedSimpArgs false
namespace Go.Proofs.Ytbonapdainlpjaa
open Go.RowKit Go.Sort

theorem eq_stop (a b c d : Int) (w : World) : (Op.equalIn 10000 144 (.agg #[.int .i64 a, .int .i64 b]) (.agg #[.int .i64 c, .int .i64 d])).run Try.prog w = .ok (a == c && b == d) w := by
  have u3 := Try.underlying3
  have a3 := Try.isAgg3
  have z3 := Try.sizeOf3
  have hS : Try.prog.underlying 144 = some (.struct (Try.prog.fieldsOf 144)) := by kernel_rfl
  rw [show (10000 : Nat) = 9999 + 1 from rfl, run_equalIn_agg w 9999 144 _ _ hS (by kernel_rfl)]
  simp only [Program.fieldsOf, Try.underlying144]
  go_simp
  by_cases h1 : a = c <;> by_cases h2 : b = d <;> simp [h1, h2]

theorem eq_link (a b c d e f : Int) (w : World) : (Op.equalIn 10000 146 (.agg #[.int .i64 a, .int .i64 b, .int .i64 c]) (.agg #[.int .i64 d, .int .i64 e, .int .i64 f])).run Try.prog w = .ok (a == d && (b == e && c == f)) w := by
  have u3 := Try.underlying3
  have a3 := Try.isAgg3
  have z3 := Try.sizeOf3
  have hS : Try.prog.underlying 146 = some (.struct (Try.prog.fieldsOf 146)) := by kernel_rfl
  rw [show (10000 : Nat) = 9999 + 1 from rfl, run_equalIn_agg w 9999 146 _ _ hS (by kernel_rfl)]
  simp only [Program.fieldsOf, Try.underlying146]
  go_simp
  by_cases h1 : a = d <;> by_cases h2 : b = e <;> by_cases h3 : c = f <;> simp [h1, h2, h3]

set_option maxRecDepth 100000 in
set_option maxHeartbeats 800000 in
/-- two networks that are one (as data) are told to be one -/
theorem rgSame_yes (n : Net) (vs vl us ul : Value) (w : World) (h : NetV w n vs vl) (k : NetV w n us ul) : Calls Try.prog 69 #[n.agg vs vl, n.agg us ul] w fun e w' => e = .returned (.bool true) ∧ Below w.heap.size w w' := by
  obtain ⟨ver, st, ln⟩ := n
  obtain ⟨ns, hns⟩ : ∃ x, st.length = x := ⟨_, rfl⟩
  obtain ⟨nl, hnl⟩ : ∃ x, ln.length = x := ⟨_, rfl⟩
  obtain ⟨a, c, b, o, rfl, n1, n2, hix1, hlt1, hcell1, -⟩ := h.1.open_n layS elSt ns hns
  obtain ⟨a2, c2, b2, o2, rfl, n3, n4, hix2, hlt2, hcell2, -⟩ := h.2.open_n layL elLn nl hnl
  obtain ⟨a3, c3, b3, o3, rfl, -, -, hix3, hlt3, hcell3, -⟩ := k.1.open_n layS elSt ns hns
  obtain ⟨a4, c4, b4, o4, rfl, -, -, hix4, hlt4, hcell4, -⟩ := k.2.open_n layL elLn nl hnl
  unfold Net.agg
  simp only
  obtain ⟨W, hW⟩ : ∃ W, (w.alloc (.cells #[.int .i64 ver, .slice a ns c, .slice a2 nl c2] 95)).alloc (.cells #[.int .i64 ver, .slice a3 ns c3, .slice a4 nl c4] 95) = W := ⟨_, rfl⟩
  have hB : Below w.heap.size w W := by rw [← hW]; exact ((Below.refl _ _).alloc (Nat.le_refl _) _).alloc (by simp) _
  obtain ⟨q, hq⟩ : ∃ q, w.heap.size = q := ⟨_, rfl⟩
  have hr : W.heap[q]? = some (.cells #[.int .i64 ver, .slice a ns c, .slice a2 nl c2] 95 (0, 0)) := by rw [← hW, ← hq, alloc_get, if_neg (by simp)]; exact heap_alloc_new _ _
  have hr2 : W.heap[q + 1]? = some (.cells #[.int .i64 ver, .slice a3 ns c3, .slice a4 nl c4] 95 (0, 0)) := by rw [← hW, ← hq, alloc_get, if_pos (by simp)]
  have HR := Lib.hid hr
  have HR2 := Lib.hid hr2
  have HW := Lib.hid hW
  have HB := Lib.hid hB
  have HQ := Lib.hid hq
  have HC1 := Lib.hid hcell1
  have HC2 := Lib.hid hcell2
  have HC3 := Lib.hid hcell3
  have HC4 := Lib.hid hcell4
  have HL1 := Lib.hid hlt1
  have HL2 := Lib.hid hlt2
  have HL3 := Lib.hid hlt3
  have HL4 := Lib.hid hlt4
  have HNS := Lib.hid hns
  have HNL := Lib.hid hnl
  have HKEEP := Lib.hid (fun (V : World) (hV : Below W.heap.size W V) => And.intro (net_cells ((hV.block q (heap_lt hr)).trans hr)) (net_cells ((hV.block (q + 1) (heap_lt hr2)).trans hr2)))
  have hvv : (ver != ver) = false := by simp
  have hss : ((ns : Int) != ns) = false := by simp
  have hll : ((nl : Int) != nl) = false := by simp
  obtain ⟨⟨s0, s1, s2⟩, ⟨t0, t1, t2⟩⟩ := HKEEP.out W (Below.refl _ _)
  clear h k hns hnl hcell1 hcell2 hcell3 hcell4 hlt1 hlt2 hlt3 hlt4 hW hB hq hr hr2
  go_enter Try.func69, Try.ntmps69
  go_upto_region 1 with fail
  rw [HW.out, HQ.out]
  go_wp2_with fail
  go_loopw [5] (fun vi wr => ∃ k : Nat, k ≤ ns ∧ vi = .int .i64 k ∧ Hid (Below W.heap.size W wr)) (fun vi _ => ns - (intOf vi).toNat)
  case atStart => exact ⟨0, by omega, rfl, Below.refl _ _⟩
  case round =>
    clear s0 s1 s2 t0 t1 t2
    obtain ⟨k, hk, rfl, HBr⟩ := hrel
    obtain ⟨⟨s0, s1, s2⟩, ⟨t0, t1, t2⟩⟩ := HKEEP.out wr HBr.out
    by_cases hlt : k < ns
    · have e1 : (k : Int) < ns := by omega
      obtain ⟨x, hs⟩ : ∃ s, st[k]? = some s := ⟨_, List.getElem?_eq_getElem (by have := HNS.out; omega)⟩
      have hbw := HB.out.trans (HBr.out.mono HB.out.size)
      have m0 := HC1.out k x hs 0 _ rfl
      have m1 := HC1.out k x hs 1 _ rfl
      have p0 := HC3.out k x hs 0 _ rfl
      have p1 := HC3.out k x hs 1 _ rfl
      rw [Nat.add_zero] at m0 p0
      rw [← hbw.cell (by exact HL1.out k hlt)] at m0 m1
      rw [← hbw.cell (by exact HL3.out k hlt)] at p0 p1
      obtain ⟨x, y⟩ := x
      simp only at m0 m1 p0 p1
      have i1 := fun V => hix1 V k hlt
      have i3 := fun V => hix3 V k hlt
      have hEQ : ∀ V : World, (Op.equalIn 10000 144 (.agg #[.int .i64 x, .int .i64 y]) (.agg #[.int .i64 x, .int .i64 y])).run Try.prog V = .ok true V := fun V => by rw [eq_stop]; simp
      have r1 := fun d os => cell_regrown s1 d os
      have r2 := fun d os => cell_regrown t1 d os
      have r3 := fun d os => cell_regrown m0 d os
      have r4 := fun d os => cell_regrown m1 d os
      have r5 := fun d os => cell_regrown p0 d os
      have r6 := fun d os => cell_regrown p1 d os
      have HLT := Lib.hid hlt
      clear hbw hs
      go_upto_region 6 with fail
      clear s0 s1 s2 t0 t1 t2 m0 m1 p0 p1
      refine wp_region_quiet_below (by kernel_rfl) (by kernel_rfl) ?_
      repeat (go_big_quiet_step ((fail)))
      refine wpQuiet_nil ?_
      intro _ hw'
      obtain ⟨⟨dq, osq⟩, hw''⟩ := hw'
      subst hw''
      have HB2 := below_regrown wr dq osq
      obtain ⟨W2, hwq⟩ : ∃ x, x = grow (redrawn wr dq) osq := ⟨_, rfl⟩
      rw [← hwq] at HB2 ⊢
      clear hwq
      have hf : Hid (Below W.heap.size W W2) := HBr.out.trans (HB2.mono HBr.out.size)
      clear HB2
      go_wp2
      go_roundw
      case rel => exact ⟨k + 1, by have := HLT.out; omega, by go_num, hf⟩
      case measure => simp [intOf]; have := HLT.out; omega
    · obtain rfl : k = ns := by omega
      have e1 : ¬ (k : Int) < k := by omega
      go_wp2_with fail
      go_loopw [6] (fun vi wr => ∃ j : Nat, j ≤ nl ∧ vi = .int .i64 j ∧ Hid (Below W.heap.size W wr)) (fun vi _ => nl - (intOf vi).toNat)
      case atStart => exact ⟨0, by omega, rfl, HBr⟩
      case round =>
        clear s0 s1 s2 t0 t1 t2 HBr e1
        obtain ⟨j, hj, rfl, HBr⟩ := hrel
        obtain ⟨⟨s0, s1, s2⟩, ⟨t0, t1, t2⟩⟩ := HKEEP.out wr HBr.out
        by_cases hlt : j < nl
        · have e1 : (j : Int) < nl := by omega
          obtain ⟨x, hs⟩ : ∃ s, ln[j]? = some s := ⟨_, List.getElem?_eq_getElem (by have := HNL.out; omega)⟩
          have hbw := HB.out.trans (HBr.out.mono HB.out.size)
          have m0 := HC2.out j x hs 0 _ rfl
          have m1 := HC2.out j x hs 1 _ rfl
          have m2 := HC2.out j x hs 2 _ rfl
          have p0 := HC4.out j x hs 0 _ rfl
          have p1 := HC4.out j x hs 1 _ rfl
          have p2 := HC4.out j x hs 2 _ rfl
          rw [Nat.add_zero] at m0 p0
          rw [← hbw.cell (by exact HL2.out j hlt)] at m0 m1 m2
          rw [← hbw.cell (by exact HL4.out j hlt)] at p0 p1 p2
          obtain ⟨x, y, z⟩ := x
          simp only at m0 m1 m2 p0 p1 p2
          have i1 := fun V => hix2 V j hlt
          have i3 := fun V => hix4 V j hlt
          have hEQ : ∀ V : World, (Op.equalIn 10000 146 (.agg #[.int .i64 x, .int .i64 y, .int .i64 z]) (.agg #[.int .i64 x, .int .i64 y, .int .i64 z])).run Try.prog V = .ok true V := fun V => by rw [eq_link]; simp
          have r1 := fun d os => cell_regrown s2 d os
          have r2 := fun d os => cell_regrown t2 d os
          have r3 := fun d os => cell_regrown m0 d os
          have r4 := fun d os => cell_regrown m1 d os
          have r5 := fun d os => cell_regrown p0 d os
          have r6 := fun d os => cell_regrown p1 d os
          have r7 := fun d os => cell_regrown m2 d os
          have r8 := fun d os => cell_regrown p2 d os
          have HLT := Lib.hid hlt
          clear hbw hs
          go_upto_region 11 with fail
          clear s0 s1 s2 t0 t1 t2 m0 m1 m2 p0 p1 p2
          refine wp_region_quiet_below (by kernel_rfl) (by kernel_rfl) ?_
          repeat (go_big_quiet_step ((fail)))
          refine wpQuiet_nil ?_
          intro _ hw'
          obtain ⟨⟨dq, osq⟩, hw''⟩ := hw'
          subst hw''
          have HB2 := below_regrown wr dq osq
          obtain ⟨W2, hwq⟩ : ∃ x, x = grow (redrawn wr dq) osq := ⟨_, rfl⟩
          rw [← hwq] at HB2 ⊢
          clear hwq
          have hf : Hid (Below W.heap.size W W2) := HBr.out.trans (HB2.mono HBr.out.size)
          clear HB2
          go_wp2
          go_roundw
          case rel => exact ⟨j + 1, by have := HLT.out; omega, by go_num, hf⟩
          case measure => simp [intOf]; have := HLT.out; omega
        · obtain rfl : j = nl := by omega
          have e1 : ¬ (j : Int) < j := by omega
          have hfin := HB.out.trans (HBr.out.mono HB.out.size)
          have HF := Lib.hid hfin
          clear hfin
          go_wp2
          go_ret
          exact ⟨rfl, HF.out⟩

end Go.Proofs.Ytbonapdainlpjaa
