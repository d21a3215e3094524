/- Layer 38 (op): the walk of Take. -/
import Derived.Test.YticpmkdlnjnfgaaOp9
import Derived.Deep.CutBlock
import Derived.OwnWalk
set_option linter.unusedSimpArgs false
namespace Go.Proofs.Yticpmkdlnjnfgaa
open Go.RowKit Go.Sort

theorem op_cellsV {w : World} {q : Nat} {k x0 x1 x2 : Int} {ya yb yc : Value} (h : w.heap[q]? = some (.cells #[.int .i64 k, .int .i64 x0, .int .i64 x1, .int .i64 x2, ya, yb, yc] 44 (0, 0))) :
    w.cell? ⟨q, 0, none⟩ = some (.int .i64 k) ∧ w.cell? ⟨q, 1, none⟩ = some (.int .i64 x0) ∧ w.cell? ⟨q, 2, none⟩ = some (.int .i64 x1) ∧ w.cell? ⟨q, 3, none⟩ = some (.int .i64 x2) ∧
    w.cell? ⟨q, 4, none⟩ = some ya ∧ w.cell? ⟨q, 5, none⟩ = some yb ∧ w.cell? ⟨q, 6, none⟩ = some yc :=
  ⟨cell_of_row w _ _ _ _ _ h, cell_of_row w _ _ _ _ _ h, cell_of_row w _ _ _ _ _ h, cell_of_row w _ _ _ _ _ h, cell_of_row w _ _ _ _ _ h, cell_of_row w _ _ _ _ _ h, cell_of_row w _ _ _ _ _ h⟩

/-- an operation stored cell by cell -/
def opChain (W : World) (r : Nat) (v0 v1 v2 v3 v4 v5 v6 : Value) : World :=
  ((((((W.setCell ⟨r, 0, none⟩ v0).setCell ⟨r, 1, none⟩ v1).setCell ⟨r, 2, none⟩ v2).setCell ⟨r, 3, none⟩ v3).setCell ⟨r, 4, none⟩ v4).setCell ⟨r, 5, none⟩ v5).setCell ⟨r, 6, none⟩ v6
theorem op_chain {W : World} {r : Nat} {u0 u1 u2 u3 u4 u5 u6 : Value} (h : W.heap[r]? = some (.cells #[u0, u1, u2, u3, u4, u5, u6] 44 (0, 0))) (v0 v1 v2 v3 v4 v5 v6 : Value) :
    (opChain W r v0 v1 v2 v3 v4 v5 v6).heap[r]? = some (.cells #[v0, v1, v2, v3, v4, v5, v6] 44 (0, 0)) ∧ Only (fun k => k = r) W (opChain W r v0 v1 v2 v3 v4 v5 v6) := by
  have h0 : (W.setCell ⟨r, 0, none⟩ v0).heap[r]? = some (.cells #[v0, u1, u2, u3, u4, u5, u6] 44 (0, 0)) := row_setCell h 0 v0
  have h1 : ((W.setCell ⟨r, 0, none⟩ v0).setCell ⟨r, 1, none⟩ v1).heap[r]? = some (.cells #[v0, v1, u2, u3, u4, u5, u6] 44 (0, 0)) := row_setCell h0 1 v1
  have h2 : (((W.setCell ⟨r, 0, none⟩ v0).setCell ⟨r, 1, none⟩ v1).setCell ⟨r, 2, none⟩ v2).heap[r]? = some (.cells #[v0, v1, v2, u3, u4, u5, u6] 44 (0, 0)) := row_setCell h1 2 v2
  have h3 : ((((W.setCell ⟨r, 0, none⟩ v0).setCell ⟨r, 1, none⟩ v1).setCell ⟨r, 2, none⟩ v2).setCell ⟨r, 3, none⟩ v3).heap[r]? = some (.cells #[v0, v1, v2, v3, u4, u5, u6] 44 (0, 0)) := row_setCell h2 3 v3
  have h4 : (((((W.setCell ⟨r, 0, none⟩ v0).setCell ⟨r, 1, none⟩ v1).setCell ⟨r, 2, none⟩ v2).setCell ⟨r, 3, none⟩ v3).setCell ⟨r, 4, none⟩ v4).heap[r]? = some (.cells #[v0, v1, v2, v3, v4, u5, u6] 44 (0, 0)) := row_setCell h3 4 v4
  have h5 : ((((((W.setCell ⟨r, 0, none⟩ v0).setCell ⟨r, 1, none⟩ v1).setCell ⟨r, 2, none⟩ v2).setCell ⟨r, 3, none⟩ v3).setCell ⟨r, 4, none⟩ v4).setCell ⟨r, 5, none⟩ v5).heap[r]? = some (.cells #[v0, v1, v2, v3, v4, v5, u6] 44 (0, 0)) := row_setCell h4 5 v5
  have h6 : (((((((W.setCell ⟨r, 0, none⟩ v0).setCell ⟨r, 1, none⟩ v1).setCell ⟨r, 2, none⟩ v2).setCell ⟨r, 3, none⟩ v3).setCell ⟨r, 4, none⟩ v4).setCell ⟨r, 5, none⟩ v5).setCell ⟨r, 6, none⟩ v6).heap[r]? = some (.cells #[v0, v1, v2, v3, v4, v5, v6] 44 (0, 0)) := row_setCell h5 6 v6
  exact ⟨h6, ((((((set_only W r 0 v0).trans (set_only _ r 1 v1)).trans (set_only _ r 2 v2)).trans (set_only _ r 3 v3)).trans (set_only _ r 4 v4)).trans (set_only _ r 5 v5)).trans (set_only _ r 6 v6)⟩
theorem op_frees {W : World} {r : Nat} {A : Array Value} (h : W.heap[r]? = some (.cells A 44 (0, 0))) :
    W.frozen? ⟨r, 0, none⟩ = false ∧ W.frozen? ⟨r, 1, none⟩ = false ∧ W.frozen? ⟨r, 2, none⟩ = false ∧ W.frozen? ⟨r, 3, none⟩ = false ∧ W.frozen? ⟨r, 4, none⟩ = false ∧ W.frozen? ⟨r, 5, none⟩ = false ∧ W.frozen? ⟨r, 6, none⟩ = false :=
  ⟨row_free h 0, row_free h 1, row_free h 2, row_free h 3, row_free h 4, row_free h 5, row_free h 6⟩

theorem otake_cons (h : UInt8) (c : List UInt8) : otake (h :: c) = if opIs (h.toNat : Int) then
      (if opDone c (opN (h.toNat : Int)) (opK (h.toNat : Int)) = 0 then (opOf (h.toNat : Int) c (opN (h.toNat : Int)) (opK (h.toNat : Int)), 0) else (opZero, opDone c (opN (h.toNat : Int)) (opK (h.toNat : Int)))) else (opZero, 11) := rfl

theorem Ob.lower {w : World} {B C e : Nat} {v : Value} {l : List UInt8} (h : Ob w B e v l) (hC : C ≤ B) : Ob w C e v l := by
  refine ⟨h.1, ?_⟩
  rcases h.2 with h2 | ⟨g, c, cur, h1, h2, r⟩
  · exact .inl h2
  · exact .inr ⟨g, c, cur, h1, by omega, r⟩

set_option maxRecDepth 100000 in
set_option maxHeartbeats 1600000 in
theorem opTake_any (v : Value) (b : List UInt8) (w : World) (hb : Bs w v b) (hlen : b.length ≤ 100000) : Calls Try.prog 33 #[v] w (OTakePost b w) := by
  unfold OTakePost
  obtain ⟨r, hr⟩ : ∃ r, w.heap.size = r := ⟨_, rfl⟩
  obtain ⟨W1, hW1⟩ : ∃ W, w.alloc (.cells opZeroRow 44) = W := ⟨_, rfl⟩
  have hrow1 : W1.heap[r]? = some (.cells opZeroRow 44 (0, 0)) := by rw [← hW1, ← hr]; exact heap_alloc_new _ _
  have hb1 : Below w.heap.size w W1 := by rw [← hW1]; exact (Below.refl _ _).alloc (Nat.le_refl _) _
  have HB0 := Lib.hid hb
  obtain ⟨a, ca, rfl⟩ := hb.shape
  have hcap := hb.len_eq.2
  unfold opZeroRow at hrow1 hW1
  have HW1 := Lib.hid hW1
  have HR1 := Lib.hid hrow1
  have HB1 := Lib.hid hb1
  have HRR := Lib.hid hr
  cases b with
  | nil =>
    have hfin : ∃ va vb vc, Ending.returned (.tuple #[opZero.agg (.slice none 0 0) (.slice none 0 0) (.slice none 0 0), .int .i64 10]) = .returned (.tuple #[(otake []).1.agg va vb vc, .int .i64 ((otake []).2 : Int)]) ∧ OpV W1 (otake []).1 va vb vc ∧ Below w.heap.size w W1 :=
      ⟨_, _, _, rfl, ⟨Rd.nil _ _, Rd.nil _ _, Rd.nil _ _⟩, hb1⟩
    have HF := Lib.hid hfin
    clear hW1 hrow1 hb1 hr hfin hb
    go_enter Try.func33, Try.ntmps33
    go_wp2
    rw [HW1.out]
    obtain ⟨s0, s1, s2, s3, s4, s5, s6⟩ := op_cellsV HR1.out
    refine bodyPost_ret (v := .tuple #[opZero.agg (.slice none 0 0) (.slice none 0 0) (.slice none 0 0), .int .i64 10]) ?_ rfl HF.out
    simp [results, Try.results33, go_sem, HRR.out, s0, s1, s2, s3, s4, s5, s6, OpD.agg, opZero]
  | cons h c =>
    obtain ⟨N, hN⟩ : ∃ N, (h :: c).length = N := ⟨_, rfl⟩
    have hN1 : c.length + 1 = N := by rw [← hN]; simp
    have hbb := hb.below hb1
    rw [hN] at hbb hb HB0 hcap hlen ⊢
    obtain ⟨Yv, hY1, hYw⟩ := hb.from elB 1 (by simp)
    have hY1' : ∀ V : World, (Instr.sliceAt 24 (.slice a N ca) (some (.int .i64 1)) none none).run Try.prog V = .ok Yv V := fun V => hY1 V
    clear hY1
    obtain ⟨b0, o0, rfl, hcell⟩ := hbb.at1 (by simp)
    have hc0 : W1.cell? ⟨b0, o0, none⟩ = some (.int .u8 (h.toNat : Int)) := hcell 0 h rfl
    have e0 : ((N : Int) == 0) = false := by simp; omega
    have hN0 : (0 : Int) < N := by omega
    obtain ⟨q, hq⟩ : ∃ q, W1.heap.size = q := ⟨_, rfl⟩
    obtain ⟨W2, hW2⟩ : ∃ W, W1.alloc (.cells #[.int .i64 (h.toNat : Int), .int .i64 0, .int .i64 0, .int .i64 0, .slice none 0 0, .slice none 0 0, .slice none 0 0] 44) = W := ⟨_, rfl⟩
    have hrow2 : W2.heap[q]? = some (.cells #[.int .i64 (h.toNat : Int), .int .i64 0, .int .i64 0, .int .i64 0, .slice none 0 0, .slice none 0 0, .slice none 0 0] 44 (0, 0)) := by rw [← hW2, ← hq]; exact heap_alloc_new _ _
    have hb12 : Below W1.heap.size W1 W2 := by rw [← hW2]; exact (Below.refl _ _).alloc (Nat.le_refl _) _
    have hb2 : Below w.heap.size w W2 := hb1.trans (hb12.mono hb1.size)
    have hres2 := (hb12.block r (heap_lt hrow1)).trans hrow1
    have HW2 := Lib.hid hW2
    have HR2 := Lib.hid hrow2
    have HS2 := Lib.hid hres2
    have HB2 := Lib.hid hb2
    have HQ := Lib.hid hq
    have hYw' : Bs w Yv c := hYw
    have HY2 := Lib.hid (hYw'.below hb2)
    have HSRC : Hid (c ≠ [] → ∀ x, Yv.ownBlock = some x → x < w.heap.size) := fun hc x hx => hYw'.lt hc x hx
    have HCL : Hid (c.length ≤ 100000) := by show c.length ≤ 100000; omega
    have hrq : r < q := by have := heap_lt hrow1; omega
    obtain ⟨s0, -⟩ := op_cellsV hrow2
    have CSH := Lib.hid (opShape_any (h.toNat : Int) W2)
    have hOT1 : opIs (h.toNat : Int) = false → otake (h :: c) = (opZero, 11) := fun e => by rw [otake_cons, e]; rfl
    have hOT2 : opIs (h.toNat : Int) = true → opDone c (opN (h.toNat : Int)) (opK (h.toNat : Int)) = 0 → otake (h :: c) = (opOf (h.toNat : Int) c (opN (h.toNat : Int)) (opK (h.toNat : Int)), 0) := fun e d => by rw [otake_cons, e, if_pos rfl, if_pos d]
    have hOT3 : opIs (h.toNat : Int) = true → opDone c (opN (h.toNat : Int)) (opK (h.toNat : Int)) ≠ 0 → otake (h :: c) = (opZero, opDone c (opN (h.toNat : Int)) (opK (h.toNat : Int))) := fun e d => by rw [otake_cons, e, if_pos rfl, if_neg d]
    obtain ⟨OT, hOT⟩ : ∃ x, otake (h :: c) = x := ⟨_, rfl⟩
    rw [hOT] at hOT1 hOT2 hOT3 ⊢
    obtain ⟨n, hn⟩ : ∃ n, opN (h.toNat : Int) = n := ⟨_, rfl⟩
    obtain ⟨m, hm⟩ : ∃ n, opK (h.toNat : Int) = n := ⟨_, rfl⟩
    obtain ⟨is, his⟩ : ∃ n, opIs (h.toNat : Int) = n := ⟨_, rfl⟩
    have hn3 := opN_le (h.toNat : Int)
    have hm3 := opK_le (h.toNat : Int)
    rw [hn, hm, his] at CSH hOT2 hOT3
    rw [his] at hOT1
    rw [hn] at hn3
    rw [hm] at hm3
    have hkw : wrap64 (h.toNat : Int) = (h.toNat : Int) := IntWalk.wrap64_in _ (by have := UInt8.toNat_lt h; omega)
    obtain ⟨k, hk⟩ : ∃ k : Int, (h.toNat : Int) = k := ⟨_, rfl⟩
    rw [hk] at CSH HW2 HR2 s0 hOT2 hc0 hkw
    have HOT1 := Lib.hid hOT1
    have HOT2 := Lib.hid hOT2
    have HOT3 := Lib.hid hOT3
    have HN1 := Lib.hid hN1
    clear hn hm his hk hW1 hrow1 hb1 hr hb hcell hbb hN hW2 hrow2 hres2 hb2 hb12 hq hYw hYw' hN1 hOT hOT1 hOT2 hOT3
    cases is with
    | false =>
      rw [HOT1.out rfl]
      go_enter Try.func33, Try.ntmps33
      go_upto_region 3 with fail
      rw [HW1.out]
      go_wp2_with fail
      rw [HW2.out, HQ.out]
      refine CSH.out.mono ?_
      rintro e w4 ⟨rfl, rfl⟩
      have hs2 : w4.heap[w.heap.size]? = some (.cells #[.int .i64 0, .int .i64 0, .int .i64 0, .int .i64 0, .slice none 0 0, .slice none 0 0, .slice none 0 0] 44 (0, 0)) := by rw [HRR.out]; exact HS2.out
      have HS2' := Lib.hid hs2
      clear hs2
      obtain ⟨c0, c1, c2, c3, c4, c5, c6⟩ := op_cellsV HS2'.out
      obtain ⟨f0, f1, f2, f3, f4, f5, f6⟩ := op_frees HS2'.out
      obtain ⟨hz1, hz2⟩ := op_chain HS2'.out (.int .i64 0) (.int .i64 0) (.int .i64 0) (.int .i64 0) (.slice none 0 0) (.slice none 0 0) (.slice none 0 0)
      have hZb : Below w.heap.size w (opChain w4 w.heap.size (.int .i64 0) (.int .i64 0) (.int .i64 0) (.int .i64 0) (.slice none 0 0) (.slice none 0 0) (.slice none 0 0)) := HB2.out.trans (hz2.below (fun x hx => by omega) HB2.out.size)
      have HZ1 := Lib.hid hz1
      have HZb := Lib.hid hZb
      clear hz1 hz2 hZb
      go_wp2
      obtain ⟨Z, hZ⟩ : ∃ Z, opChain w4 w.heap.size (.int .i64 0) (.int .i64 0) (.int .i64 0) (.int .i64 0) (.slice none 0 0) (.slice none 0 0) (.slice none 0 0) = Z := ⟨_, rfl⟩
      rw [hZ] at HZ1 HZb
      unfold opChain at hZ
      rw [hZ]
      obtain ⟨d0, d1, d2, d3, d4, d5, d6⟩ := op_cellsV HZ1.out
      refine bodyPost_ret (v := .tuple #[opZero.agg (.slice none 0 0) (.slice none 0 0) (.slice none 0 0), .int .i64 11]) ?_ rfl ⟨_, _, _, rfl, ⟨Rd.nil _ _, Rd.nil _ _, Rd.nil _ _⟩, HZb.out⟩
      simp [results, Try.results33, go_sem, d0, d1, d2, d3, d4, d5, d6, OpD.agg, opZero]
    | true =>
      go_enter Try.func33, Try.ntmps33
      go_upto_region 3 with fail
      rw [HW1.out]
      go_wp2_with fail
      rw [HW2.out, HQ.out]
      refine CSH.out.mono ?_
      rintro e w4 ⟨rfl, rfl⟩
      go_wp2_with fail
      refine (read_any Yv c w4 HY2.out).mono ?_
      rintro e w5 ⟨rfl, hrd5, hb5⟩
      have hT5 : TK w r q w4.heap.size Yv c k (opXs c 0) (fun _ => .slice none 0 0) (opYs c n 0) (opRdN c 0).1 (opRdN c 0).2 w5 := by
        have e1 : opXs c 0 = fun _ => 0 := by funext j; simp [opXs]
        have e2 : opYs c n 0 = fun _ => [] := by funext j; simp [opYs]
        rw [e1, e2]
        exact ⟨hrd5, (hb5.block q (heap_lt HR2.out)).trans HR2.out, (hb5.block r (heap_lt HS2.out)).trans HS2.out, fun t _ => Ob.nil _ _ _, HB2.out.trans (hb5.mono HB2.out.size), by have := HRR.out; omega, by have := HRR.out; omega, HB2.out.size, by omega, HSRC.out⟩
      have HT5 := Lib.hid hT5
      clear hrd5 hb5 hT5 s0
      obtain ⟨g, hg⟩ : ∃ g, w4.heap.size = g := ⟨_, rfl⟩
      rw [hg] at HT5
      have HG := Lib.hid hg
      go_wp2_with fail
      clear hg
      go_loopw [36, 9] (fun vi v9 wr => ∃ i : Nat, i ≤ n ∧ vi = .int .i64 i ∧ Hid (TK w r q g Yv c k (opXs c i) (fun _ => .slice none 0 0) (opYs c n 0) (opRdN c i).1 (opRdN c i).2 wr)) (fun vi _ _ => n - (intOf vi).toNat)
      case atStart => exact ⟨0, by omega, rfl, HT5⟩
      case round =>
        obtain ⟨i, hi, rfl, HP⟩ := hrel
        by_cases hlt : i < n
        · have e1 : (i : Int) < n := by omega
          have hidx : ∀ V : World, (Instr.indexAt 42 (.pointer (some ⟨q, 1, none⟩)) (.int .i64 (i : Int))).run Try.prog V = .ok (.pointer (some ⟨q, 1 + i, none⟩)) V := fun V => by
            have h3 : i = 0 ∨ i = 1 ∨ i = 2 := by omega
            rcases h3 with rfl | rfl | rfl
            · (show _ = _; kernel_rfl)
            · (show _ = _; kernel_rfl)
            · (show _ = _; kernel_rfl)
          have CN : Hid (Calls Try.prog 61 #[.pointer (some ⟨g, 0, none⟩), .int .i64 4611686018427387904] wr (NumPost opTop g Yv c (opRdN c i).1 (opRdN c i).2 wr)) := rnumber_rd opTop g Yv c _ _ wr HP.out.rd
          unfold NumPost at CN
          obtain ⟨x, hx⟩ : ∃ x, (rnum opTop c (opRdN c i).1 (opRdN c i).2).1 = x := ⟨_, rfl⟩
          have hx2 : opValN c i = x := hx
          rw [hx] at CN
          have HX := Lib.hid hx2
          clear hx hx2
          go_wp2_with fail
          refine CN.out.mono ?_
          rintro e w7 ⟨rfl, hrd7, ho7⟩
          have hT7 := HP.out.read hrd7 ho7
          have HT7 := Lib.hid hT7
          have fz := row_free hT7.row (1 + i)
          obtain ⟨z, hz⟩ : ∃ z, w7.cell? ⟨q, 1 + i, none⟩ = some z := by
            have h3 : i = 0 ∨ i = 1 ∨ i = 2 := by omega
            rcases h3 with rfl | rfl | rfl
            · exact ⟨_, cell_of_row w7 _ _ _ _ _ hT7.row⟩
            · exact ⟨_, cell_of_row w7 _ _ _ _ _ hT7.row⟩
            · exact ⟨_, cell_of_row w7 _ _ _ _ _ hT7.row⟩
          clear hrd7 ho7 hT7
          have hf : Hid (TK w r q g Yv c k (opXs c (i + 1)) (fun _ => .slice none 0 0) (opYs c n 0) (opRdN c (i + 1)).1 (opRdN c (i + 1)).2 (w7.setCell ⟨q, 1 + i, none⟩ (.int .i64 (x : Int)))) := by
            have := HT7.out.num i (by omega) (x : Int)
            rw [← HX.out, opXs_set] at this
            rw [← HX.out]
            exact this
          go_wp2
          go_roundw
          case rel => exact ⟨i + 1, by omega, by go_num, hf⟩
          case measure => simp [intOf]; omega
        · obtain rfl : i = n := by omega
          have e1 : ¬ (i : Int) < i := by omega
          go_wp2_with fail
          refine (opParts_any q _).mono ?_
          rintro e w6 ⟨rfl, hb6⟩
          have HT6 : Hid (TK w r q g Yv c k (opXs c i) (fun _ => .slice none 0 0) (opYs c i 0) (opRdP c i 0).1 (opRdP c i 0).2 w6) := HP.out.below hb6
          clear hb6 e1
          go_wp2_with fail
          go_loopw [46, 10, 11] (fun vi v10 v11 wr => ∃ j : Nat, j ≤ 3 ∧ vi = .int .i64 j ∧ Hid (∃ Y, TK w r q g Yv c k (opXs c i) Y (opYs c i (min j m)) (opRdP c i (min j m)).1 (opRdP c i (min j m)).2 wr)) (fun vi _ _ _ => 3 - (intOf vi).toNat)
          case atStart => exact ⟨0, by omega, rfl, by rw [Nat.zero_min]; exact ⟨_, HT6.out⟩⟩
          case round =>
            obtain ⟨j, hj, rfl, HQ7⟩ := hrel
            by_cases hlt : j < 3
            · have e2 : (j : Int) < 3 := by omega
              have hidx : ∀ V : World, (Instr.index 100 (.agg #[.pointer (some ⟨q, 4, none⟩), .pointer (some ⟨q, 5, none⟩), .pointer (some ⟨q, 6, none⟩)]) (.int .i64 (j : Int))).run Try.prog V = .ok (.pointer (some ⟨q, 4 + j, none⟩)) V := fun V => by
                have h3 : j = 0 ∨ j = 1 ∨ j = 2 := by omega
                rcases h3 with rfl | rfl | rfl
                · (show _ = _; kernel_rfl)
                · (show _ = _; kernel_rfl)
                · (show _ = _; kernel_rfl)
              by_cases hjm : j < m
              · have e3 : (j : Int) < m := by omega
                have hmin : min j m = j := by omega
                have hmin1 : min (j + 1) m = j + 1 := by omega
                rw [hmin] at HQ7
                obtain ⟨Y, hT⟩ := HQ7.out
                have HTT := Lib.hid hT
                have CN : Hid (Calls Try.prog 74 #[.pointer (some ⟨g, 0, none⟩), .int .i64 1048576] wr (BytesPost 1048576 g Yv c (opRdP c i j).1 (opRdP c i j).2 wr)) := rbytes_rd 1048576 g Yv c _ _ wr hT.rd (by have := HCL.out; omega)
                unfold BytesPost at CN
                have hws : w.heap.size ≤ wr.heap.size := hT.bel.size
                have HWS := Lib.hid hws
                have HM1 := Lib.hid hmin1
                clear hT hmin hmin1 hws
                go_wp2_with fail
                refine CN.out.mono ?_
                rintro e w8 ⟨v8, rfl, ho8, hrd8, hon8⟩
                have hT8 := HTT.out.read hrd8 hon8
                have HT8 := Lib.hid hT8
                have HO8 : Hid (Ob w8 w.heap.size 5 v8 (opValP c i j)) := ho8.lower HWS.out
                obtain ⟨a8, n8, hs8⟩ := ho8.shape
                have fz := row_free hT8.row (4 + j)
                obtain ⟨z, hz⟩ : ∃ z, w8.cell? ⟨q, 4 + j, none⟩ = some z := by
                  have h3 : j = 0 ∨ j = 1 ∨ j = 2 := by omega
                  rcases h3 with rfl | rfl | rfl
                  · exact ⟨_, cell_of_row w8 _ _ _ _ _ hT8.row⟩
                  · exact ⟨_, cell_of_row w8 _ _ _ _ _ hT8.row⟩
                  · exact ⟨_, cell_of_row w8 _ _ _ _ _ hT8.row⟩
                have hf : Hid (∃ Y, TK w r q g Yv c k (opXs c i) Y (opYs c i (min (j + 1) m)) (opRdP c i (min (j + 1) m)).1 (opRdP c i (min (j + 1) m)).2 (w8.setCell ⟨q, 4 + j, none⟩ v8)) := by
                  have := HT8.out.part j hlt v8 _ HO8.out
                  rw [opYs_set] at this
                  rw [HM1.out]
                  exact ⟨_, this⟩
                obtain ⟨L8, hL8⟩ : ∃ l, ((rbytes 1048576 c (opRdP c i j).1 (opRdP c i j).2).1).length = l := ⟨_, rfl⟩
                rw [hL8] at hs8
                subst hs8
                clear hrd8 hon8 ho8 hT8 hL8
                go_wp2
                go_roundw
                case rel => exact ⟨j + 1, by omega, by go_num, hf⟩
                case measure => simp [intOf]; omega
              · have e3 : ¬ (j : Int) < m := by omega
                have hf : Hid (∃ Y, TK w r q g Yv c k (opXs c i) Y (opYs c i (min (j + 1) m)) (opRdP c i (min (j + 1) m)).1 (opRdP c i (min (j + 1) m)).2 wr) := by
                  rw [show min (j + 1) m = min j m by omega]
                  exact HQ7
                go_wp2
                go_roundw
                case rel => exact ⟨j + 1, by omega, by go_num, hf⟩
                case measure => simp [intOf]; omega
            · obtain rfl : j = 3 := by omega
              have e2 : ¬ (((3 : Nat) : Int) < 3) := by decide
              rw [show min 3 m = m by omega] at HQ7
              obtain ⟨Y, hT⟩ := HQ7.out
              have CD := Lib.hid (rdone_any g Yv c _ _ wr hT.rd)
              rw [show rdone c (opRdP c i m).1 (opRdP c i m).2 = opDone c i m from rfl] at CD
              have HTT := Lib.hid hT
              obtain ⟨d, hd⟩ : ∃ d, opDone c i m = d := ⟨_, rfl⟩
              rw [hd] at CD
              have HD := Lib.hid hd
              clear hT hd
              go_wp2_with fail
              refine CD.out.mono ?_
              rintro e w9 ⟨rfl, hb9⟩
              have HT9 := Lib.hid (HTT.out.below hb9)
              clear hb9
              have hrw : w9.heap[w.heap.size]? = some (.cells #[.int .i64 0, .int .i64 0, .int .i64 0, .int .i64 0, .slice none 0 0, .slice none 0 0, .slice none 0 0] 44 (0, 0)) := by rw [HRR.out]; exact HT9.out.res
              have HRW := Lib.hid hrw
              obtain ⟨c0, c1, c2, c3, c4, c5, c6⟩ := op_cellsV hrw
              obtain ⟨f0, f1, f2, f3, f4, f5, f6⟩ := op_frees hrw
              by_cases hd0 : d = 0
              · have hOT := HOT2.out (by simp) (by rw [HD.out]; exact hd0)
                have HOT := Lib.hid hOT
                have hq9 := HT9.out.row
                have o0 := HT9.out.own 0 (by omega)
                have o1 := HT9.out.own 1 (by omega)
                have o2 := HT9.out.own 2 (by omega)
                obtain ⟨ya, hya⟩ : ∃ v, Y 0 = v := ⟨_, rfl⟩
                obtain ⟨yb, hyb⟩ : ∃ v, Y 1 = v := ⟨_, rfl⟩
                obtain ⟨yc, hyc⟩ : ∃ v, Y 2 = v := ⟨_, rfl⟩
                obtain ⟨x0, hx0⟩ : ∃ v, opXs c i 0 = v := ⟨_, rfl⟩
                obtain ⟨x1, hx1⟩ : ∃ v, opXs c i 1 = v := ⟨_, rfl⟩
                obtain ⟨x2, hx2⟩ : ∃ v, opXs c i 2 = v := ⟨_, rfl⟩
                rw [hya, hyb, hyc, hx0, hx1, hx2] at hq9
                rw [hya] at o0
                rw [hyb] at o1
                rw [hyc] at o2
                have HXS : Hid (opOf k c i m = ⟨k, x0, x1, x2, opYs c i m 0, opYs c i m 1, opYs c i m 2⟩) := by show _ = _; unfold opOf; rw [hx0, hx1, hx2]
                have HO0 := Lib.hid o0
                have HO1 := Lib.hid o1
                have HO2 := Lib.hid o2
                obtain ⟨a0, n0, hs0⟩ := o0.shape
                obtain ⟨a1, n1, hs1⟩ := o1.shape
                obtain ⟨a2, n2, hs2⟩ := o2.shape
                obtain ⟨l0, hl0⟩ : ∃ l, (opYs c i m 0).length = l := ⟨_, rfl⟩
                obtain ⟨l1, hl1⟩ : ∃ l, (opYs c i m 1).length = l := ⟨_, rfl⟩
                obtain ⟨l2, hl2⟩ : ∃ l, (opYs c i m 2).length = l := ⟨_, rfl⟩
                rw [hl0] at hs0
                rw [hl1] at hs1
                rw [hl2] at hs2
                clear hya hyb hyc hx0 hx1 hx2 o0 o1 o2 hl0 hl1 hl2
                subst hs0 hs1 hs2
                obtain ⟨e0', e1', e2', e3', e4', e5', e6'⟩ := op_cellsV hq9
                obtain ⟨hz1, hz2⟩ := op_chain hrw (.int .i64 k) (.int .i64 x0) (.int .i64 x1) (.int .i64 x2) (.slice a0 l0 n0) (.slice a1 l1 n1) (.slice a2 l2 n2)
                have hZb : Below w.heap.size w (opChain w9 w.heap.size (.int .i64 k) (.int .i64 x0) (.int .i64 x1) (.int .i64 x2) (.slice a0 l0 n0) (.slice a1 l1 n1) (.slice a2 l2 n2)) := HT9.out.bel.trans (hz2.below (fun x hx => by omega) HT9.out.bel.size)
                have HZ1 := Lib.hid hz1
                have HZ2 := Lib.hid hz2
                have HZb := Lib.hid hZb
                subst hd0
                clear hz1 hz2 hZb hOT hrw hq9
                go_wp2
                obtain ⟨Z, hZ⟩ : ∃ Z, opChain w9 w.heap.size (.int .i64 k) (.int .i64 x0) (.int .i64 x1) (.int .i64 x2) (.slice a0 l0 n0) (.slice a1 l1 n1) (.slice a2 l2 n2) = Z := ⟨_, rfl⟩
                rw [hZ] at HZ1 HZb HZ2
                unfold opChain at hZ
                rw [hZ]
                obtain ⟨d0, d1, d2, d3, d4, d5, d6⟩ := op_cellsV HZ1.out
                have hne : ∀ (v : Value) (l : List UInt8), Ob w9 w.heap.size 5 v l → Bs Z v l := fun v l ho => (ho.only HZ2.out fun x hx e => ho.ne HRW.out (by decide) (by rw [hx, e])).bs
                refine bodyPost_ret (v := .tuple #[(opOf k c i m).agg (.slice a0 l0 n0) (.slice a1 l1 n1) (.slice a2 l2 n2), .int .i64 0]) ?_ rfl ⟨.slice a0 l0 n0, .slice a1 l1 n1, .slice a2 l2 n2, by rw [HOT.out]; rfl, by rw [HOT.out]; exact ⟨hne _ _ HO0.out, hne _ _ HO1.out, hne _ _ HO2.out⟩, HZb.out⟩
                rw [HXS.out]
                simp [results, Try.results33, go_sem, d0, d1, d2, d3, d4, d5, d6, OpD.agg]
              · have hdn : ((d : Int) != 0) = true := by simp; omega
                have hOT := HOT3.out (by simp) (by rw [HD.out]; exact hd0)
                rw [HD.out] at hOT
                have HOT := Lib.hid hOT
                obtain ⟨hz1, hz2⟩ := op_chain hrw (.int .i64 0) (.int .i64 0) (.int .i64 0) (.int .i64 0) (.slice none 0 0) (.slice none 0 0) (.slice none 0 0)
                have hZb : Below w.heap.size w (opChain w9 w.heap.size (.int .i64 0) (.int .i64 0) (.int .i64 0) (.int .i64 0) (.slice none 0 0) (.slice none 0 0) (.slice none 0 0)) := HT9.out.bel.trans (hz2.below (fun x hx => by omega) HT9.out.bel.size)
                have HZ1 := Lib.hid hz1
                have HZb := Lib.hid hZb
                clear hz1 hz2 hZb hd0 hOT hrw
                go_wp2
                obtain ⟨Z, hZ⟩ : ∃ Z, opChain w9 w.heap.size (.int .i64 0) (.int .i64 0) (.int .i64 0) (.int .i64 0) (.slice none 0 0) (.slice none 0 0) (.slice none 0 0) = Z := ⟨_, rfl⟩
                rw [hZ] at HZ1 HZb
                unfold opChain at hZ
                rw [hZ]
                obtain ⟨d0, d1, d2, d3, d4, d5, d6⟩ := op_cellsV HZ1.out
                refine bodyPost_ret (v := .tuple #[opZero.agg (.slice none 0 0) (.slice none 0 0) (.slice none 0 0), .int .i64 (d : Int)]) ?_ rfl ⟨.slice none 0 0, .slice none 0 0, .slice none 0 0, by rw [HOT.out], by rw [HOT.out]; exact ⟨Rd.nil _ _, Rd.nil _ _, Rd.nil _ _⟩, HZb.out⟩
                simp [results, Try.results33, go_sem, d0, d1, d2, d3, d4, d5, d6, OpD.agg, opZero]


end Go.Proofs.Yticpmkdlnjnfgaa
