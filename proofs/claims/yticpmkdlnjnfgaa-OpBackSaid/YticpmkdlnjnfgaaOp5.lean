/- Layer 38 (op): Put. -/
import Derived.Test.YticpmkdlnjnfgaaOp4
import Derived.Test.YticpmkdlnjnfgaaWriter
set_option linter.unusedSimpArgs false
namespace Go.Proofs.Yticpmkdlnjnfgaa
open Go.RowKit

theorem ou8_int (n : Int) : ((UInt8.ofNat (n % 256).toNat).toNat : Int) = n % 256 := by
  rw [UInt8.toNat_ofNat']
  omega

theorem numsOk_at {o : OpD} (h : numsOk o 3 = true) : ∀ i, i < 3 → 0 ≤ o.num i ∧ o.num i ≤ 4611686018427387904 := by
  intro i hi
  unfold numsOk at h
  rw [List.all_eq_true] at h
  have := h i (by simpa using hi)
  unfold numOk at this
  simp at this
  omega
theorem partsOk_at {o : OpD} (h : partsOk o 3 = true) : ∀ i, i < 3 → (o.part i).length ≤ 1048576 := by
  intro i hi
  unfold partsOk at h
  rw [List.all_eq_true] at h
  have := h i (by simpa using hi)
  unfold partOk at this
  simp at this
  omega
theorem opRight_parts {o : OpD} (h : opRight o = true) : opIs o.k = true ∧ numsOk o 3 = true ∧ partsOk o 3 = true := by
  unfold opRight at h
  simp at h
  exact h
theorem opNums_len (o : OpD) (h : numsOk o 3 = true) : ∀ i, i ≤ 3 → (opNums o i).length ≤ 10 * i
  | 0, _ => by simp [opNums]
  | i + 1, hi => by
    have h1 := opNums_len o h i (by omega)
    have h2 := numsOk_at h i (by omega)
    have h3 := vput_len10 (o.num i).toNat (by omega)
    simp only [opNums, List.length_append]
    omega
theorem opParts_len (o : OpD) (h : partsOk o 3 = true) : ∀ i, i ≤ 3 → (opParts o i).length ≤ 1048590 * i
  | 0, _ => by simp [opParts]
  | i + 1, hi => by
    have h1 := opParts_len o h i (by omega)
    have h2 := partsOk_at h i (by omega)
    have h3 := vput_len10 (o.part i).length (by omega)
    simp only [opParts, List.length_append]
    omega

def opHead (o : OpD) : List UInt8 := [UInt8.ofNat (o.k % 256).toNat]
/-- a writer at work -/
def PutL (W4 : World) (B g : Nat) (l : List UInt8) (wr : World) : Prop := ∃ v, Wr wr B g v l ∧ Below B W4 wr ∧ l.length ≤ 35184372088832
theorem PutL.step {W4 wr w' : World} {B g : Nat} {v : Value} {l m : List UInt8} (h : Wr wr B g v l) (hb : Below B W4 wr) (hB : B ≤ wr.heap.size) (hp : ∃ v', Wrote wr B g v l m v' w') (hl : (l ++ m).length ≤ 35184372088832) : PutL W4 B g (l ++ m) w' := by
  obtain ⟨v', hw⟩ := hp
  exact ⟨v', hw.wr, hb.trans (hw.bel h hB), hl⟩

def OpPutPost (o : OpD) (w : World) (e : Ending) (w' : World) : Prop :=
  if opRight o then ∃ v, e = .returned (.tuple #[v, .int .i64 0]) ∧ Bs w' v (opBytes o) ∧ Below w.heap.size w w'
  else e = .returned (.tuple #[.slice none 0 0, .int .i64 2]) ∧ Below w.heap.size w w'

set_option maxRecDepth 100000 in
set_option maxHeartbeats 1600000 in
theorem opPut_any (o : OpD) (va vb vc : Value) (w : World) (ha : Bs w va o.a) (hb : Bs w vb o.b) (hc : Bs w vc o.c) :
    Calls Try.prog 31 #[o.agg va vb vc] w (OpPutPost o w) := by
  obtain ⟨q, hq⟩ : ∃ q, w.heap.size = q := ⟨_, rfl⟩
  obtain ⟨W, hW⟩ : ∃ W, w.alloc (.cells (o.row va vb vc) 44) = W := ⟨_, rfl⟩
  have hr : W.heap[q]? = some (.cells (o.row va vb vc) 44 (0, 0)) := by rw [← hW, ← hq]; exact heap_alloc_new _ _
  have hB : Below w.heap.size w W := by rw [← hW]; exact (Below.refl _ _).alloc (Nat.le_refl _) _
  have CR := Lib.hid (opRight_any o va vb vc W (ha.below hB) (hb.below hB) (hc.below hB))
  have HA := Lib.hid ha
  have HBb := Lib.hid hb
  have HCc := Lib.hid hc
  obtain ⟨pa, ca, rfl⟩ := ha.shape
  obtain ⟨pb, cb, rfl⟩ := hb.shape
  obtain ⟨pc, cc, rfl⟩ := hc.shape
  obtain ⟨na, hna⟩ : ∃ n, o.a.length = n := ⟨_, rfl⟩
  obtain ⟨nb, hnb⟩ : ∃ n, o.b.length = n := ⟨_, rfl⟩
  obtain ⟨nc, hnc⟩ : ∃ n, o.c.length = n := ⟨_, rfl⟩
  rw [hna, hnb, hnc] at hr hW CR ⊢
  rw [hna] at HA
  rw [hnb] at HBb
  rw [hnc] at HCc
  clear hna hnb hnc ha hb hc
  unfold OpPutPost
  obtain ⟨R, hR⟩ : ∃ R, opRight o = R := ⟨_, rfl⟩
  rw [hR] at CR ⊢
  have HRR := Lib.hid hR
  clear hR
  cases R with
  | false =>
    simp only [Bool.false_eq_true, if_false]
    have HW := Lib.hid hW
    have HR := Lib.hid hr
    have HB := Lib.hid hB
    have HQ := Lib.hid hq
    obtain ⟨k, x0, x1, x2, a, b, c⟩ := o
    unfold OpD.agg at CR ⊢
    unfold OpD.row at HR HW
    simp only at CR HR HW HRR ⊢
    obtain ⟨s0, s1, s2, s3, s4, s5, s6⟩ := op_cells HR.out
    clear hW hr hB hq HA HBb HCc
    go_enter Try.func31, Try.ntmps31
    go_wp2_with fail
    rw [HW.out, HQ.out]
    go_wp2_with fail
    refine CR.out.mono ?_
    rintro e w4 ⟨rfl, hb4⟩
    have HB4 := Lib.hid (HB.out.trans (hb4.mono HB.out.size))
    clear hb4 s0 s1 s2 s3 s4 s5 s6
    go_wp2
    go_ret2
    exact ⟨rfl, HB4.out⟩
  | true =>
    simp only [if_true]
    obtain ⟨his, hns, hps⟩ := opRight_parts HRR.out
    have HNS := Lib.hid hns
    have HPS := Lib.hid hps
    have HW := Lib.hid hW
    have HR := Lib.hid hr
    have HB := Lib.hid hB
    have HQ := Lib.hid hq
    have CSH := Lib.hid (fun V : World => opShape_any o.k V)
    have HNA := Lib.hid (numsOk_at hns)
    have HPA := Lib.hid (partsOk_at hps)
    have HNL := Lib.hid (opNums_len o hns)
    have HPL := Lib.hid (opParts_len o hps)
    have HBY : Hid (opBytes o = opHead o ++ (opNums o (opN o.k) ++ opParts o (opK o.k))) := rfl
    have HHD : Hid ((opHead o).length = 1 ∧ opHead o = [UInt8.ofNat (o.k % 256).toNat]) := ⟨rfl, rfl⟩
    have HN1 : Hid (opNums o 0 = [] ∧ ∀ i, opNums o (i + 1) = opNums o i ++ vput (o.num i).toNat) := ⟨rfl, fun _ => rfl⟩
    have HP1 : Hid (opParts o 0 = [] ∧ ∀ i, opParts o (i + 1) = opParts o i ++ (vput (o.part i).length ++ o.part i)) := ⟨rfl, fun _ => rfl⟩
    have HNU : Hid (o.num 0 = o.x0 ∧ o.num 1 = o.x1 ∧ o.num 2 = o.x2) := ⟨rfl, rfl, rfl⟩
    have HPV : Hid (∀ i : Nat, i < 3 → ∃ Y, (∀ V, OpCells V q o.k o.x0 o.x1 o.x2 pa pb pc na nb nc ca cb cc → V.cell? ⟨q, 4 + i, none⟩ = some Y) ∧ Bs w Y (o.part i)) := fun i hi => by
      have h3 : i = 0 ∨ i = 1 ∨ i = 2 := by omega
      rcases h3 with rfl | rfl | rfl
      · exact ⟨_, fun V h => h.2.2.2.2.1, HA.out⟩
      · exact ⟨_, fun V h => h.2.2.2.2.2.1, HBb.out⟩
      · exact ⟨_, fun V h => h.2.2.2.2.2.2, HCc.out⟩
    have HXV : Hid (∀ i : Nat, i < 3 → ∀ V, OpCells V q o.k o.x0 o.x1 o.x2 pa pb pc na nb nc ca cb cc → V.cell? ⟨q, 1 + i, none⟩ = some (.int .i64 (o.num i))) := fun i hi V h => by
      have h3 : i = 0 ∨ i = 1 ∨ i = 2 := by omega
      rcases h3 with rfl | rfl | rfl
      · exact h.2.1
      · exact h.2.2.1
      · exact h.2.2.2.1
    have hn3 := opN_le o.k
    have hm3 := opK_le o.k
    obtain ⟨n, hn⟩ : ∃ n, opN o.k = n := ⟨_, rfl⟩
    obtain ⟨m, hm⟩ : ∃ n, opK o.k = n := ⟨_, rfl⟩
    obtain ⟨is, his'⟩ : ∃ n, opIs o.k = n := ⟨_, rfl⟩
    rw [hn] at CSH HBY hn3
    rw [hm] at CSH HBY hm3
    rw [his'] at CSH
    obtain ⟨num, hnum⟩ : ∃ f, o.num = f := ⟨_, rfl⟩
    obtain ⟨part, hpart⟩ : ∃ f, o.part = f := ⟨_, rfl⟩
    obtain ⟨nums, hnums⟩ : ∃ f, opNums o = f := ⟨_, rfl⟩
    obtain ⟨pts, hpts⟩ : ∃ f, opParts o = f := ⟨_, rfl⟩
    obtain ⟨hd, hhd⟩ : ∃ f, opHead o = f := ⟨_, rfl⟩
    obtain ⟨all, hall⟩ : ∃ f, opBytes o = f := ⟨_, rfl⟩
    rw [hnum] at HNA HN1 HNU HXV
    rw [hpart] at HPA HP1 HPV
    rw [hnums] at HNL HN1 HBY
    rw [hpts] at HPL HP1 HBY
    rw [hhd] at HBY HHD
    rw [hall] at HBY ⊢
    clear hn hm his' hnum hpart hnums hpts hhd hall his hns hps HNS HPS HRR HA HBb HCc
    obtain ⟨k, x0, x1, x2, a, b, c⟩ := o
    unfold OpD.agg at CR ⊢
    unfold OpD.row at HR HW
    simp only at CR HR HW CSH HHD HPV HXV HNU ⊢
    have hnn : ∀ i, i < n → 0 ≤ num i ∧ num i ≤ 4611686018427387904 := fun i hi => HNA.out i (by omega)
    obtain ⟨s0, s1, s2, s3, s4, s5, s6⟩ := op_cells HR.out
    clear hW hr hB hq
    go_enter Try.func31, Try.ntmps31
    go_wp2_with fail
    rw [HW.out, HQ.out]
    go_wp2_with fail
    refine CR.out.mono ?_
    rintro e w4 ⟨rfl, hb4⟩
    have HB4 := Lib.hid (HB.out.trans (hb4.mono HB.out.size))
    have hr4 := (hb4.block q (heap_lt HR.out)).trans HR.out
    have HR4 := Lib.hid hr4
    clear hb4 s0 s1 s2 s3 s4 s5 s6
    obtain ⟨s0, s1, s2, s3, s4, s5, s6⟩ := op_cells hr4
    go_wp2_with fail
    refine (CSH.out w4).mono ?_
    rintro e w5 ⟨rfl, rfl⟩
    obtain ⟨w4, hw4⟩ : ∃ V, V = w5 := ⟨_, rfl⟩
    subst hw4
    obtain ⟨W5, hW5⟩ : ∃ V, w4.alloc (.cells #[.slice none 0 0] 81) = V := ⟨_, rfl⟩
    have hwr0 : Wr W5 w4.heap.size w4.heap.size (.slice none 0 0) [] := ⟨Nat.le_refl _, by rw [← hW5]; exact heap_alloc_new _ _, Ob.nil _ _ _⟩
    have hb5 : Below w4.heap.size w4 W5 := by rw [← hW5]; exact (Below.refl _ _).alloc (Nat.le_refl _) _
    have HWR0 := Lib.hid hwr0
    have HW5 := Lib.hid hW5
    have HB5 := Lib.hid hb5
    have hq4 := heap_lt hr4
    have CB := Lib.hid (wByte_any (UInt8.ofNat (k % 256).toNat) (k % 256) (ou8_int k).symm w4.heap.size (.slice none 0 0) [] w4.heap.size W5 hwr0 hb5.size (by simp))
    clear hwr0 hb5 hW5 hr4
    go_wp2_with fail
    rw [HW5.out]
    refine CB.out.mono ?_
    rintro e w6 ⟨rfl, hp6⟩
    have hL6 : PutL w4 w4.heap.size w4.heap.size hd w6 := by
      have := PutL.step HWR0.out HB5.out HB5.out.size hp6 (by simp)
      rw [HHD.out.2]
      simpa using this
    have HL6 := Lib.hid hL6
    have HKQ : Hid (∀ V, Below w4.heap.size w4 V → OpCells V q k x0 x1 x2 pa pb pc na nb nc ca cb cc) := fun V hV => op_cells ((hV.block q hq4).trans HR4.out)
    have hB6 : Below w4.heap.size w4 w6 := by obtain ⟨_, _, h, _⟩ := hL6; exact h
    obtain ⟨s0, s1, s2, s3, s4, s5, s6⟩ := HKQ.out w6 hB6
    have hsl : ∀ V : World, (Instr.sliceAt 42 (.pointer (some ⟨q, 1, none⟩)) none (some (.int .i64 (n : Int))) none).run Try.prog V = .ok (.slice (some ⟨q, 1, none⟩) n 3) V := fun V => by
      have h3 : n = 0 ∨ n = 1 ∨ n = 2 ∨ n = 3 := by omega
      rcases h3 with rfl | rfl | rfl | rfl
      · (show _ = _; kernel_rfl)
      · (show _ = _; kernel_rfl)
      · (show _ = _; kernel_rfl)
      · (show _ = _; kernel_rfl)
    clear hL6 hp6 CB hB6
    obtain ⟨B, hBB⟩ : ∃ B, w4.heap.size = B := ⟨_, rfl⟩
    rw [hBB] at HL6 HKQ
    have HBB := Lib.hid hBB
    go_wp2_with fail
    clear hBB
    go_loopw [33, 9] (fun vi v9 wr => ∃ i : Nat, i ≤ n ∧ vi = .int .i64 i ∧ Hid (PutL w4 B B (hd ++ nums i) wr)) (fun vi _ _ => n - (intOf vi).toNat)
    case atStart => exact ⟨0, by omega, rfl, by rw [HN1.out.1, List.append_nil]; exact HL6⟩
    case round =>
      obtain ⟨i, hi, rfl, HP⟩ := hrel
      clear s0 s1 s2 s3 s4 s5 s6
      by_cases hlt : i < n
      · have e1 : (i : Int) < n := by omega
        obtain ⟨v, hw, hbw, hlw⟩ := HP.out
        have hx := HXV.out i (by omega) wr (HKQ.out wr hbw)
        have hnb := hnn i hlt
        obtain ⟨xi, hxi⟩ : ∃ x, num i = x := ⟨_, rfl⟩
        have hst := HN1.out.2 i
        rw [hxi] at hx hnb hst
        have hix : ∀ V : World, (Instr.indexAt 98 (.slice (some ⟨q, 1, none⟩) n 3) (.int .i64 (i : Int))).run Try.prog V = .ok (.pointer (some ⟨q, 1 + i, none⟩)) V := fun V => by
          have hT := Try.underlying98
          have hel : Try.prog.elem 98 = 3 := by simp [Program.elem, hT]
          rw [run_indexAt_slice V 98 _ n 3 .i64 i (by rw [hel]; exact hT), if_pos ⟨by omega, by omega⟩, hel, elOI.sizeOf]
          simp [Result.andThen, Addr.add_lit]
        have hnl := HNL.out (i + 1) (by omega)
        rw [hst] at hnl
        have hbs : B ≤ wr.heap.size := by have := hbw.size; have := HBB.out; omega
        have CN := Lib.hid (wNumber_any xi (by omega) (by omega) B v _ B wr hw hbs (by omega))
        have hstep : ∀ W', (∃ v', Wrote wr B B v (hd ++ nums i) (vput xi.toNat) v' W') → Hid (PutL w4 B B (hd ++ nums (i + 1)) W') := fun W' h => by
          have hl := HHD.out.1
          have := PutL.step hw hbw hbs h (by simp only [List.length_append] at hnl ⊢; omega)
          rw [List.append_assoc, ← hst] at this
          exact this
        have HST := Lib.hid hstep
        clear hstep hw hbw hlw hst hnl hxi hbs
        go_wp2_with fail
        refine CN.out.mono ?_
        rintro e w7 ⟨rfl, hp7⟩
        have hf := HST.out _ hp7
        clear hp7
        go_wp2
        go_roundw
        case rel => exact ⟨i + 1, by omega, by go_num, hf⟩
        case measure => simp [intOf]; omega
      · obtain rfl : i = n := by omega
        obtain ⟨v, hw, hbw, hlw⟩ := HP.out
        have e1 : ¬ (i : Int) < i := by omega
        clear hw hlw
        go_wp2_with fail
        refine (opParts_any q _).mono ?_
        rintro e w7 ⟨rfl, hb7⟩
        have hL7 : Hid (PutL w4 B B (hd ++ nums i) w7) := by
          obtain ⟨v, hw, hbw, hlw⟩ := HP.out
          exact ⟨v, hw.below hb7, hbw.trans (hb7.mono (by have := hbw.size; have := HBB.out; omega)), hlw⟩
        clear hb7 hbw e1
        go_wp2_with fail
        go_loopw [42, 10, 11] (fun vi v10 v11 wr => ∃ j : Nat, j ≤ 3 ∧ vi = .int .i64 j ∧ Hid (PutL w4 B B ((hd ++ nums i) ++ pts (min j m)) wr)) (fun vi _ _ _ => 3 - (intOf vi).toNat)
        case atStart => exact ⟨0, by omega, rfl, by rw [Nat.zero_min, HP1.out.1, List.append_nil]; exact hL7⟩
        case round =>
          obtain ⟨j, hj, rfl, HQ7⟩ := hrel
          by_cases hlt : j < 3
          · have e2 : (j : Int) < 3 := by omega
            have hidx : ∀ V : World, (Instr.index 100 (.agg #[.pointer (some ⟨q, 4, none⟩), .pointer (some ⟨q, 5, none⟩), .pointer (some ⟨q, 6, none⟩)]) (.int .i64 (j : Int))).run Try.prog V = .ok (.pointer (some ⟨q, 4 + j, none⟩)) V := fun V => by
              have h3 : j = 0 ∨ j = 1 ∨ j = 2 := by omega
              rcases h3 with rfl | rfl | rfl
              · (show _ = _; kernel_rfl)
              · (show _ = _; kernel_rfl)
              · (show _ = _; kernel_rfl)
            by_cases hjm : j < m
            · have e3 : (j : Int) < m := by omega
              obtain ⟨v, hw, hbw, hlw⟩ := HQ7.out
              rw [show min j m = j by omega] at hw hlw
              obtain ⟨Y, hY1, hY2⟩ := HPV.out j hlt
              have hy := hY1 wr (HKQ.out wr hbw)
              have hst := HP1.out.2 j
              have hpl := HPL.out (j + 1) (by omega)
              have hnl := HNL.out i (by omega)
              have hl := HHD.out.1
              have hpa := HPA.out j hlt
              rw [hst] at hpl
              have hBs : B ≤ wr.heap.size := by have := hbw.size; have := HBB.out; omega
              have hB4 : w.heap.size ≤ B := by have := HB4.out.size; have := HBB.out; omega
              have hbww := HB4.out.trans (hbw.mono hB4)
              have CN := Lib.hid (wBytes_any Y (part j) B v _ B wr hw (hY2.below hbww) (fun hne x hx hs => by
                have h1 := hY2.lt hne x hx
                have h2 := (hw.foot x hs).1
                omega) hBs (by simp only [List.length_append] at hpl ⊢; omega) (by omega))
              have hstep : ∀ W', (∃ v', Wrote wr B B v ((hd ++ nums i) ++ pts j) (vput (part j).length ++ part j) v' W') → Hid (PutL w4 B B ((hd ++ nums i) ++ pts (min (j + 1) m)) W') := fun W' h => by
                have := PutL.step hw hbw hBs h (by simp only [List.length_append] at hpl ⊢; omega)
                rw [List.append_assoc, ← hst] at this
                rw [show min (j + 1) m = j + 1 by omega]
                exact this
              have HST := Lib.hid hstep
              obtain ⟨pl, hpl'⟩ : ∃ x, part j = x := ⟨_, rfl⟩
              clear hstep hw hbw hlw hst hpl hnl hl hpa hBs hB4 hbww hY1 hY2
              go_wp2_with fail
              refine CN.out.mono ?_
              rintro e w8 ⟨rfl, hp8⟩
              have hf := HST.out _ hp8
              clear hp8
              go_wp2
              go_roundw
              case rel => exact ⟨j + 1, by omega, by go_num, hf⟩
              case measure => simp [intOf]; omega
            · have e3 : ¬ (j : Int) < m := by omega
              have hf : Hid (PutL w4 B B ((hd ++ nums i) ++ pts (min (j + 1) m)) wr) := by
                rw [show min (j + 1) m = min j m by omega]
                exact HQ7
              go_wp2
              go_roundw
              case rel => exact ⟨j + 1, by omega, by go_num, hf⟩
              case measure => simp [intOf]; omega
          · obtain rfl : j = 3 := by omega
            have e2 : ¬ (((3 : Nat) : Int) < 3) := by decide
            obtain ⟨v, hw, hbw, hlw⟩ := HQ7.out
            have hBs : w.heap.size ≤ B := by have := HB4.out.size; have := HBB.out; omega
            have HBW := Lib.hid (HB4.out.trans (hbw.mono hBs))
            have CO := Lib.hid (wOut_any B v _ B wr hw (by omega))
            rw [show min 3 m = m by omega, List.append_assoc, ← HBY.out] at CO
            clear hw hbw hlw hBs
            go_wp2_with fail
            refine CO.out.mono ?_
            rintro e w9 ⟨v9, rfl, ho9, hb9⟩
            have HO9 := Lib.hid ho9.bs
            have HB9 := Lib.hid (HBW.out.trans (hb9.mono HBW.out.size))
            clear ho9 hb9
            go_wp2
            go_ret2
            exact ⟨_, rfl, HO9.out, HB9.out⟩

end Go.Proofs.Yticpmkdlnjnfgaa
