/- Layer 38 (op): the reference's Put. -/
import Derived.Test.YticpmkdlnjnfgaaOp5
import Derived.Test.YticpmkdlnjnfgaaRfield
set_option linter.unusedSimpArgs false
namespace Go.Proofs.Yticpmkdlnjnfgaa
open Go.RowKit

set_option maxRecDepth 100000 in
set_option maxHeartbeats 1600000 in
theorem ropPut_any (o : OpD) (va vb vc : Value) (w : World) (ha : Bs w va o.a) (hb : Bs w vb o.b) (hc : Bs w vc o.c) (hok : opRight o = true) :
    Calls Try.prog 32 #[o.agg va vb vc] w fun e w' => ∃ v, e = .returned v ∧ Bs w' v (opBytes o) ∧ Below w.heap.size w w' := by
  obtain ⟨q, hq⟩ : ∃ q, w.heap.size = q := ⟨_, rfl⟩
  obtain ⟨W, hW⟩ : ∃ W, w.alloc (.cells (o.row va vb vc) 44) = W := ⟨_, rfl⟩
  have hr : W.heap[q]? = some (.cells (o.row va vb vc) 44 (0, 0)) := by rw [← hW, ← hq]; exact heap_alloc_new _ _
  have hB : Below w.heap.size w W := by rw [← hW]; exact (Below.refl _ _).alloc (Nat.le_refl _) _
  have HA := Lib.hid ha
  have HBb := Lib.hid hb
  have HCc := Lib.hid hc
  obtain ⟨pa, ca, rfl⟩ := ha.shape
  obtain ⟨pb, cb, rfl⟩ := hb.shape
  obtain ⟨pc, cc, rfl⟩ := hc.shape
  obtain ⟨na, hna⟩ : ∃ n, o.a.length = n := ⟨_, rfl⟩
  obtain ⟨nb, hnb⟩ : ∃ n, o.b.length = n := ⟨_, rfl⟩
  obtain ⟨nc, hnc⟩ : ∃ n, o.c.length = n := ⟨_, rfl⟩
  rw [hna, hnb, hnc] at hr hW ⊢
  rw [hna] at HA
  rw [hnb] at HBb
  rw [hnc] at HCc
  clear hna hnb hnc ha hb hc
  obtain ⟨his, hns, hps⟩ := opRight_parts hok
  have HPAR : Hid (∀ i : Nat, i < 3 → ∀ V : World, Below w.heap.size w V → Calls Try.prog 69 #[o.agg (.slice pa na ca) (.slice pb nb cb) (.slice pc nc cc), .int .i64 (i : Int)] V fun e w' => ∃ p n c, e = .returned (.slice p n c) ∧ Bs w' (.slice p n c) (o.part i) ∧ Hid (Below V.heap.size V w')) := fun i hi V hV => by
    refine (ropPart_any o _ _ _ i hi V).mono ?_
    rintro e w' ⟨rfl, hb⟩
    have hb' := hV.trans (hb.mono hV.size)
    have h3 : i = 0 ∨ i = 1 ∨ i = 2 := by omega
    rcases h3 with rfl | rfl | rfl
    · exact ⟨_, _, _, rfl, HA.out.below hb', hb⟩
    · exact ⟨_, _, _, rfl, HBb.out.below hb', hb⟩
    · exact ⟨_, _, _, rfl, HCc.out.below hb', hb⟩
  have HW := Lib.hid hW
  have HR := Lib.hid hr
  have HB := Lib.hid hB
  have HQ := Lib.hid hq
  have CSH := Lib.hid (ropShape_any o.k W)
  have HNA := Lib.hid (numsOk_at hns)
  have HPA := Lib.hid (partsOk_at hps)
  have HNL := Lib.hid (opNums_len o hns)
  have HPL := Lib.hid (opParts_len o hps)
  have HBY : Hid (opBytes o = opHead o ++ (opNums o (opN o.k) ++ opParts o (opK o.k))) := rfl
  have HHD : Hid ((opHead o).length = 1 ∧ opHead o = [UInt8.ofNat (o.k % 256).toNat]) := ⟨rfl, rfl⟩
  have HN1 : Hid (opNums o 0 = [] ∧ ∀ i, opNums o (i + 1) = opNums o i ++ vput (o.num i).toNat) := ⟨rfl, fun _ => rfl⟩
  have HP1 : Hid (opParts o 0 = [] ∧ ∀ i, opParts o (i + 1) = opParts o i ++ (vput (o.part i).length ++ o.part i)) := ⟨rfl, fun _ => rfl⟩
  have HXV : Hid (∀ i : Nat, i < 3 → ∀ V, OpCells V q o.k o.x0 o.x1 o.x2 pa pb pc na nb nc ca cb cc → V.cell? ⟨q, 1 + i, none⟩ = some (.int .i64 (o.num i))) := fun i hi V h => by
    have h3 : i = 0 ∨ i = 1 ∨ i = 2 := by omega
    rcases h3 with rfl | rfl | rfl
    · exact h.2.1
    · exact h.2.2.1
    · exact h.2.2.2.1
  have hn3 := opN_le o.k
  have hm3 := opK_le o.k
  obtain ⟨n, hn⟩ : ∃ n, opN o.k = n := ⟨_, rfl⟩
  obtain ⟨m, hm⟩ : ∃ n, opK o.k = n := ⟨_, rfl⟩
  obtain ⟨is, his'⟩ : ∃ n, opIs o.k = n := ⟨_, rfl⟩
  rw [hn] at CSH HBY hn3
  rw [hm] at CSH HBY hm3
  rw [his'] at CSH
  obtain ⟨num, hnum⟩ : ∃ f, o.num = f := ⟨_, rfl⟩
  obtain ⟨part, hpart⟩ : ∃ f, o.part = f := ⟨_, rfl⟩
  obtain ⟨nums, hnums⟩ : ∃ f, opNums o = f := ⟨_, rfl⟩
  obtain ⟨pts, hpts⟩ : ∃ f, opParts o = f := ⟨_, rfl⟩
  obtain ⟨hd, hhd⟩ : ∃ f, opHead o = f := ⟨_, rfl⟩
  obtain ⟨all, hall⟩ : ∃ f, opBytes o = f := ⟨_, rfl⟩
  rw [hnum] at HNA HN1 HXV
  rw [hpart] at HPA HP1 HPAR
  rw [hnums] at HNL HN1 HBY
  rw [hpts] at HPL HP1 HBY
  rw [hhd] at HBY HHD
  rw [hall] at HBY ⊢
  clear hn hm his' hnum hpart hnums hpts hhd hall his hns hps hok HA HBb HCc
  obtain ⟨k, x0, x1, x2, a, b, c⟩ := o
  unfold OpD.agg at HPAR ⊢
  unfold OpD.row at HR HW
  simp only at HPAR HR HW CSH HHD HXV ⊢
  have hnn : ∀ i, i < n → 0 ≤ num i ∧ num i ≤ 4611686018427387904 := fun i hi => HNA.out i (by omega)
  obtain ⟨s0, -⟩ := op_cells HR.out
  clear hW hr hB hq
  go_enter Try.func32, Try.ntmps32
  go_wp2_with fail
  rw [HW.out, HQ.out]
  refine CSH.out.mono ?_
  rintro e w4 ⟨rfl, hb4⟩
  have HB4 := Lib.hid (HB.out.trans (hb4.mono HB.out.size))
  have hr4 := (hb4.block q (heap_lt HR.out)).trans HR.out
  have HR4 := Lib.hid hr4
  have hq4 := heap_lt hr4
  clear hb4 s0
  obtain ⟨s0, -⟩ := op_cells hr4
  obtain ⟨W5, hW5⟩ : ∃ V, w4.alloc (.cells #[.int .u8 (k % 256)] 5) = V := ⟨_, rfl⟩
  have hob : Ob W5 w4.heap.size 5 (.slice (some ⟨w4.heap.size, 0, none⟩) 1 1) hd := by
    rw [← hW5, HHD.out.2]
    exact ob_lit w4 5 #[.int .u8 (k % 256)] [UInt8.ofNat (k % 256).toNat] 1 rfl (by simp [maxLen]) (by show [Value.int .u8 (k % 256)] = [bv (UInt8.ofNat (k % 256).toNat)]; unfold bv; rw [ou8_int])
  have hb5 : Below w4.heap.size w4 W5 := by rw [← hW5]; exact (Below.refl _ _).alloc (Nat.le_refl _) _
  have HOB := Lib.hid hob
  have HW5 := Lib.hid hW5
  have HB5 := Lib.hid hb5
  have HKQ : Hid (∀ V, Below w4.heap.size w4 V → OpCells V q k x0 x1 x2 pa pb pc na nb nc ca cb cc) := fun V hV => op_cells ((hV.block q hq4).trans HR4.out)
  clear hob hW5 hb5 hr4
  go_wp2_with fail
  rw [HW5.out]
  obtain ⟨B, hBB⟩ : ∃ B, w4.heap.size = B := ⟨_, rfl⟩
  rw [hBB] at HOB HKQ HB5
  have HBB := Lib.hid hBB
  rw [hBB]
  clear hBB s0
  go_loopw [7, 6] (fun vi v wr => ∃ i : Nat, i ≤ n ∧ vi = .int .i64 i ∧ Hid (Ob wr B 5 v (hd ++ nums i)) ∧ Hid (Below B w4 wr)) (fun vi _ _ => n - (intOf vi).toNat)
  case atStart => exact ⟨0, by omega, rfl, by rw [HN1.out.1, List.append_nil]; exact HOB, HB5⟩
  case round =>
    obtain ⟨i, hi, rfl, HO, HBW⟩ := hrel
    have hbz : B ≤ wr.heap.size := by have := HBW.out.size; have := HBB.out; omega
    by_cases hlt : i < n
    · have e1 : (i : Int) < n := by omega
      have hx := HXV.out i (by omega) wr (HKQ.out wr HBW.out)
      have hnb := hnn i hlt
      obtain ⟨xi, hxi⟩ : ∃ x, num i = x := ⟨_, rfl⟩
      have hst := HN1.out.2 i
      rw [hxi] at hx hnb hst
      have hidx : ∀ V : World, (Instr.indexAt 42 (.pointer (some ⟨q, 1, none⟩)) (.int .i64 (i : Int))).run Try.prog V = .ok (.pointer (some ⟨q, 1 + i, none⟩)) V := fun V => by
        have h3 : i = 0 ∨ i = 1 ∨ i = 2 := by omega
        rcases h3 with rfl | rfl | rfl
        · (show _ = _; kernel_rfl)
        · (show _ = _; kernel_rfl)
        · (show _ = _; kernel_rfl)
      have hnl := HNL.out (i + 1) (by omega)
      rw [hst] at hnl
      simp only [List.length_append] at hnl
      have hl := HHD.out.1
      have hla : (hd ++ nums i).length ≤ 100 := by simp only [List.length_append]; omega
      have hlv : (vput xi.toNat).length ≤ 100 := by omega
      have CN := Lib.hid (rnumber_any xi (by omega) (by omega) wr)
      have HST : Hid ((hd ++ nums i) ++ vput xi.toNat = hd ++ nums (i + 1)) := by show _ = _; rw [List.append_assoc, ← hst]
      have hin : (i : Int) + 1 ≤ 3 := by omega
      obtain ⟨L, hL⟩ : ∃ L, hd ++ nums i = L := ⟨_, rfl⟩
      rw [hL] at HO HST hla
      obtain ⟨Z, hZ⟩ : ∃ L, vput xi.toNat = L := ⟨_, rfl⟩
      rw [hZ] at HST CN hlv
      obtain ⟨pv, pcv, hsv⟩ := HO.out.shape
      subst hsv
      clear hst hnl hl hxi hnb hL hZ
      go_wp2_with fail
      refine CN.out.mono ?_
      rintro e w7 ⟨v7, rfl, ho7, hb7⟩
      have ho3 := HO.out.below hb7
      have hbz7 : B ≤ w7.heap.size := by have := hb7.size; omega
      have HB7 := Lib.hid hb7
      have hb37 := ho7.bs
      clear ho7 hb7
      go_wp2_with (at_builtin; go_must (refine wpList_append_bytes ho3 hb37 elB (by omega) (by omega) hbz7 ?_ _ _ rfl rfl rfl rfl); intro v8 w8 ho8 hg8 hb8 _; have HO8 := Lib.hid ho8; have HB8 := Lib.hid hb8; clear ho8 hg8 hb8)
      have hf1 : Hid (Ob w8 B 5 v8 (hd ++ nums (i + 1))) := by rw [← HST.out]; exact HO8.out
      have hf2 : Hid (Below B w4 w8) := HBW.out.trans ((HB7.out.mono hbz).trans HB8.out)
      clear ho3 hb37 hx
      go_roundw
      case rel => exact ⟨i + 1, by omega, by go_num, hf1, hf2⟩
      case measure => simp [intOf]; omega
    · obtain rfl : i = n := by omega
      have e1 : ¬ (i : Int) < i := by omega
      go_wp2_with fail
      go_loopw [8, 6] (fun vi v wr => ∃ j : Nat, j ≤ m ∧ vi = .int .i64 j ∧ Hid (Ob wr B 5 v ((hd ++ nums i) ++ pts j)) ∧ Hid (Below B w4 wr)) (fun vi _ _ => m - (intOf vi).toNat)
      case atStart => exact ⟨0, by omega, rfl, by rw [HP1.out.1, List.append_nil]; exact HO, HBW⟩
      case round =>
        clear HBW HO hbz
        obtain ⟨j, hj, rfl, HO, HBW⟩ := hrel
        have hbz : B ≤ wr.heap.size := by have := HBW.out.size; have := HBB.out; omega
        by_cases hlt : j < m
        · have e2 : (j : Int) < m := by omega
          have hwB : w.heap.size ≤ B := by have := HB4.out.size; have := HBB.out; omega
          have HBWW := Lib.hid (HB4.out.trans (HBW.out.mono hwB))
          obtain ⟨s0, s1, s2, s3, s4, s5, s6⟩ := HKQ.out wr HBW.out
          have hst := HP1.out.2 j
          have hpl := HPL.out (j + 1) (by omega)
          have hnl := HNL.out i (by omega)
          have hl := HHD.out.1
          have hpa := HPA.out j (by omega)
          rw [hst] at hpl
          simp only [List.length_append] at hpl
          have hla : ((hd ++ nums i) ++ pts j).length ≤ 100000000 := by simp only [List.length_append]; omega
          have hlv : (vput (part j).length ++ part j).length ≤ 100000000 := by simp only [List.length_append]; omega
          have C1 := Lib.hid (HPAR.out j (by omega) wr HBWW.out)
          have HST : Hid (((hd ++ nums i) ++ pts j) ++ (vput (part j).length ++ part j) = (hd ++ nums i) ++ pts (j + 1)) := by show _ = _; rw [List.append_assoc (hd ++ nums i), ← hst]
          have hin : (j : Int) + 1 ≤ 3 := by omega
          obtain ⟨L, hL⟩ : ∃ L, (hd ++ nums i) ++ pts j = L := ⟨_, rfl⟩
          rw [hL] at HO HST hla
          obtain ⟨pj, hpj⟩ : ∃ L, part j = L := ⟨_, rfl⟩
          rw [hpj] at HST C1 hlv hpa
          obtain ⟨pv, pcv, hsv⟩ := HO.out.shape
          subst hsv
          have HPJ := Lib.hid hpa
          obtain ⟨Z, hZ⟩ : ∃ L, vput pj.length ++ pj = L := ⟨_, rfl⟩
          rw [hZ] at HST hlv
          have HZ := Lib.hid hZ
          clear hst hnl hl hpl hL hpj hpa hZ hwB
          go_wp2_with fail
          refine C1.out.mono ?_
          rintro e w7 ⟨pp, pn, pc', rfl, hbs7, hb7⟩
          have hsz7 := hb7.out.size
          clear s0 s1 s2 s3 s4 s5 s6
          have HBS7 := Lib.hid hbs7
          clear hbs7
          go_wp2_with fail
          refine (rbytes_any _ pj w7 HBS7.out (by have := HPJ.out; omega)).mono ?_
          rintro e w8 ⟨v8, rfl, ho8, hb8⟩
          rw [HZ.out] at ho8
          have hsz8 := hb8.size
          have HB78 := Lib.hid (hb7.out.trans (hb8.mono hsz7))
          have ho3 := HO.out.below HB78.out
          have hbz8 : B ≤ w8.heap.size := by omega
          have hb38 := ho8.bs
          clear ho8 hb8 hb7
          go_wp2_with (at_builtin; go_must (refine wpList_append_bytes ho3 hb38 elB (by omega) (by omega) hbz8 ?_ _ _ rfl rfl rfl rfl); intro v9 w9 ho9 hg9 hb9 _; have HO9 := Lib.hid ho9; have HB9 := Lib.hid hb9; clear ho9 hg9 hb9)
          have hf1 : Hid (Ob w9 B 5 v9 ((hd ++ nums i) ++ pts (j + 1))) := by rw [← HST.out]; exact HO9.out
          have hf2 : Hid (Below B w4 w9) := HBW.out.trans ((HB78.out.mono hbz).trans HB9.out)
          clear ho3 hb38
          go_roundw
          case rel => exact ⟨j + 1, by omega, by go_num, hf1, hf2⟩
          case measure => simp [intOf]; omega
        · obtain rfl : j = m := by omega
          have e2 : ¬ (j : Int) < j := by omega
          have hwB : w.heap.size ≤ B := by have := HB4.out.size; have := HBB.out; omega
          have HBWW := Lib.hid (HB4.out.trans (HBW.out.mono hwB))
          have hof := HO.out.bs
          rw [List.append_assoc, ← HBY.out] at hof
          have HOF := Lib.hid hof
          clear hof
          clear hwB
          go_wp2
          go_ret
          exact ⟨_, rfl, HOF.out, HBWW.out⟩

end Go.Proofs.Yticpmkdlnjnfgaa
