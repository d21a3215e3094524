/- Layer 38 (op): Right and Same, both sides. -/
import Derived.Test.YticpmkdlnjnfgaaOp1
import Derived.Deep.RegionHeld3
import Derived.StillTailTactics
import Derived.Lib.QuietBelow
set_option linter.unusedSimpArgs false
namespace Go.Proofs.Yticpmkdlnjnfgaa
open Go.RowKit

set_option maxRecDepth 100000 in
theorem opParts_any (q : Nat) (w : World) : Calls Try.prog 68 #[.pointer (some ⟨q, 0, none⟩)] w fun e w' => e = .returned (.agg #[.pointer (some ⟨q, 4, none⟩), .pointer (some ⟨q, 5, none⟩), .pointer (some ⟨q, 6, none⟩)]) ∧ Below w.heap.size w w' := by
  obtain ⟨W, hW⟩ : ∃ W, w.alloc (.cells #[.pointer none, .pointer none, .pointer none] 100) = W := ⟨_, rfl⟩
  have hr : W.drew.heap[w.heap.size]? = some (.cells #[.pointer none, .pointer none, .pointer none] 100 (0, 0)) := by rw [← hW]; exact heap_alloc_new _ _
  have hB : Below w.heap.size w W.drew := by rw [← hW]; exact ((Below.refl _ _).alloc (Nat.le_refl _) _).drew
  have HW := Lib.hid hW
  have HR := Lib.hid hr
  have HB := Lib.hid hB
  clear hW hr hB
  go_enter Try.func68, Try.ntmps68
  go_wp2_with fail
  rw [HW.out]
  go_still_tail 10, (by kernel_rfl)
  change wpList _ _ _ _ _ W.drew
  obtain ⟨V, hV⟩ : ∃ V, W.drew = V := ⟨_, rfl⟩
  rw [hV]
  have hr : V.heap[w.heap.size]? = some (.cells #[.pointer none, .pointer none, .pointer none] 100 (0, 0)) := by rw [← hV]; exact HR.out
  have hB : Below w.heap.size w V := by rw [← hV]; exact HB.out
  obtain ⟨h, hh⟩ : ∃ h, w.heap.size = h := ⟨_, rfl⟩
  rw [hh] at hr ⊢
  have c0 : V.cell? ⟨h, 0, none⟩ = some (.pointer none) := cell_of_row V _ _ _ _ _ hr
  have c1 : V.cell? ⟨h, 1, none⟩ = some (.pointer none) := cell_of_row V _ _ _ _ _ hr
  have c2 : V.cell? ⟨h, 2, none⟩ = some (.pointer none) := cell_of_row V _ _ _ _ _ hr
  have f0 := row_free hr 0
  have f1 := row_free hr 1
  have f2 := row_free hr 2
  have hr1 := row_setCell hr 0 (.pointer (some ⟨q, 4, none⟩))
  have hr2 := row_setCell hr1 1 (.pointer (some ⟨q, 5, none⟩))
  have hr3 := row_setCell hr2 2 (.pointer (some ⟨q, 6, none⟩))
  have ho : Only (fun k => k = h) V (((V.setCell ⟨h, 0, none⟩ (.pointer (some ⟨q, 4, none⟩))).setCell ⟨h, 1, none⟩ (.pointer (some ⟨q, 5, none⟩))).setCell ⟨h, 2, none⟩ (.pointer (some ⟨q, 6, none⟩))) :=
    ((set_only V h 0 _).trans (set_only _ h 1 _)).trans (set_only _ h 2 _)
  have hbf := Lib.hid (hB.trans (ho.below (B := w.heap.size) (fun k hk => by omega) hB.size))
  have HR3 := Lib.hid hr3
  clear hr hr1 hr2 hr3 ho hB hV HR HB HW
  go_wp2
  obtain ⟨Z, hZ⟩ : ∃ Z, (((V.setCell ⟨h, 0, none⟩ (.pointer (some ⟨q, 4, none⟩))).setCell ⟨h, 1, none⟩ (.pointer (some ⟨q, 5, none⟩))).setCell ⟨h, 2, none⟩ (.pointer (some ⟨q, 6, none⟩))) = Z := ⟨_, rfl⟩
  rw [hZ] at hbf HR3 ⊢
  have d0 : Z.cell? ⟨h, 0, none⟩ = some (.pointer (some ⟨q, 4, none⟩)) := cell_of_row Z _ _ _ _ _ HR3.out
  have d1 : Z.cell? ⟨h, 1, none⟩ = some (.pointer (some ⟨q, 5, none⟩)) := cell_of_row Z _ _ _ _ _ HR3.out
  have d2 : Z.cell? ⟨h, 2, none⟩ = some (.pointer (some ⟨q, 6, none⟩)) := cell_of_row Z _ _ _ _ _ HR3.out
  exact bodyPost_ret (v := .agg #[.pointer (some ⟨q, 4, none⟩), .pointer (some ⟨q, 5, none⟩), .pointer (some ⟨q, 6, none⟩)]) (by simp [results, Try.results68, go_sem, d0, d1, d2]) rfl ⟨rfl, hbf.out⟩

theorem numOk_cases (n i : Nat) (x : Int) : (numOk n i x = false ∧ x < 0) ∨ (numOk n i x = false ∧ 0 ≤ x ∧ 4611686018427387904 < x) ∨ (numOk n i x = true ∧ 0 ≤ x ∧ x ≤ 4611686018427387904 ∧ i < n) ∨
    (numOk n i x = true ∧ n ≤ i ∧ x = 0) ∨ (numOk n i x = false ∧ 0 ≤ x ∧ x ≤ 4611686018427387904 ∧ n ≤ i ∧ x ≠ 0) := by
  unfold numOk
  by_cases h1 : 0 ≤ x
  · by_cases h2 : x ≤ 4611686018427387904
    · by_cases h3 : i < n
      · right; right; left; simp [h1, h2, h3]
      · by_cases h4 : x = 0
        · right; right; right; left; subst h4; simp; omega
        · right; right; right; right; simp [h1, h2, h3, h4]; omega
    · right; left; simp [h1, h2]; omega
  · left; simp [h1]; omega
theorem partOk_cases (n i : Nat) (l : List UInt8) : (partOk n i l = false ∧ 1048576 < l.length) ∨ (partOk n i l = true ∧ l.length ≤ 1048576 ∧ i < n) ∨
    (partOk n i l = true ∧ n ≤ i ∧ l.length = 0) ∨ (partOk n i l = false ∧ l.length ≤ 1048576 ∧ n ≤ i ∧ 0 < l.length) := by
  unfold partOk
  by_cases h2 : l.length ≤ 1048576
  · by_cases h3 : i < n
    · right; left; simp [h2, h3]
    · by_cases h4 : l.length = 0
      · right; right; left; simp [h4]; omega
      · right; right; right; simp [h2, h3, h4]; omega
  · left; simp [h2]; omega

def OpD.pv (va vb vc : Value) (i : Nat) : Value := if i = 0 then va else if i = 1 then vb else vc

set_option maxRecDepth 100000 in
set_option maxHeartbeats 1600000 in
theorem opRight_any (o : OpD) (va vb vc : Value) (w : World) (ha : Bs w va o.a) (hb : Bs w vb o.b) (hc : Bs w vc o.c) :
    Calls Try.prog 26 #[o.agg va vb vc] w fun e w' => e = .returned (.bool (opRight o)) ∧ Below w.heap.size w w' := by
  obtain ⟨q, hq⟩ : ∃ q, w.heap.size = q := ⟨_, rfl⟩
  obtain ⟨W, hW⟩ : ∃ W, w.alloc (.cells (o.row va vb vc) 44) = W := ⟨_, rfl⟩
  have hr : W.heap[q]? = some (.cells (o.row va vb vc) 44 (0, 0)) := by rw [← hW, ← hq]; exact heap_alloc_new _ _
  have hB : Below w.heap.size w W := by rw [← hW]; exact (Below.refl _ _).alloc (Nat.le_refl _) _
  obtain ⟨pa, ca, rfl⟩ := ha.shape
  obtain ⟨pb, cb, rfl⟩ := hb.shape
  obtain ⟨pc, cc, rfl⟩ := hc.shape
  have HN1 : Hid (∀ i, i < 3 → numOk (opN o.k) i (o.num i) = false → opRight o = false) := fun i hi h => by unfold opRight; rw [numsOk_no o i h hi]; simp
  have HN2 : Hid (∀ i, numsOk o i = true → numOk (opN o.k) i (o.num i) = true → numsOk o (i + 1) = true) := fun i h1 h2 => by rw [numsOk_succ, h1, h2]; rfl
  have HP1 : Hid (∀ i, i < 3 → partOk (opK o.k) i (o.part i) = false → opRight o = false) := fun i hi h => by unfold opRight; rw [partsOk_no o i h hi]; simp
  have HP2 : Hid (∀ i, partsOk o i = true → partOk (opK o.k) i (o.part i) = true → partsOk o (i + 1) = true) := fun i h1 h2 => by rw [partsOk_succ, h1, h2]; rfl
  have HE : Hid (numsOk o 3 = true → partsOk o 3 = true → opRight o = opIs o.k) := fun h1 h2 => by unfold opRight; rw [h1, h2]; simp
  have HNC : Hid (∀ i, _) := fun i => numOk_cases (opN o.k) i (o.num i)
  have HPC : Hid (∀ i, _) := fun i => partOk_cases (opK o.k) i (o.part i)
  have HSH := Lib.hid (opShape_any o.k W)
  obtain ⟨n, hn⟩ : ∃ n, opN o.k = n := ⟨_, rfl⟩
  obtain ⟨m, hm⟩ : ∃ n, opK o.k = n := ⟨_, rfl⟩
  obtain ⟨is, his⟩ : ∃ n, opIs o.k = n := ⟨_, rfl⟩
  rw [hn] at HN1 HN2 HNC HSH
  rw [hm] at HP1 HP2 HPC HSH
  rw [his] at HE HSH
  obtain ⟨R, hR⟩ : ∃ R, opRight o = R := ⟨_, rfl⟩
  rw [hR] at HN1 HP1 HE ⊢
  have HS0 : Hid (numsOk o 0 = true) := rfl
  have HT0 : Hid (partsOk o 0 = true) := rfl
  have hn3 : n ≤ 3 := by rw [← hn]; exact opN_le _
  have hm3 : m ≤ 3 := by rw [← hm]; exact opK_le _
  have HNU : Hid (o.num 0 = o.x0 ∧ o.num 1 = o.x1 ∧ o.num 2 = o.x2 ∧ o.part 0 = o.a ∧ o.part 1 = o.b ∧ o.part 2 = o.c) := ⟨rfl, rfl, rfl, rfl, rfl, rfl⟩
  obtain ⟨NO, hNO⟩ : ∃ f, numsOk o = f := ⟨_, rfl⟩
  obtain ⟨PO, hPO⟩ : ∃ f, partsOk o = f := ⟨_, rfl⟩
  rw [hNO] at HN2 HE HS0
  rw [hPO] at HP2 HE HT0
  obtain ⟨num, hnum⟩ : ∃ f, o.num = f := ⟨_, rfl⟩
  obtain ⟨part, hpart⟩ : ∃ f, o.part = f := ⟨_, rfl⟩
  rw [hnum] at HN1 HN2 HNC HNU
  rw [hpart] at HP1 HP2 HPC HNU
  clear hn hm his hR hNO hPO hnum hpart
  obtain ⟨k, x0, x1, x2, a, b, c⟩ := o
  unfold OpD.agg
  unfold OpD.row at hr hW
  simp only at hr hW HSH HNU ⊢
  obtain ⟨na, hna⟩ : ∃ n, a.length = n := ⟨_, rfl⟩
  obtain ⟨nb, hnb⟩ : ∃ n, b.length = n := ⟨_, rfl⟩
  obtain ⟨nc, hnc⟩ : ∃ n, c.length = n := ⟨_, rfl⟩
  rw [hna, hnb, hnc] at hr hW ⊢
  have HNA : Hid (a.length = na ∧ b.length = nb ∧ c.length = nc) := ⟨hna, hnb, hnc⟩
  have HW := Lib.hid hW
  have HR := Lib.hid hr
  have HB := Lib.hid hB
  have HQ := Lib.hid hq
  have l1 := ha.len_eq.2.2
  have l2 := hb.len_eq.2.2
  have l3 := hc.len_eq.2.2
  rw [hna] at ha
  rw [hnb] at hb
  rw [hnc] at hc
  have l4 := ha.len_eq.2.1
  have l5 := hb.len_eq.2.1
  have l6 := hc.len_eq.2.1
  have k0 : W.cell? ⟨q, 0, none⟩ = some (.int .i64 k) := cell_of_row W _ _ _ _ _ hr
  have k1 : W.cell? ⟨q, 1, none⟩ = some (.int .i64 x0) := cell_of_row W _ _ _ _ _ hr
  have k2 : W.cell? ⟨q, 2, none⟩ = some (.int .i64 x1) := cell_of_row W _ _ _ _ _ hr
  have k3 : W.cell? ⟨q, 3, none⟩ = some (.int .i64 x2) := cell_of_row W _ _ _ _ _ hr
  clear hna hnb hnc hW hr hB hq ha hb hc
  go_enter Try.func26, Try.ntmps26
  go_wp2_with fail
  rw [HW.out, HQ.out]
  refine HSH.out.mono ?_
  rintro e w2 ⟨rfl, rfl⟩
  go_wp2_with fail
  go_loopw [19] (fun vi wr => ∃ i : Nat, i ≤ 3 ∧ vi = .int .i64 i ∧ wr = w2 ∧ Hid (NO i = true)) (fun vi _ => 3 - (intOf vi).toNat)
  case atStart => exact ⟨0, by omega, rfl, rfl, HS0⟩
  case round =>
    obtain ⟨i, hi, rfl, rfl, HP⟩ := hrel
    by_cases hlt : i < 3
    · have hc := HNC.out i
      obtain ⟨x, hx⟩ : ∃ x, num i = x := ⟨_, rfl⟩
      have hidx : ∀ V : World, (Instr.index 42 (.agg #[.int .i64 x0, .int .i64 x1, .int .i64 x2]) (.int .i64 (i : Int))).run Try.prog V = .ok (.int .i64 x) V := fun V => by
        obtain ⟨u0, u1, u2, -⟩ := HNU.out
        rw [← hx]
        have h3 : i = 0 ∨ i = 1 ∨ i = 2 := by omega
        rcases h3 with rfl | rfl | rfl
        · (rw [u0]; show _ = _; kernel_rfl)
        · (rw [u1]; show _ = _; kernel_rfl)
        · (rw [u2]; show _ = _; kernel_rfl)
      have e1 : (i : Int) < 3 := by omega
      rw [hx] at hc
      have HX := Lib.hid hx
      clear hx
      rcases hc with ⟨hF, h1⟩ | ⟨hF, h1, h2⟩ | ⟨hF, h1, h2, h3⟩ | ⟨hF, h1, h2⟩ | ⟨hF, h1, h2, h3, h4⟩
      · have hf := HN1.out i hlt (by rw [HX.out]; exact hF)
        clear hF
        go_wp2
        go_ret
        exact ⟨by first | rfl | (rw [hf]; rfl), HB.out⟩
      · have hf := HN1.out i hlt (by rw [HX.out]; exact hF)
        clear hF
        go_wp2
        go_ret
        exact ⟨by first | rfl | (rw [hf]; rfl), HB.out⟩
      · have hf := Lib.hid (HN2.out i HP.out (by rw [HX.out]; exact hF))
        have e2 : ¬ (n : Int) ≤ i := by omega
        clear hF
        go_wp2
        go_roundw
        case rel => exact ⟨i + 1, by omega, by go_num, trivial, hf⟩
        case measure => simp [intOf]; omega
      · have hf := Lib.hid (HN2.out i HP.out (by rw [HX.out]; exact hF))
        have e2 : (n : Int) ≤ i := by omega
        subst h2
        clear hF
        go_wp2
        go_roundw
        case rel => exact ⟨i + 1, by omega, by go_num, trivial, hf⟩
        case measure => simp [intOf]; omega
      · have hf := HN1.out i hlt (by rw [HX.out]; exact hF)
        have e2 : (n : Int) ≤ i := by omega
        have e3 : (x != 0) = true := by simpa using h4
        clear hF h4
        go_wp2
        go_ret
        exact ⟨by first | rfl | (rw [hf]; rfl), HB.out⟩
    · obtain rfl : i = 3 := by omega
      have e1 : ¬ (((3 : Nat) : Int) < 3) := by decide
      have HNO3 := HP
      go_wp2_with fail
      refine (opParts_any q _).mono ?_
      rintro e w3 ⟨rfl, hb3⟩
      have hr3 := (hb3.block q (heap_lt HR.out)).trans HR.out
      have hB3 := Lib.hid (HB.out.trans (hb3.mono HB.out.size))
      have hpc : ∀ i, i < 3 → ∃ p n c, w3.cell? ⟨q, 4 + i, none⟩ = some (.slice p n c) ∧ (part i).length = n ∧ n ≤ 9223372036854775807 := by
        obtain ⟨-, -, -, u0, u1, u2⟩ := HNU.out
        obtain ⟨n0, n1, n2⟩ := HNA.out
        intro i hi
        have h3 : i = 0 ∨ i = 1 ∨ i = 2 := by omega
        rcases h3 with rfl | rfl | rfl
        · exact ⟨pa, na, ca, cell_of_row w3 _ _ _ _ _ hr3, by rw [u0]; exact n0, by omega⟩
        · exact ⟨pb, nb, cb, cell_of_row w3 _ _ _ _ _ hr3, by rw [u1]; exact n1, by omega⟩
        · exact ⟨pc, nc, cc, cell_of_row w3 _ _ _ _ _ hr3, by rw [u2]; exact n2, by omega⟩
      have HPC3 := Lib.hid hpc
      clear hb3 hr3 hpc e1 k0 k1 k2 k3
      go_wp2_with fail
      go_loopw [40] (fun vi wr => ∃ i : Nat, i ≤ 3 ∧ vi = .int .i64 i ∧ wr = w3 ∧ Hid (PO i = true)) (fun vi _ => 3 - (intOf vi).toNat)
      case atStart => exact ⟨0, by omega, rfl, rfl, HT0⟩
      case round =>
        obtain ⟨i, hi, rfl, rfl, HP⟩ := hrel
        by_cases hlt : i < 3
        · have hc := HPC.out i
          obtain ⟨p, pn, pc', hcell, hlen, hbn⟩ := HPC3.out i hlt
          have hidx : ∀ V : World, (Instr.index 100 (.agg #[.pointer (some ⟨q, 4, none⟩), .pointer (some ⟨q, 5, none⟩), .pointer (some ⟨q, 6, none⟩)]) (.int .i64 (i : Int))).run Try.prog V = .ok (.pointer (some ⟨q, 4 + i, none⟩)) V := fun V => by
            have h3 : i = 0 ∨ i = 1 ∨ i = 2 := by omega
            rcases h3 with rfl | rfl | rfl
            · (show _ = _; kernel_rfl)
            · (show _ = _; kernel_rfl)
            · (show _ = _; kernel_rfl)
          have e1 : (i : Int) < 3 := by omega
          have HLN := Lib.hid hlen
          rcases hc with ⟨hF, h1⟩ | ⟨hF, h1, h2⟩ | ⟨hF, h1, h2⟩ | ⟨hF, h1, h2, h3⟩
          · have hf := HP1.out i hlt hF
            have e2 : (1048576 : Int) < pn := by omega
            clear hF hlen h1
            go_wp2
            go_ret
            exact ⟨by first | rfl | (rw [hf]; rfl), hB3.out⟩
          · have hf := Lib.hid (HP2.out i HP.out hF)
            have e2 : ¬ (1048576 : Int) < pn := by omega
            have e3 : ¬ (m : Int) ≤ i := by omega
            clear hF hlen h1
            go_wp2
            go_roundw
            case rel => exact ⟨i + 1, by omega, by go_num, trivial, hf⟩
            case measure => simp [intOf]; omega
          · have hf := Lib.hid (HP2.out i HP.out hF)
            have e2 : ¬ (1048576 : Int) < pn := by omega
            have e3 : (m : Int) ≤ i := by omega
            have e4 : ¬ (0 : Int) < pn := by omega
            clear hF hlen h1 h2
            go_wp2
            go_roundw
            case rel => exact ⟨i + 1, by omega, by go_num, trivial, hf⟩
            case measure => simp [intOf]; omega
          · have hf := HP1.out i hlt hF
            have e2 : ¬ (1048576 : Int) < pn := by omega
            have e3 : (m : Int) ≤ i := by omega
            have e4 : (0 : Int) < pn := by omega
            clear hF hlen h1 h2 h3
            go_wp2
            go_ret
            exact ⟨by first | rfl | (rw [hf]; rfl), hB3.out⟩
        · obtain rfl : i = 3 := by omega
          have e1 : ¬ (((3 : Nat) : Int) < 3) := by decide
          have hf := HE.out HNO3.out HP.out
          go_wp2
          go_ret
          exact ⟨by first | rfl | (rw [hf]; rfl), hB3.out⟩

end Go.Proofs.Yticpmkdlnjnfgaa
