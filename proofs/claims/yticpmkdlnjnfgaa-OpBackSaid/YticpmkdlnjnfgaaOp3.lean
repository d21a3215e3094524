/- Layer 38 (op): the reference's Right. -/
import Derived.Test.YticpmkdlnjnfgaaOp2
set_option linter.unusedSimpArgs false
namespace Go.Proofs.Yticpmkdlnjnfgaa
open Go.RowKit

def OpCells (w : World) (q : Nat) (k x0 x1 x2 : Int) (pa pb pc : Option Addr) (na nb nc ca cb cc : Nat) : Prop :=
  w.cell? ⟨q, 0, none⟩ = some (.int .i64 k) ∧ w.cell? ⟨q, 1, none⟩ = some (.int .i64 x0) ∧ w.cell? ⟨q, 2, none⟩ = some (.int .i64 x1) ∧ w.cell? ⟨q, 3, none⟩ = some (.int .i64 x2) ∧
  w.cell? ⟨q, 4, none⟩ = some (.slice pa na ca) ∧ w.cell? ⟨q, 5, none⟩ = some (.slice pb nb cb) ∧ w.cell? ⟨q, 6, none⟩ = some (.slice pc nc cc)

theorem op_cells {w : World} {q : Nat} {k x0 x1 x2 : Int} {pa pb pc : Option Addr} {na nb nc ca cb cc : Nat} (h : w.heap[q]? = some (.cells #[.int .i64 k, .int .i64 x0, .int .i64 x1, .int .i64 x2, .slice pa na ca, .slice pb nb cb, .slice pc nc cc] 44 (0, 0))) : OpCells w q k x0 x1 x2 pa pb pc na nb nc ca cb cc :=
  ⟨cell_of_row w _ _ _ _ _ h, cell_of_row w _ _ _ _ _ h, cell_of_row w _ _ _ _ _ h, cell_of_row w _ _ _ _ _ h, cell_of_row w _ _ _ _ _ h, cell_of_row w _ _ _ _ _ h, cell_of_row w _ _ _ _ _ h⟩

set_option maxRecDepth 100000 in
set_option maxHeartbeats 1600000 in
theorem ropRight_any (o : OpD) (va vb vc : Value) (w : World) (ha : Bs w va o.a) (hb : Bs w vb o.b) (hc : Bs w vc o.c) :
    Calls Try.prog 27 #[o.agg va vb vc] w fun e w' => e = .returned (.bool (opRight o)) ∧ Below w.heap.size w w' := by
  obtain ⟨q, hq⟩ : ∃ q, w.heap.size = q := ⟨_, rfl⟩
  obtain ⟨W, hW⟩ : ∃ W, w.alloc (.cells (o.row va vb vc) 44) = W := ⟨_, rfl⟩
  have hr : W.heap[q]? = some (.cells (o.row va vb vc) 44 (0, 0)) := by rw [← hW, ← hq]; exact heap_alloc_new _ _
  have hB : Below w.heap.size w W := by rw [← hW]; exact (Below.refl _ _).alloc (Nat.le_refl _) _
  obtain ⟨pa, ca, rfl⟩ := ha.shape
  obtain ⟨pb, cb, rfl⟩ := hb.shape
  obtain ⟨pc, cc, rfl⟩ := hc.shape
  have HI : Hid (opIs o.k = false → opRight o = false) := fun h => by unfold opRight; rw [h]; rfl
  have HN1 : Hid (∀ i, i < 3 → numOk (opN o.k) i (o.num i) = false → opRight o = false) := fun i hi h => by unfold opRight; rw [numsOk_no o i h hi]; simp
  have HN2 : Hid (∀ i, numsOk o i = true → numOk (opN o.k) i (o.num i) = true → numsOk o (i + 1) = true) := fun i h1 h2 => by rw [numsOk_succ, h1, h2]; rfl
  have HP1 : Hid (∀ i, i < 3 → partOk (opK o.k) i (o.part i) = false → opRight o = false) := fun i hi h => by unfold opRight; rw [partsOk_no o i h hi]; simp
  have HP2 : Hid (∀ i, partsOk o i = true → partOk (opK o.k) i (o.part i) = true → partsOk o (i + 1) = true) := fun i h1 h2 => by rw [partsOk_succ, h1, h2]; rfl
  have HE : Hid (numsOk o 3 = true → partsOk o 3 = true → opRight o = opIs o.k) := fun h1 h2 => by unfold opRight; rw [h1, h2]; simp
  have HNC := Lib.hid (fun i : Nat => numOk_cases (opN o.k) i (o.num i))
  have HPC := Lib.hid (fun i : Nat => partOk_cases (opK o.k) i (o.part i))
  have HSH := Lib.hid (ropShape_any o.k W)
  obtain ⟨na, hna⟩ : ∃ n, o.a.length = n := ⟨_, rfl⟩
  obtain ⟨nb, hnb⟩ : ∃ n, o.b.length = n := ⟨_, rfl⟩
  obtain ⟨nc, hnc⟩ : ∃ n, o.c.length = n := ⟨_, rfl⟩
  rw [hna, hnb, hnc] at hr hW ⊢
  have HPA : Hid (∀ i : Nat, i < 3 → ∀ V : World, Calls Try.prog 69 #[o.agg (.slice pa na ca) (.slice pb nb cb) (.slice pc nc cc), .int .i64 (i : Int)] V fun e w' => ∃ p n c, e = .returned (.slice p n c) ∧ (o.part i).length = n ∧ Hid (Below V.heap.size V w')) := fun i hi V => by
    refine (ropPart_any o _ _ _ i hi V).mono ?_
    rintro e w' ⟨rfl, hb⟩
    have h3 : i = 0 ∨ i = 1 ∨ i = 2 := by omega
    rcases h3 with rfl | rfl | rfl
    · exact ⟨_, _, _, rfl, hna, hb⟩
    · exact ⟨_, _, _, rfl, hnb, hb⟩
    · exact ⟨_, _, _, rfl, hnc, hb⟩
  obtain ⟨n, hn⟩ : ∃ n, opN o.k = n := ⟨_, rfl⟩
  obtain ⟨m, hm⟩ : ∃ n, opK o.k = n := ⟨_, rfl⟩
  obtain ⟨is, his⟩ : ∃ n, opIs o.k = n := ⟨_, rfl⟩
  rw [hn] at HN1 HN2 HNC HSH
  rw [hm] at HP1 HP2 HPC HSH
  rw [his] at HE HSH HI
  obtain ⟨R, hR⟩ : ∃ R, opRight o = R := ⟨_, rfl⟩
  rw [hR] at HN1 HP1 HE HI ⊢
  have HS0 : Hid (numsOk o 0 = true) := rfl
  have HT0 : Hid (partsOk o 0 = true) := rfl
  have hn3 : n ≤ 3 := by rw [← hn]; exact opN_le _
  have hm3 : m ≤ 3 := by rw [← hm]; exact opK_le _
  have HNU : Hid (o.num 0 = o.x0 ∧ o.num 1 = o.x1 ∧ o.num 2 = o.x2) := ⟨rfl, rfl, rfl⟩
  obtain ⟨NO, hNO⟩ : ∃ f, numsOk o = f := ⟨_, rfl⟩
  obtain ⟨PO, hPO⟩ : ∃ f, partsOk o = f := ⟨_, rfl⟩
  rw [hNO] at HN2 HE HS0
  rw [hPO] at HP2 HE HT0
  obtain ⟨num, hnum⟩ : ∃ f, o.num = f := ⟨_, rfl⟩
  obtain ⟨part, hpart⟩ : ∃ f, o.part = f := ⟨_, rfl⟩
  rw [hnum] at HN1 HN2 HNC HNU
  rw [hpart] at HP1 HP2 HPC HPA
  have l1 := ha.len_eq.2.2
  have l2 := hb.len_eq.2.2
  have l3 := hc.len_eq.2.2
  rw [hna] at ha
  rw [hnb] at hb
  rw [hnc] at hc
  have l4 := ha.len_eq.2.1
  have l5 := hb.len_eq.2.1
  have l6 := hc.len_eq.2.1
  have HLB : Hid (∀ i, i < 3 → (part i).length ≤ 9223372036854775807) := fun i hi => by
    rw [← hpart]
    have h3 : i = 0 ∨ i = 1 ∨ i = 2 := by omega
    rcases h3 with rfl | rfl | rfl
    · show o.a.length ≤ _; omega
    · show o.b.length ≤ _; omega
    · show o.c.length ≤ _; omega
  clear hn hm his hR hNO hPO hnum hpart hna hnb hnc
  obtain ⟨k, x0, x1, x2, a, b, c⟩ := o
  unfold OpD.agg at HPA ⊢
  unfold OpD.row at hr hW
  simp only at hr hW HSH HNU HPA ⊢
  have HW := Lib.hid hW
  have HR := Lib.hid hr
  have HB := Lib.hid hB
  have HQ := Lib.hid hq
  have k0 := (op_cells hr).1
  clear hW hr hB hq ha hb hc l1 l2 l3 l4 l5 l6
  go_enter Try.func27, Try.ntmps27
  go_wp2_with fail
  rw [HW.out, HQ.out]
  refine HSH.out.mono ?_
  rintro e w2 ⟨rfl, hb2⟩
  have hB2 := HB.out.trans (hb2.mono HB.out.size)
  have HB2 := Lib.hid hB2
  have HR2 := Lib.hid ((hb2.block q (heap_lt HR.out)).trans HR.out)
  clear hb2 hB2 k0
  cases is with
  | false =>
    have hf := HI.out rfl
    go_wp2
    go_ret
    exact ⟨by first | rfl | (rw [hf]; rfl), HB2.out⟩
  | true =>
    go_wp2_with fail
    go_loopw [6] (fun vi wr => ∃ i : Nat, i ≤ 3 ∧ vi = .int .i64 i ∧ Hid (NO i = true ∧ PO i = true ∧ Below w.heap.size w wr ∧ Below w2.heap.size w2 wr)) (fun vi _ => 3 - (intOf vi).toNat)
    case atStart => exact ⟨0, by omega, rfl, HS0.out, HT0.out, HB2.out, Below.refl _ _⟩
    case round =>
      obtain ⟨i, hi, rfl, HP⟩ := hrel
      by_cases hlt : i < 3
      · have hc := HNC.out i
        obtain ⟨x, hx⟩ : ∃ x, num i = x := ⟨_, rfl⟩
        have hrr := (HP.out.2.2.2.block q (heap_lt HR2.out)).trans HR2.out
        have HRR := Lib.hid hrr
        have hcx : wr.cell? ⟨q, 1 + i, none⟩ = some (.int .i64 x) := by
          obtain ⟨u0, u1, u2⟩ := HNU.out
          rw [← hx]
          have h3 : i = 0 ∨ i = 1 ∨ i = 2 := by omega
          rcases h3 with rfl | rfl | rfl
          · rw [u0]; exact (op_cells hrr).2.1
          · rw [u1]; exact (op_cells hrr).2.2.1
          · rw [u2]; exact (op_cells hrr).2.2.2.1
        have hidx : ∀ V : World, (Instr.indexAt 42 (.pointer (some ⟨q, 1, none⟩)) (.int .i64 (i : Int))).run Try.prog V = .ok (.pointer (some ⟨q, 1 + i, none⟩)) V := fun V => by
          have h3 : i = 0 ∨ i = 1 ∨ i = 2 := by omega
          rcases h3 with rfl | rfl | rfl
          · (show _ = _; kernel_rfl)
          · (show _ = _; kernel_rfl)
          · (show _ = _; kernel_rfl)
        have e1 : (i : Int) < 3 := by omega
        rw [hx] at hc
        have HX := Lib.hid hx
        have hbw := HP.out.2.2.1
        have hbw2 := HP.out.2.2.2
        have HBW := Lib.hid hbw
        have HBW2 := Lib.hid hbw2
        have hcs := op_cells hrr
        clear hx hrr hbw hbw2
        rcases hc with ⟨hF, h1⟩ | ⟨hF, h1, h2⟩ | ⟨hF, h1, h2, h3⟩ | ⟨hF, h1, h2⟩ | ⟨hF, h1, h2, h3, h4⟩
        · have hf := HN1.out i hlt (by rw [HX.out]; exact hF)
          clear hF hcs
          go_wp2
          go_ret
          exact ⟨by first | rfl | (rw [hf]; rfl), HBW.out⟩
        · have hf := HN1.out i hlt (by rw [HX.out]; exact hF)
          clear hF hcs
          go_wp2
          go_ret
          exact ⟨by first | rfl | (rw [hf]; rfl), HBW.out⟩
        focus
          have hno := Lib.hid (HN2.out i HP.out.1 (by rw [HX.out]; exact hF))
          have e2 : ¬ (n : Int) ≤ i := by omega
          clear hF
        rotate_left 1
        focus
          have hno := Lib.hid (HN2.out i HP.out.1 (by rw [HX.out]; exact hF))
          have e2 : (n : Int) ≤ i := by omega
          subst h2
          clear hF
        rotate_left 1
        · have hf := HN1.out i hlt (by rw [HX.out]; exact hF)
          have e2 : (n : Int) ≤ i := by omega
          have e3 : (x != 0) = true := by simpa using h4
          clear hF h4 hcs
          go_wp2
          go_ret
          exact ⟨by first | rfl | (rw [hf]; rfl), HBW.out⟩
        all_goals
          obtain ⟨s0, s1, s2, s3, s4, s5, s6⟩ := hcs
          have hpp := HPC.out i
          have hlb := HLB.out i hlt
          go_wp2_with fail
          refine (HPA.out i hlt _).mono ?_
          rintro e w4 ⟨p1, n1, c1, rfl, hl1, hb4⟩
          have HRR4 := Lib.hid ((hb4.out.block q (heap_lt HRR.out)).trans HRR.out)
          have HBW4 := Lib.hid (HBW.out.trans (hb4.out.mono HBW.out.size))
          have HBW24 := Lib.hid (HBW2.out.trans (hb4.out.mono HBW2.out.size))
          have hcs := op_cells HRR4.out
          clear s0 s1 s2 s3 s4 s5 s6 hb4 hcx
          obtain ⟨s0, s1, s2, s3, s4, s5, s6⟩ := hcs
          rcases hpp with ⟨hF, h1'⟩ | ⟨hF, h1', h2'⟩ | ⟨hF, h1', h2'⟩ | ⟨hF, h1', h2', h3'⟩
          · have hf := HP1.out i hlt hF
            have e5 : (1048576 : Int) < n1 := by omega
            clear hF hl1 h1'
            go_wp2
            go_ret
            exact ⟨by first | rfl | (rw [hf]; rfl), HBW4.out⟩
          · have hpo := Lib.hid (HP2.out i HP.out.2.1 hF)
            have e5 : ¬ (1048576 : Int) < n1 := by omega
            have e6 : ¬ (m : Int) ≤ i := by omega
            clear hF hl1 h1'
            go_wp2
            go_roundw
            case rel => exact ⟨i + 1, by omega, by go_num, hno.out, hpo.out, HBW4.out, HBW24.out⟩
            case measure => simp [intOf]; omega
          · have hpo := Lib.hid (HP2.out i HP.out.2.1 hF)
            have e5 : ¬ (1048576 : Int) < n1 := by omega
            have e6 : (m : Int) ≤ i := by omega
            have HH2 := Lib.hid h2'
            clear hF hl1 h1' h2'
            go_wp2_with fail
            refine (HPA.out i hlt _).mono ?_
            rintro e w5 ⟨p2, n2, c2, rfl, hl2, hb5⟩
            have e7 : ¬ (0 : Int) < n2 := by have := HH2.out; omega
            have HBW5 := Lib.hid (HBW4.out.trans (hb5.out.mono HBW4.out.size))
            have HBW25 := Lib.hid (HBW24.out.trans (hb5.out.mono HBW24.out.size))
            clear hb5 s0 s1 s2 s3 s4 s5 s6 hl2
            go_wp2
            go_roundw
            case rel => exact ⟨i + 1, by omega, by go_num, hno.out, hpo.out, HBW5.out, HBW25.out⟩
            case measure => simp [intOf]; omega
          · have hf := HP1.out i hlt hF
            have e5 : ¬ (1048576 : Int) < n1 := by omega
            have e6 : (m : Int) ≤ i := by omega
            have HH2 := Lib.hid h3'
            clear hF hl1 h1' h2' h3'
            go_wp2_with fail
            refine (HPA.out i hlt _).mono ?_
            rintro e w5 ⟨p2, n2, c2, rfl, hl2, hb5⟩
            have e7 : (0 : Int) < n2 := by have := HH2.out; omega
            have HBW5 := Lib.hid (HBW4.out.trans (hb5.out.mono HBW4.out.size))
            clear hb5 s0 s1 s2 s3 s4 s5 s6 hl2
            go_wp2
            go_ret
            exact ⟨by first | rfl | (rw [hf]; rfl), HBW5.out⟩
      · obtain rfl : i = 3 := by omega
        have e1 : ¬ (((3 : Nat) : Int) < 3) := by decide
        have hf := HE.out HP.out.1 HP.out.2.1
        go_wp2
        go_ret
        exact ⟨by first | rfl | (rw [hf]; rfl), HP.out.2.2.1⟩

end Go.Proofs.Yticpmkdlnjnfgaa
