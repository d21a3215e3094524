/- Samp6: Samp6, Samp7 as one text. -/
import Derived.Test.YtjnbdeopoohnmaaGreatDoorSamp5
import Derived.Test.YtjnbdeopoohnmaaGreatDoorSamp2
import Derived.Test.YtjnbdeopoohnmaaGreatDoorReader
import Derived.Test.YtjnbdeopoohnmaaGreatDoorRReader
/- The walk of Take of layer 5 (sample). -/
namespace Go.Proofs.YtjnbdeopoohnmaaGreatDoor
open Go.RowKit Go.Sort

theorem size_no (n : Int) (h1 : -9223372036854775808 ≤ n) (h2 : n ≤ 9223372036854775807) (w : World) :
    Calls Tryz.prog 84 #[.int .i64 n, .bool false] w fun e w' => e = .returned (.int .i64 ((vput n.toNat).length : Int)) ∧ Below w.heap.size w w' := by
  have hwr : Wr (w.alloc (.cells #[.slice none 0 0] 93)) w.heap.size w.heap.size (.slice none 0 0) [] := ⟨Nat.le_refl _, heap_alloc_new w _, Ob.nil _ _ _⟩
  have hbl : Below w.heap.size w (w.alloc (.cells #[.slice none 0 0] 93)) := (Below.refl _ _).alloc (Nat.le_refl _) _
  have hs := Lib.hid (wNumber_any n h1 h2 _ _ _ _ _ hwr (by simp) (by simp))
  have hl := vput_len10 n.toNat (by omega)
  clear hwr
  go_enter Tryz.func84, Tryz.ntmps84
  go_wp2_with fail
  refine hs.out.mono ?_
  rintro e w1 ⟨rfl, v1, hw1⟩
  have hwr0 : Wr (w.alloc (.cells #[.slice none 0 0] 93)) w.heap.size w.heap.size (.slice none 0 0) [] := ⟨Nat.le_refl _, heap_alloc_new w _, Ob.nil _ _ _⟩
  have hb1 := hbl.trans (hw1.bel hwr0 (by simp))
  have HW1 := Lib.hid hw1
  clear hw1 hwr0
  go_wp2_with fail
  refine (wOut_any _ v1 _ _ w1 HW1.out.wr (by simp; omega)).mono ?_
  rintro e w2 ⟨v2, rfl, ho2, hb2⟩
  obtain ⟨a, c, hv2⟩ := ho2.shape
  subst hv2
  go_wp2
  go_ret
  exact ⟨ret_int (by simp), hb1.trans (hb2.mono hb1.size)⟩

theorem size_yes (n : Int) (h1 : -9223372036854775808 ≤ n) (h2 : n ≤ 9223372036854775807) (w : World) :
    Calls Tryz.prog 84 #[.int .i64 n, .bool true] w fun e w' => e = .returned (.int .i64 ((vput (vturn n).toNat).length : Int)) ∧ Below w.heap.size w w' := by
  have hwr : Wr (w.alloc (.cells #[.slice none 0 0] 93)) w.heap.size w.heap.size (.slice none 0 0) [] := ⟨Nat.le_refl _, heap_alloc_new w _, Ob.nil _ _ _⟩
  have hbl : Below w.heap.size w (w.alloc (.cells #[.slice none 0 0] 93)) := (Below.refl _ _).alloc (Nat.le_refl _) _
  have hs := Lib.hid (wSigned_any n h1 h2 _ _ _ _ _ hwr (by simp) (by simp))
  have hl := vput_len10 (vturn n).toNat (vturn_bound n h1 h2)
  clear hwr
  go_enter Tryz.func84, Tryz.ntmps84
  go_wp2_with fail
  refine hs.out.mono ?_
  rintro e w1 ⟨rfl, v1, hw1⟩
  have hwr0 : Wr (w.alloc (.cells #[.slice none 0 0] 93)) w.heap.size w.heap.size (.slice none 0 0) [] := ⟨Nat.le_refl _, heap_alloc_new w _, Ob.nil _ _ _⟩
  have hb1 := hbl.trans (hw1.bel hwr0 (by simp))
  have HW1 := Lib.hid hw1
  clear hw1 hwr0
  go_wp2_with fail
  refine (wOut_any _ v1 _ _ w1 HW1.out.wr (by simp; omega)).mono ?_
  rintro e w2 ⟨v2, rfl, ho2, hb2⟩
  obtain ⟨a, c, hv2⟩ := ho2.shape
  subst hv2
  go_wp2
  go_ret
  exact ⟨ret_int (by simp), hb1.trans (hb2.mono hb1.size)⟩

theorem size_nat (n : Nat) (h : n < 9223372036854775808) (w : World) :
    Calls Tryz.prog 84 #[.int .i64 n, .bool false] w fun e w' => e = .returned (.int .i64 ((vput n).length : Int)) ∧ Below w.heap.size w w' := by
  have := size_no n (by omega) (by omega) w
  rwa [show ((n : Int)).toNat = n by omega] at this

theorem size_back (n : Nat) (h : n < 18446744073709551616) (w : World) :
    Calls Tryz.prog 84 #[.int .i64 (vback n), .bool true] w fun e w' => e = .returned (.int .i64 ((vput n).length : Int)) ∧ Below w.heap.size w w' := by
  have hr := vback_range n h
  have := size_yes (vback n) hr.1 hr.2 w
  rwa [vturn_vback, show ((n : Int)).toNat = n by omega] at this

theorem stake_out {l : List UInt8} {n : Int} (h : n < 0 ∨ 2048 < n) : stake l n = ([], 0, 3) := by unfold stake; rw [if_pos h]
theorem stake_in {l : List UInt8} {n : Int} (h : ¬ (n < 0 ∨ 2048 < n)) : stake l n = sgo l n.toNat 0 szero 0 [] := by unfold stake; rw [if_neg h]

theorem rdr_abide {g A : Nat} {y : Value} {l : List UInt8} {B : Nat} (hg : g < A) (hB : B ≤ A) (hy : l ≠ [] → ∀ k, y.ownBlock = some k → k < B) : Abide A (fun pos W => Rdr W g y l pos 0) := fun pos W W' h hb =>
  h.only (F := fun k => A ≤ k) ⟨hb.os, hb.tape, hb.output, hb.size, fun k _ hk => hb.block k (by omega)⟩ (by omega) (fun hl k hk e => by have := hy hl k hk; omega)

set_option maxRecDepth 100000 in
set_option maxHeartbeats 3200000 in
theorem stake_any (y : Value) (l : List UInt8) (n : Int) (hn : -9223372036854775808 ≤ n ∧ n ≤ 9223372036854775807) (w : World) (hy : Bs w y l) (hl : l.length ≤ 140737488355328) : Calls Tryz.prog 48 #[y, .int .i64 n] w (STakePost l n w) := by
  obtain ⟨a, c, hs⟩ := hy.shape
  subst hs
  by_cases hno : n < 0 ∨ 2048 < n
  · have hw : withinB n 2048 = false := by
      unfold withinB
      rw [Bool.eq_false_iff]
      simp only [ne_eq, Bool.and_eq_true, decide_eq_true_eq]
      omega
    have HW := Lib.hid hw
    have HN := Lib.hid hno
    clear hw hno
    go_enter Tryz.func48, Tryz.ntmps48
    go_wp2_with fail
    refine (within_is _ _ _ HW.out _).mono ?_
    rintro e w1 ⟨rfl, rfl⟩
    go_wp2
    go_ret3
    refine ⟨.slice none 0 0, ?_, ?_, Below.refl _ _⟩
    · rw [stake_out HN.out]; rfl
    · rw [stake_out HN.out]; exact Rd.nil _ _
  · have hw : withinB n 2048 = true := by
      unfold withinB
      simp only [Bool.and_eq_true, decide_eq_true_eq]
      omega
    obtain ⟨N, rfl⟩ : ∃ N : Nat, n = N := ⟨n.toNat, by omega⟩
    have hN : N ≤ 2048 := by omega
    have HST := Lib.hid (stake_in (l := l) hno)
    have HW := Lib.hid hw
    clear hw hno hn
    have hylt := hy.lt
    go_enter Tryz.func48, Tryz.ntmps48
    go_wp2_with fail
    refine (within_is _ _ _ HW.out _).mono ?_
    rintro e w1 ⟨rfl, rfl⟩
    go_wp2_with fail
    refine (read_any _ l _ hy).mono ?_
    rintro e w1 ⟨rfl, hr1, hb1⟩
    have hlt1 := hr1.lt
    have hR := Lib.hid (rdr_abide (g := w.heap.size) (A := w1.heap.size) (y := .slice a l.length c) (l := l) (B := w.heap.size) hlt1 hb1.size hylt)
    have hsz1 := hb1.size
    go_wp2
    go_loopw [8, 10, 23] (fun v u i wr => ∃ (k pos : Nat) (p : Smp) (out : List Smp), k ≤ N ∧ i = .int .i64 k ∧ u = .int .i64 pos ∧ Hid (sgo l (N - k) k p pos out = sgo l N 0 szero 0 []) ∧ out.length = k ∧ Hid (p = szero ∨ SMay p) ∧
        TK w w1.heap.size (fun pos W => Rdr W w.heap.size (.slice a l.length c) l pos 0) pos p v out wr) (fun _ _ i _ => N - (intOf i).toNat)
    case atStart =>
      refine ⟨0, 0, szero, [], by omega, rfl, rfl, rfl, rfl, .inl rfl, hb1.size, hR.out _ _ _ hr1 ((Below.refl _ _).alloc (Nat.le_refl _) _), heap_alloc_new w1 _, Os.nil _ _ _, hb1.alloc hb1.size _⟩
    case round =>
      obtain ⟨k, pos, p, out, hk, rfl, rfl, HG, hol, HP, hT⟩ := hrel
      have hlow := hT.low
      have hwr := hT.bel
      have hszr := hwr.size
      by_cases hlt : k < N
      · obtain ⟨m, hm⟩ : ∃ m, N - k = m + 1 := ⟨N - k - 1, by omega⟩
        rw [hm] at HG
        obtain ⟨n1, p1, b1, hv1⟩ : ∃ n p b, rnum 1099511627776 l pos 0 = (n, p, b) := ⟨_, _, _, rfl⟩
        obtain ⟨n2, p2, b2, hv2⟩ : ∃ n p b, rsig 67108864 l p1 b1 = (n, p, b) := ⟨_, _, _, rfl⟩
        obtain ⟨n3, p3, b3, hv3⟩ : ∃ n p b, rsig 67108864 l p2 b2 = (n, p, b) := ⟨_, _, _, rfl⟩
        have hG := HG.out
        rw [sgo_bad hv1 hv2 hv3] at hG
        have HG2 := Lib.hid hG
        have R1 := rnumber_rd 1099511627776 _ _ l pos 0 wr hT.rd
        unfold NumPost at R1
        rw [hv1] at R1
        have R2 := fun w1 h => rsigned_rd 67108864 w.heap.size (.slice a l.length c) l p1 b1 w1 h
        unfold SigPost at R2
        rw [hv2] at R2
        have R3 := fun w1 h => rsigned_rd 67108864 w.heap.size (.slice a l.length c) l p2 b2 w1 h
        unfold SigPost at R3
        rw [hv3] at R3
        have H3 := Lib.hid (fun h => three_ok hv1 hv2 hv3 h)
        have HR1 := Lib.hid R1
        have HR2 := Lib.hid R2
        have HR3 := Lib.hid R3
        have HM := Lib.hid hm
        have hn2 : n2 < 18446744073709551616 := by
          have := (rraw_le (mayS 67108864) l p1 b1 (by have := (rraw_le (mayN 1099511627776) l pos 0 hT.rd.le).1; unfold rnum at hv1; rw [hv1] at this; exact this)).2
          unfold rsig at hv2
          rwa [hv2] at this
        have hn3 : n3 < 18446744073709551616 := by
          have h1 := (rraw_le (mayS 67108864) l p1 b1 (by have := (rraw_le (mayN 1099511627776) l pos 0 hT.rd.le).1; unfold rnum at hv1; rw [hv1] at this; exact this)).1
          unfold rsig at hv2 hv3
          rw [hv2] at h1
          have := (rraw_le (mayS 67108864) l p2 b2 h1).2
          rwa [hv3] at this
        clear hG R1 R2 R3 hv1 hv2 hv3 hm HG
        have HT := Lib.hid hT
        clear hT
        have e1 : (k : Int) < N := by omega
        go_wp2_with fail
        refine HR1.out.mono ?_
        rintro e w2 ⟨rfl, h2, ho2⟩
        go_wp2_with fail
        refine (HR2.out _ h2).mono ?_
        rintro e w3 ⟨rfl, h3, ho3⟩
        go_wp2_with fail
        refine (HR3.out _ h3).mono ?_
        rintro e w4 ⟨rfl, h4, ho4⟩
        go_wp2_with fail
        refine (rerror_any _ _ l p3 b3 _ h4).mono ?_
        rintro e w5 ⟨rfl, rfl⟩
        by_cases hb3 : b3 = 0
        · subst hb3
          obtain ⟨rfl, rfl, k1, k2, k3, m1, m2, m3⟩ := H3.out rfl
          have hT4 := HT.out.read hlt1 (Nat.le_refl _) h4 ((ho2.trans ho3).trans ho4)
          have hKK := Lib.hid (And.intro k1 (And.intro k2 k3))
          have hvl1 := vput_len10 n1 (by omega)
          have hvl2 := vput_len10 n2 (by omega)
          have hvl3 := vput_len10 n3 (by omega)
          have hpl := h4.le
          clear k1 k2 k3 H3 HR1 HR2 HR3 h2 h3 ho2 ho3 ho4
          have c0 := hT4.c0
          have c1 := hT4.c1
          have c2 := hT4.c2
          have hpr : (0 ≤ p.t ∧ p.t ≤ 1099511627776) ∧ (0 ≤ p.x ∧ p.x < 67108864) ∧ (0 ≤ p.y ∧ p.y < 67108864) := by
            rcases HP.out with e | e
            · rw [e]; simp [szero]
            · unfold SMay at e; omega
          obtain ⟨s, hs⟩ : ∃ s, snext p n1 (vback n2) (vback n3) = s := ⟨_, rfl⟩
          have hst : s.t = p.t + n1 := by rw [← hs]; rfl
          have hsx : s.x = p.x + vback n2 := by rw [← hs]; rfl
          have hsy : s.y = p.y + vback n3 := by rw [← hs]; rfl
          have hG := HG2.out
          rw [hs, if_neg (by simp)] at hG
          have HG3 := Lib.hid hG
          obtain ⟨b, hb⟩ : ∃ b, mayB s = b := ⟨_, rfl⟩
          have HB := Lib.hid hb
          have HT4 := Lib.hid hT4
          clear HG2 hG hT4 hs hb h4
          have hsz4 := HT4.out.bel.size
          have hlt4 := HT4.out.lt
          have hmk := smay_is s b HB.out
          rw [hst, hsx, hsy] at hmk
          have HMK := Lib.hid hmk
          have HST2 := Lib.hid (And.intro hst (And.intro hsx hsy))
          clear hmk hst hsx hsy
          have hbl : Below w4.heap.size w4 (w4.alloc (.cells #[.int .i64 (p.t + n1), .int .i64 (p.x + vback n2), .int .i64 (p.y + vback n3)] 55)) := (Below.refl _ _).alloc (Nat.le_refl _) _
          have HS0 := Lib.hid (heap_alloc_new w4 (.cells #[.int .i64 (p.t + n1), .int .i64 (p.x + vback n2), .int .i64 (p.y + vback n3)] 55))
          have hwa : w4.heap.size + 1 = (w4.alloc (.cells #[.int .i64 (p.t + n1), .int .i64 (p.x + vback n2), .int .i64 (p.y + vback n3)] 55)).heap.size := by simp
          have HWA := Lib.hid hwa
          clear hwa
          go_wp2_with fail
          refine (HMK.out _).mono ?_
          rintro e w5 ⟨rfl, hb5⟩
          have hT5 := (HT4.out.below hR.out hbl).below hR.out hb5
          have hS5 := (hb5.block w4.heap.size (by rw [← HWA.out]; omega)).trans HS0.out
          have hg5 : w4.heap.size < w5.heap.size := heap_lt hS5
          have HT5 := Lib.hid hT5
          have HS5 := Lib.hid hS5
          have hsT := HT5.out.bel.size
          clear hT5 hS5 HS0 HMK
          by_cases hbad : b = false ∨ (0 < k ∧ n1 = 0)
          · have HE : Hid (stake l N = ([], 0, 2)) := by
              have h1 := HST.out
              have h2 := HG3.out
              rw [HB.out, if_pos hbad] at h2
              show _ = _
              rw [h1, Int.toNat_natCast, ← h2]
            rcases hbad with rfl | ⟨h0, h1⟩
            · go_wp2
              go_ret3
              refine ⟨.slice none 0 0, ?_, ?_, HT5.out.bel⟩
              · rw [HE.out]; rfl
              · rw [HE.out]; exact Rd.nil _ _
            · have hd : decide (0 < k) = true := by simp; omega
              have hz : ((n1 : Int) == 0) = true := by simp; omega
              clear h0 h1
              cases b
              · go_wp2
                go_ret3
                refine ⟨.slice none 0 0, ?_, ?_, HT5.out.bel⟩
                · rw [HE.out]; rfl
                · rw [HE.out]; exact Rd.nil _ _
              · go_wp2
                go_ret3
                refine ⟨.slice none 0 0, ?_, ?_, HT5.out.bel⟩
                · rw [HE.out]; rfl
                · rw [HE.out]; exact Rd.nil _ _
          · have hb1' : b = true := by cases b <;> simp_all
            subst hb1'
            have hG := HG3.out
            rw [HB.out, if_neg hbad] at hG
            have HG4 := Lib.hid hG
            have hsm : SMay s := (mayB_iff s).1 HB.out
            have HSM := Lib.hid hsm
            have hol2 : out.length ≤ 2048 := by omega
            have HOL := Lib.hid hol
            have hdd : decide (0 < k) = false ∨ (decide (0 < k) = true ∧ ((n1 : Int) == 0) = false) := by
              rcases Nat.eq_zero_or_pos k with h | h
              · left; simp; omega
              · right; constructor <;> simp <;> omega
            clear hG hsm hbad HG3 hol
            rcases hdd with hd | ⟨hd, hd2⟩
            all_goals
              go_wp2_with fail
              refine (size_nat n1 (by omega) _).mono ?_
              rintro e w6 ⟨rfl, hb6⟩
              go_wp2_with fail
              refine (size_back n2 hn2 _).mono ?_
              rintro e w7 ⟨rfl, hb7⟩
              go_wp2_with fail
              refine (size_back n3 hn3 _).mono ?_
              rintro e w8 ⟨rfl, hb8⟩
              have hb58 := hb6.trans ((hb7.trans (hb8.mono hb7.size)).mono hb6.size)
              have hT8 := HT5.out.below hR.out hb58
              have hS8 := (hb58.block _ hg5).trans HS5.out
              have x0 : w8.cell? ⟨w4.heap.size, 0, none⟩ = some (.int .i64 (p.t + n1)) := cell_of_row _ _ 0 _ _ _ hS8
              have x1 : w8.cell? ⟨w4.heap.size, 1, none⟩ = some (.int .i64 (p.x + vback n2)) := cell_of_row _ _ 1 _ _ _ hS8
              have x2 : w8.cell? ⟨w4.heap.size, 2, none⟩ = some (.int .i64 (p.y + vback n3)) := cell_of_row _ _ 2 _ _ _ hS8
              have hg8 := hb58.size
              have hlt8 := hT8.lt
              have hvo : ∀ j, u8.ownBlock = some j → j < w4.heap.size := fun j hj => (World.ownsRow.lt HT4.out.os j hj).2
              have HVO := Lib.hid hvo
              have hS8' := Lib.hid hS8
              have HT8 := Lib.hid hT8
              clear hb6 hb7 hb8 hT8 hS8 hvo
              go_wp2_with (at_builtin; go_must (refine wpList_append_smp HT8.out.os s elS (by omega) (by omega) (by omega) ?_ _ _ rfl rfl _ _ _ rfl rfl (by rw [HST2.out.1]) (by rw [HST2.out.2.1]) (by rw [HST2.out.2.2])); intro v9 w9 ho9 hg9 hb9; have hT9 := HT8.out.app hR.out ho9 hb9; have hS9 := (hg9.block w4.heap.size (by omega) (fun e => by have := HVO.out _ e.symm; omega)).trans hS8'.out; have y0 := cell_of_row w9 _ 0 _ _ _ hS9; have y1 := cell_of_row w9 _ 1 _ _ _ hS9; have y2 := cell_of_row w9 _ 2 _ _ _ hS9; have z0 := hT9.c0; have z1 := hT9.c1; have z2 := hT9.c2; have f0 := hT9.free 0; have f1 := hT9.free 1; have f2 := hT9.free 2; have HT9 := Lib.hid hT9; clear ho9 hg9 hb9 hT9 hS9)
              go_roundw
              case rel =>
                refine ⟨k + 1, p3, s, out ++ [s], by omega, by go_num, ?_, ?_, by simp [HOL.out], .inr HSM.out, ?_⟩
                · rw [IntWalk.wrap64_in _ (by have := hKK.out; omega)]
                  have := hKK.out
                  congr 1
                  omega
                · show _ = _
                  rw [show N - (k + 1) = m by have := HM.out; omega]
                  exact HG4.out
                · have := HT9.out.set hR.out s
                  rw [HST2.out.1, HST2.out.2.1, HST2.out.2.2] at this
                  exact this
              case measure => simp [intOf]; omega
        · have HB3 := Lib.hid hb3
          have hb4 : Below w.heap.size w w4 := HT.out.bel.trans (((ho2.trans ho3).trans ho4).below (fun k hk => by omega) HT.out.bel.size)
          have HE : Hid (stake l N = ([], 0, b3)) := by
            have h1 := HST.out
            have h2 := HG2.out
            rw [if_pos hb3] at h2
            show _ = _
            rw [h1, Int.toNat_natCast, ← h2]
          have hd : ((b3 : Int) != 0) = true := by simp; omega
          clear hb3
          go_wp2
          go_ret3
          refine ⟨.slice none 0 0, ?_, ?_, hb4⟩
          · rw [HE.out]; rfl
          · rw [HE.out]; exact Rd.nil _ _
      · have hkN : k = N := by omega
        have HE : Hid (stake l N = (out, pos, 0)) := by
          have h1 := HST.out
          have h2 := HG.out
          rw [hkN, Nat.sub_self, sgo] at h2
          show _ = _
          rw [h1, Int.toNat_natCast, ← h2]
        clear hkN
        have HT := Lib.hid hT
        clear hT
        go_wp2
        go_ret3
        refine ⟨u8, ?_, ?_, HT.out.bel⟩
        · rw [HE.out]; rfl
        · rw [HE.out]; exact HT.out.os.ss

end Go.Proofs.YtjnbdeopoohnmaaGreatDoor
/- The walk of Take of layer 5's reference. -/
namespace Go.Proofs.YtjnbdeopoohnmaaGreatDoor
open Go.RowKit Go.Sort

theorem rstake_out {l : List UInt8} {n : Int} (h : n < 0 ∨ 2048 < n) : stake l n = ([], 0, 3) := by unfold stake; rw [if_pos h]
theorem rstake_in {l : List UInt8} {n : Int} (h : ¬ (n < 0 ∨ 2048 < n)) : stake l n = sgo l n.toNat 0 szero 0 [] := by unfold stake; rw [if_neg h]

theorem rrd_abide {g A : Nat} {y : Value} {l : List UInt8} {B : Nat} (hg : g < A) (hB : B ≤ A) (hy : l ≠ [] → ∀ k, y.ownBlock = some k → k < B) : Abide A (fun pos W => RRd W g y l pos 0) := fun pos W W' h hb =>
  h.only (F := fun k => A ≤ k) ⟨hb.os, hb.tape, hb.output, hb.size, fun k _ hk => hb.block k (by omega)⟩ (by omega) (fun hl k hk e => by have := hy hl k hk; omega)

end Go.Proofs.YtjnbdeopoohnmaaGreatDoor
