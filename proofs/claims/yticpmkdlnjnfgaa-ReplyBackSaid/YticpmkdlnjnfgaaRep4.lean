/- Replies (layer 39): the walk of the reference's Take. -/
import Derived.Test.YticpmkdlnjnfgaaRep3
import Derived.Test.YticpmkdlnjnfgaaRReader2
set_option linter.unusedSimpArgs false
namespace Go.Proofs.Yticpmkdlnjnfgaa
open Go.RowKit Go.Sort

set_option maxRecDepth 100000 in
set_option maxHeartbeats 1600000 in
theorem rrepTake_any (y : Value) (b : List UInt8) (w : World) (hy : Bs w y b) (hl : b.length ≤ 1048576) :
    Calls Try.prog 41 #[y] w (RepTakePost b w) := by
  obtain ⟨ya, yc, hs⟩ := hy.shape
  subst hs
  obtain ⟨w1, hw1⟩ : ∃ W, w.alloc (.cells #[.int .i64 0, .int .i64 0, .int .i64 0, .slice none 0 0] 59) = W := ⟨_, rfl⟩
  have hb1 : Below w.heap.size w w1 := by rw [← hw1]; exact (Below.refl _ _).alloc (Nat.le_refl _) _
  have k0 : w1.heap[w.heap.size]? = some (.cells #[.int .i64 0, .int .i64 0, .int .i64 0, .slice none 0 0] 59 (0, 0)) := by rw [← hw1]; exact heap_alloc_new _ _
  have hz1 : w1.heap.size = w.heap.size + 1 := by rw [← hw1]; simp
  have HWW := Lib.hid hw1
  have hF := Lib.hid (rfwhole_any 6 6 rfl _ b w1 (hy.below hb1) hl)
  have hlen := fwhole_len 6 b
  obtain ⟨c, f, hfw⟩ : ∃ c f, fwhole 6 b = (c, f) := ⟨_, _, rfl⟩
  unfold WholePost at hF
  rw [hfw] at hF hlen
  simp only at hF hlen
  have HFW := Lib.hid hfw
  have KK : Hid (∀ W, Below w1.heap.size w1 W → W.heap[w.heap.size]? = some (.cells #[.int .i64 0, .int .i64 0, .int .i64 0, .slice none 0 0] 59 (0, 0))) := fun W hW => (hW.block w.heap.size (by omega)).trans k0
  have KB : Hid (∀ W, Below w1.heap.size w1 W → Below w.heap.size w W) := fun W hW => hb1.trans (hW.mono (by omega))
  have HZ1 := Lib.hid hz1
  clear hw1 hfw k0 hz1
  go_enter Try.func41, Try.ntmps41
  go_wp2_with fail
  rw [HWW.out]
  refine hF.out.mono ?_
  rintro e w2 ⟨cv, rfl, hcv, hb2⟩
  obtain ⟨ca, cc, hcs⟩ := hcv.shape
  subst hcs
  by_cases hf : f = 0
  · subst hf
    go_wp2_with fail
    refine (rread_any _ c _ hcv).mono ?_
    rintro e w3 ⟨rfl, hr3, hb3⟩
    obtain ⟨n1, p1, b1, hv1⟩ : ∃ n p b, rnum 99 c 0 0 = (n, p, b) := ⟨_, _, _, rfl⟩
    obtain ⟨n2, p2, b2, hv2⟩ : ∃ n p b, rsig 281474976710656 c p1 b1 = (n, p, b) := ⟨_, _, _, rfl⟩
    obtain ⟨n3, p3, b3, hv3⟩ : ∃ n p b, rsig 281474976710656 c p2 b2 = (n, p, b) := ⟨_, _, _, rfl⟩
    obtain ⟨t, p, q, hv4⟩ : ∃ n p b, rbytes 1048576 c p3 b3 = (n, p, b) := ⟨_, _, _, rfl⟩
    have HRR := Lib.hid (rread_eq hv1 hv2 hv3 hv4)
    have hcl : c.length ≤ 140737488355328 := by omega
    have C1 := fun w h => rrnumber_rd 99 (by omega) w2.heap.size (.slice ca c.length cc) c 0 0 w h
    unfold RNumPost at C1
    rw [hv1] at C1
    have C2 := fun w h => rrsigned_rd 281474976710656 (by omega) w2.heap.size (.slice ca c.length cc) c p1 b1 w h
    unfold RSigPost at C2
    rw [hv2] at C2
    have C3 := fun w h => rrsigned_rd 281474976710656 (by omega) w2.heap.size (.slice ca c.length cc) c p2 b2 w h
    unfold RSigPost at C3
    rw [hv3] at C3
    have C4 := fun w h => rrbytes_rd 1048576 (by omega) w2.heap.size (.slice ca c.length cc) c p3 b3 w h hcl
    unfold RBytesPost at C4
    rw [hv4] at C4
    simp only at C1 C2 C3 C4
    have H1 := Lib.hid C1
    have H2 := Lib.hid C2
    have H3 := Lib.hid C3
    have H4 := Lib.hid C4
    have YL : Hid (c ≠ [] → ∀ k, (Value.slice ca c.length cc).ownBlock = some k → k < w2.heap.size) := fun hl => hcv.lt hl
    have hb13 : Below w1.heap.size w1 w3 := hb2.trans (hb3.mono hb2.size)
    have hs12 := hb2.size
    have l2 := hr3.lt
    clear C1 C2 C3 C4 hv1 hv2 hv3 hv4
    go_wp2_with fail
    refine (H1.out _ hr3).mono ?_
    rintro e w4 ⟨rfl, h4, ho4⟩
    have hb14 : Below w1.heap.size w1 w4 := hb13.trans (ho4.below (fun k hk => by omega) hb13.size)
    obtain ⟨w5, hw5⟩ : ∃ W, w4.alloc (.cells #[.int .i64 (n1 : Int), .int .i64 0, .int .i64 0, .slice none 0 0] 59) = W := ⟨_, rfl⟩
    have hb5 : Below w4.heap.size w4 w5 := by rw [← hw5]; exact (Below.refl _ _).alloc (Nat.le_refl _) _
    have r5 : w5.heap[w4.heap.size]? = some (.cells #[.int .i64 (n1 : Int), .int .i64 0, .int .i64 0, .slice none 0 0] 59 (0, 0)) := by rw [← hw5]; exact heap_alloc_new _ _
    have hb15 := hb14.trans (hb5.mono hb14.size)
    have h5 := h4.below hb5
    have HW5 := Lib.hid hw5
    have l4 := h4.lt
    clear hw5
    go_wp2_with fail
    rw [HW5.out]
    go_wp2_with fail
    refine (H2.out _ h5).mono ?_
    rintro e w6 ⟨rfl, h6, ho6⟩
    have r6 := (ho6.block _ (heap_lt r5) (by omega)).trans r5
    have hb16 : Below w1.heap.size w1 w6 := hb15.trans (ho6.below (fun k hk => by omega) hb15.size)
    obtain ⟨w7, hw7⟩ : ∃ W, w6.setCell ⟨w4.heap.size, 1, none⟩ (.int .i64 (vback n2)) = W := ⟨_, rfl⟩
    have r7 := row_setCell r6 1 (.int .i64 (vback n2))
    have s7 := set_only w6 w4.heap.size 1 (.int .i64 (vback n2))
    rw [hw7] at r7 s7
    have h7 := h6.only s7 (by omega) (fun hl k hk => by have := YL.out hl k hk; omega)
    have hs14 := hb14.size
    have hb17 : Below w1.heap.size w1 w7 := hb16.trans (s7.below (fun k hk => by omega) hb16.size)
    have x6 := cell_of_row _ _ 1 _ _ _ r6
    have y6 := row_free r6 1
    have R7 := Lib.hid r7
    have HW7 := Lib.hid hw7
    clear r5 r6 hw7 r7
    go_wp2_with fail
    rw [HW7.out]
    go_wp2_with fail
    refine (H3.out _ h7).mono ?_
    rintro e w8 ⟨rfl, h8, ho8⟩
    have r8 := (ho8.block _ (heap_lt R7.out) (by omega)).trans R7.out
    have hb18 : Below w1.heap.size w1 w8 := hb17.trans (ho8.below (fun k hk => by omega) hb17.size)
    obtain ⟨w9, hw9⟩ : ∃ W, w8.setCell ⟨w4.heap.size, 2, none⟩ (.int .i64 (vback n3)) = W := ⟨_, rfl⟩
    have r9 := row_setCell r8 2 (.int .i64 (vback n3))
    have s9 := set_only w8 w4.heap.size 2 (.int .i64 (vback n3))
    rw [hw9] at r9 s9
    have h9 := h8.only s9 (by omega) (fun hl k hk => by have := YL.out hl k hk; omega)
    have hb19 : Below w1.heap.size w1 w9 := hb18.trans (s9.below (fun k hk => by omega) hb18.size)
    have x8 := cell_of_row _ _ 2 _ _ _ r8
    have y8 := row_free r8 2
    have R9 := Lib.hid r9
    have HW9 := Lib.hid hw9
    clear r8 hw9 r9
    go_wp2_with fail
    rw [HW9.out]
    go_wp2_with fail
    refine (H4.out _ h9).mono ?_
    rintro e w10 ⟨v, rfl, hov, h10, ho10⟩
    obtain ⟨va, vc, hvs⟩ := hov.shape
    subst hvs
    have r10 := (ho10.block _ (heap_lt R9.out) (by omega)).trans R9.out
    have hb110 : Below w1.heap.size w1 w10 := hb19.trans (ho10.below (fun k hk => by omega) hb19.size)
    obtain ⟨w6, hw6⟩ : ∃ W, w10.setCell ⟨w4.heap.size, 3, none⟩ (.slice va t.length vc) = W := ⟨_, rfl⟩
    have r6' := row_setCell r10 3 (.slice va t.length vc)
    have s11 := set_only w10 w4.heap.size 3 (.slice va t.length vc)
    rw [hw6] at r6' s11
    have l4b := heap_lt R9.out
    have hv6 : Bs w6 (.slice va t.length vc) t := (hov.only s11 fun k hk => by have := (hov.lt k hk).1; omega).bs
    have h6 := h10.only s11 (by omega) (fun hl k hk => by have := YL.out hl k hk; omega)
    have hb16 : Below w1.heap.size w1 w6 := hb110.trans (s11.below (fun k hk => by omega) hb110.size)
    have x10 := cell_of_row _ _ 3 _ _ _ r10
    have y10 := row_free r10 3
    have hvw : t ≠ [] → (Value.slice va t.length vc).ownBlock ≠ some w.heap.size := fun hl e => by have h1 := (hov.lt _ e).1; have := hb19.size; have := HZ1.out; omega
    have HVW := Lib.hid hvw
    have R6 := Lib.hid r6'
    have HW6 := Lib.hid hw6
    obtain ⟨d, hd⟩ : ∃ d, rdone c p q = d := ⟨_, rfl⟩
    have hD := fun W h => rrdone_any w2.heap.size (.slice ca c.length cc) c p q W h
    rw [hd] at hD
    have HD := Lib.hid hD
    have HDD := Lib.hid hd
    clear r10 hw6 r6' hvw hd hD
    go_wp2_with fail
    rw [HW6.out]
    go_wp2_with fail
    refine (HD.out _ h6).mono ?_
    rintro e w7 ⟨rfl, hb7⟩
    have hb17 := hb16.trans (hb7.mono hb16.size)
    have r7 := (hb7.block _ (heap_lt R6.out)).trans R6.out
    have hv7 := hv6.below hb7
    by_cases hdz : d = 0
    · subst hdz
      have i70 := cell_of_row _ _ 0 _ _ _ r7
      have i71 := cell_of_row _ _ 1 _ _ _ r7
      have i72 := cell_of_row _ _ 2 _ _ _ r7
      have i73 := cell_of_row _ _ 3 _ _ _ r7
      have R7 := Lib.hid r7
      have hO := rrepRight_any ⟨n1, vback n2, vback n3, t⟩ _ w7 hv7
      unfold Rep.agg at hO
      obtain ⟨ok, hok⟩ : ∃ ok, repOk ⟨(n1 : Int), vback n2, vback n3, t⟩ = ok := ⟨_, rfl⟩
      rw [hok] at hO
      have HO := Lib.hid hO
      have HOK := Lib.hid hok
      clear r7 hO hok
      go_wp2_with fail
      refine HO.out.mono ?_
      rintro e w8 ⟨rfl, hb8⟩
      have hb18 := hb17.trans (hb8.mono hb17.size)
      have hk := KK.out _ hb18
      have j0 := cell_of_row _ _ 0 _ _ _ hk
      have j1 := cell_of_row _ _ 1 _ _ _ hk
      have j2 := cell_of_row _ _ 2 _ _ _ hk
      have j3 := cell_of_row _ _ 3 _ _ _ hk
      have m0 := row_free hk 0
      have m1 := row_free hk 1
      have m2 := row_free hk 2
      have m3 := row_free hk 3
      have HK := Lib.hid hk
      have hv8 := hv7.below hb8
      clear hk
      cases ok
      · go_wp2_with fail
        obtain ⟨hp, hrow⟩ := rep_end b repZero (2 : Nat) (.slice none 0 0) (Rd.nil _ _) (by simp [repZero]) (rtake_n HFW.out HRR.out HDD.out HOK.out) (KB.out _ hb18) HK.out
        have c0 := cell_of_row _ _ 0 _ _ _ hrow
        have c1 := cell_of_row _ _ 1 _ _ _ hrow
        have c2 := cell_of_row _ _ 2 _ _ _ hrow
        have c3 := cell_of_row _ _ 3 _ _ _ hrow
        simp only [repZero] at c0 c1 c2 c3
        refine bodyPost_ret (v := .tuple #[repZero.agg (.slice none 0 0), .int .i64 (((2 : Nat) : Nat) : Int)]) ?_ rfl hp
        simp [results, Try.results41, go_sem, Rep.agg, repZero, c0, c1, c2, c3]
      · have r8 := (hb8.block _ (heap_lt R7.out)).trans R7.out
        have i80 := cell_of_row _ _ 0 _ _ _ r8
        have i81 := cell_of_row _ _ 1 _ _ _ r8
        have i82 := cell_of_row _ _ 2 _ _ _ r8
        have i83 := cell_of_row _ _ 3 _ _ _ r8
        clear r8 R7
        go_wp2_with fail
        obtain ⟨hp, hrow⟩ := rep_end b ⟨n1, vback n2, vback n3, t⟩ (0 : Nat) (.slice va t.length vc) hv8 HVW.out (rtake_y HFW.out HRR.out HDD.out HOK.out) (KB.out _ hb18) HK.out
        have c0 := cell_of_row _ _ 0 _ _ _ hrow
        have c1 := cell_of_row _ _ 1 _ _ _ hrow
        have c2 := cell_of_row _ _ 2 _ _ _ hrow
        have c3 := cell_of_row _ _ 3 _ _ _ hrow
        clear hrow
        refine bodyPost_ret (v := .tuple #[Rep.agg ⟨n1, vback n2, vback n3, t⟩ (.slice va t.length vc), .int .i64 (((0 : Nat) : Nat) : Int)]) ?_ rfl hp
        simp [results, Try.results41, go_sem, Rep.agg, repZero, c0, c1, c2, c3]
    · have hdi : ((d : Int) != 0) = true := by simp; omega
      have h7 := h6.below hb7
      have HN := Lib.hid hdz
      clear hdz r7
      go_wp2_with fail
      refine (HD.out _ h7).mono ?_
      rintro e w8 ⟨rfl, hb8⟩
      have hb18 := hb17.trans (hb8.mono hb17.size)
      have hk := KK.out _ hb18
      have j0 := cell_of_row _ _ 0 _ _ _ hk
      have j1 := cell_of_row _ _ 1 _ _ _ hk
      have j2 := cell_of_row _ _ 2 _ _ _ hk
      have j3 := cell_of_row _ _ 3 _ _ _ hk
      have m0 := row_free hk 0
      have m1 := row_free hk 1
      have m2 := row_free hk 2
      have m3 := row_free hk 3
      have HK := Lib.hid hk
      clear hk
      go_wp2_with fail
      obtain ⟨hp, hrow⟩ := rep_end b repZero d (.slice none 0 0) (Rd.nil _ _) (by simp [repZero]) (rtake_d HFW.out HRR.out HDD.out HN.out) (KB.out _ hb18) HK.out
      have c0 := cell_of_row _ _ 0 _ _ _ hrow
      have c1 := cell_of_row _ _ 1 _ _ _ hrow
      have c2 := cell_of_row _ _ 2 _ _ _ hrow
      have c3 := cell_of_row _ _ 3 _ _ _ hrow
      simp only [repZero] at c0 c1 c2 c3
      refine bodyPost_ret (v := .tuple #[repZero.agg (.slice none 0 0), .int .i64 ((d : Nat) : Int)]) ?_ rfl hp
      simp [results, Try.results41, go_sem, Rep.agg, repZero, c0, c1, c2, c3]
  · have hfi : ((f : Int) != 0) = true := by simp; omega
    have hk := KK.out _ hb2
    have i0 := cell_of_row _ _ 0 _ _ _ hk
    have i1 := cell_of_row _ _ 1 _ _ _ hk
    have i2 := cell_of_row _ _ 2 _ _ _ hk
    have i3 := cell_of_row _ _ 3 _ _ _ hk
    have m0 := row_free hk 0
    have m1 := row_free hk 1
    have m2 := row_free hk 2
    have m3 := row_free hk 3
    have HK := Lib.hid hk
    have HN := Lib.hid hf
    clear hk hf
    go_wp2_with fail
    obtain ⟨hp, hrow⟩ := rep_end b repZero f (.slice none 0 0) (Rd.nil _ _) (by simp [repZero]) (rtake_f HFW.out HN.out) (KB.out _ hb2) HK.out
    have c0 := cell_of_row _ _ 0 _ _ _ hrow
    have c1 := cell_of_row _ _ 1 _ _ _ hrow
    have c2 := cell_of_row _ _ 2 _ _ _ hrow
    have c3 := cell_of_row _ _ 3 _ _ _ hrow
    simp only [repZero, List.getD_eq_getElem?_getD] at c0 c1 c2 c3
    refine bodyPost_ret (v := .tuple #[repZero.agg (.slice none 0 0), .int .i64 (f : Int)]) ?_ rfl hp
    simp [results, Try.results41, go_sem, Rep.agg, repZero, c0, c1, c2, c3]

end Go.Proofs.Yticpmkdlnjnfgaa
