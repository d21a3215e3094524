/- Replies (layer 39): the walk of reply.Take. -/
import Derived.Test.YticpmkdlnjnfgaaRep2
import Derived.Test.YticpmkdlnjnfgaaTraceP
set_option linter.unusedSimpArgs false
namespace Go.Proofs.Yticpmkdlnjnfgaa
open Go.RowKit Go.Sort

theorem rtake_f {b c : List UInt8} {f : Nat} (h : fwhole 6 b = (c, f)) (hf : f ≠ 0) : rtakeRep b = (repZero, f) := by
  unfold rtakeRep
  rw [h]
  simp [hf]
theorem rtake_d {b c : List UInt8} {p q d : Nat} {r : Rep} (h : fwhole 6 b = (c, 0)) (hr : rread c = (r, p, q)) (hd : rdone c p q = d) (hf : d ≠ 0) : rtakeRep b = (repZero, d) := by
  rw [rtakeRep_eq h hr, hd]
  simp [hf]
theorem rtake_n {b c : List UInt8} {p q : Nat} {r : Rep} (h : fwhole 6 b = (c, 0)) (hr : rread c = (r, p, q)) (hd : rdone c p q = 0) (hf : repOk r = false) : rtakeRep b = (repZero, 2) := by
  rw [rtakeRep_eq h hr, hd]
  simp [hf]
theorem rtake_y {b c : List UInt8} {p q : Nat} {r : Rep} (h : fwhole 6 b = (c, 0)) (hr : rread c = (r, p, q)) (hd : rdone c p q = 0) (hf : repOk r = true) : rtakeRep b = (r, 0) := by
  rw [rtakeRep_eq h hr, hd]
  simp [hf]

/-- the end of Take: the result variable's block is stored and handed out -/
theorem rep_end {w W : World} (b : List UInt8) (r : Rep) (e : Nat) (v : Value) (hv : Bs W v r.t) (hne : r.t ≠ [] → v.ownBlock ≠ some w.heap.size) (ht : rtakeRep b = (r, e)) (hb : Below w.heap.size w W)
    (hk : W.heap[w.heap.size]? = some (.cells #[.int .i64 0, .int .i64 0, .int .i64 0, .slice none 0 0] 59 (0, 0))) :
    (RepTakePost b w (.returned (.tuple #[r.agg v, .int .i64 (e : Int)])) ((((W.setCell ⟨w.heap.size, 0, none⟩ (.int .i64 r.e)).setCell ⟨w.heap.size, 1, none⟩ (.int .i64 r.n)).setCell ⟨w.heap.size, 2, none⟩ (.int .i64 r.m)).setCell ⟨w.heap.size, 3, none⟩ v)) ∧
    ((((W.setCell ⟨w.heap.size, 0, none⟩ (.int .i64 r.e)).setCell ⟨w.heap.size, 1, none⟩ (.int .i64 r.n)).setCell ⟨w.heap.size, 2, none⟩ (.int .i64 r.m)).setCell ⟨w.heap.size, 3, none⟩ v).heap[w.heap.size]? = some (.cells #[.int .i64 r.e, .int .i64 r.n, .int .i64 r.m, v] 59 (0, 0)) := by
  obtain ⟨h1, h2⟩ := row4_set (.int .i64 r.e) (.int .i64 r.n) (.int .i64 r.m) v hk
  refine ⟨⟨v, by rw [ht], ?_, ?_⟩, h1⟩
  · rw [ht]
    exact hv.only' h2 fun hl k hk e => hne hl (by rw [hk, e])
  · exact hb.trans (h2.below (fun k hk => by omega) hb.size)

set_option maxRecDepth 100000 in
set_option maxHeartbeats 1600000 in
theorem repTake_any (y : Value) (b : List UInt8) (w : World) (hy : Bs w y b) (hl : b.length ≤ 1048576) :
    Calls Try.prog 40 #[y] w (RepTakePost b w) := by
  obtain ⟨ya, yc, hs⟩ := hy.shape
  subst hs
  obtain ⟨w1, hw1⟩ : ∃ W, w.alloc (.cells #[.int .i64 0, .int .i64 0, .int .i64 0, .slice none 0 0] 59) = W := ⟨_, rfl⟩
  have hb1 : Below w.heap.size w w1 := by rw [← hw1]; exact (Below.refl _ _).alloc (Nat.le_refl _) _
  have k0 : w1.heap[w.heap.size]? = some (.cells #[.int .i64 0, .int .i64 0, .int .i64 0, .slice none 0 0] 59 (0, 0)) := by rw [← hw1]; exact heap_alloc_new _ _
  have hz1 : w1.heap.size = w.heap.size + 1 := by rw [← hw1]; simp
  have HWW := Lib.hid hw1
  have hF := Lib.hid (fwhole_any 6 6 rfl _ b w1 (hy.below hb1) hl)
  have hlen := fwhole_len 6 b
  obtain ⟨c, f, hfw⟩ : ∃ c f, fwhole 6 b = (c, f) := ⟨_, _, rfl⟩
  unfold WholePost at hF
  rw [hfw] at hF hlen
  simp only at hF hlen
  have HFW := Lib.hid hfw
  have KK : Hid (∀ W, Below w1.heap.size w1 W → W.heap[w.heap.size]? = some (.cells #[.int .i64 0, .int .i64 0, .int .i64 0, .slice none 0 0] 59 (0, 0))) := fun W hW => (hW.block w.heap.size (by omega)).trans k0
  have KB : Hid (∀ W, Below w1.heap.size w1 W → Below w.heap.size w W) := fun W hW => hb1.trans (hW.mono (by omega))
  have HZ1 := Lib.hid hz1
  clear hw1 hfw k0 hz1
  go_enter Try.func40, Try.ntmps40
  go_wp2_with fail
  rw [HWW.out]
  refine hF.out.mono ?_
  rintro e w2 ⟨cv, rfl, hcv, hb2⟩
  obtain ⟨ca, cc, hcs⟩ := hcv.shape
  subst hcs
  by_cases hf : f = 0
  · subst hf
    go_wp2_with fail
    refine (read_any _ c _ hcv).mono ?_
    rintro e w3 ⟨rfl, hr3, hb3⟩
    obtain ⟨w4, hw4⟩ : ∃ W, w3.alloc (.cells #[.pointer (some ⟨w2.heap.size, 0, none⟩)] 115) = W := ⟨_, rfl⟩
    have hb4 : Below w3.heap.size w3 w4 := by rw [← hw4]; exact (Below.refl _ _).alloc (Nat.le_refl _) _
    have e4 : w4.heap[w3.heap.size]? = some (.cells #[.pointer (some ⟨w2.heap.size, 0, none⟩)] 115 (0, 0)) := by rw [← hw4]; exact heap_alloc_new _ _
    have z4 : w4.heap.size = w3.heap.size + 1 := by rw [← hw4]; simp
    obtain ⟨r, p, q, hrr⟩ : ∃ r p q, rread c = (r, p, q) := ⟨_, _, _, rfl⟩
    have hE := Lib.hid (eye_any _ _ c r p q w4 (hr3.below hb4) (by omega) hrr)
    have HRR := Lib.hid hrr
    have HW4 := Lib.hid hw4
    have i4 := cell_of_row _ _ 0 _ _ _ e4
    have hb14 : Below w1.heap.size w1 w4 := (hb2.trans (hb3.mono hb2.size)).trans (hb4.mono (Nat.le_trans hb2.size hb3.size))
    have l2 := hr3.lt
    have E4 := Lib.hid e4
    have Z4 := Lib.hid z4
    clear hw4 hrr e4 z4
    go_wp2_with fail
    rw [HW4.out]
    go_wp2_with fail
    refine hE.out.mono ?_
    rintro e w5 ⟨v, rfl, hv5, hown, h5, ho5⟩
    obtain ⟨va, vc, hvs⟩ := hv5.shape
    subst hvs
    obtain ⟨w6, hw6⟩ : ∃ W, w5.alloc (.cells #[.int .i64 r.e, .int .i64 r.n, .int .i64 r.m, .slice va r.t.length vc] 59) = W := ⟨_, rfl⟩
    have hb6 : Below w5.heap.size w5 w6 := by rw [← hw6]; exact (Below.refl _ _).alloc (Nat.le_refl _) _
    have r6 : w6.heap[w5.heap.size]? = some (.cells #[.int .i64 r.e, .int .i64 r.n, .int .i64 r.m, .slice va r.t.length vc] 59 (0, 0)) := by rw [← hw6]; exact heap_alloc_new _ _
    have e5 := (ho5.block w3.heap.size (heap_lt E4.out) (by omega)).trans E4.out
    have e6 := (hb6.block w3.heap.size (heap_lt e5)).trans e5
    have i6 := cell_of_row _ _ 0 _ _ _ e6
    have i5 := cell_of_row _ _ 0 _ _ _ e5
    have l35 := heap_lt e5
    have n35 : w3.heap.size ≠ w5.heap.size := by omega
    have i6a := i6
    rw [← hw6] at i6a
    have hW6 := Lib.hid hw6
    have hb15 : Below w1.heap.size w1 w5 := hb14.trans (ho5.below (fun k hk => by have := hb2.size; omega) hb14.size)
    have hb16 : Below w1.heap.size w1 w6 := hb15.trans (hb6.mono hb15.size)
    have h6 := h5.below hb6
    have hv6 := hv5.below hb6
    have R6 := Lib.hid r6
    have E6 := Lib.hid e6
    have hvw : r.t ≠ [] → (Value.slice va r.t.length vc).ownBlock ≠ some w.heap.size := fun hl e => by have h1 := hown hl _ e; have := hb14.size; have := HZ1.out; omega
    have HVW := Lib.hid hvw
    have HOWN := Lib.hid hown
    obtain ⟨d, hd⟩ : ∃ d, rdone c p q = d := ⟨_, rfl⟩
    have hD := rdone_any _ _ c p q w6 h6
    rw [hd] at hD
    have HD := Lib.hid hD
    have HDD := Lib.hid hd
    clear hw6 r6 e5 e6 hd hD hvw hown
    unfold Rep.agg
    go_wp2_with fail
    rw [hW6.out]
    go_wp2_with fail
    refine HD.out.mono ?_
    rintro e w7 ⟨rfl, hb7⟩
    have hb17 := hb16.trans (hb7.mono hb16.size)
    have r7 := (hb7.block _ (heap_lt R6.out)).trans R6.out
    have hv7 := hv6.below hb7
    by_cases hdz : d = 0
    · subst hdz
      have i70 := cell_of_row _ _ 0 _ _ _ r7
      have i71 := cell_of_row _ _ 1 _ _ _ r7
      have i72 := cell_of_row _ _ 2 _ _ _ r7
      have i73 := cell_of_row _ _ 3 _ _ _ r7
      have R7 := Lib.hid r7
      have hO := repRight_any r _ w7 hv7
      unfold Rep.agg at hO
      obtain ⟨ok, hok⟩ : ∃ ok, repOk r = ok := ⟨_, rfl⟩
      rw [hok] at hO
      have HO := Lib.hid hO
      have HOK := Lib.hid hok
      clear r7 hO hok
      go_wp2_with fail
      refine HO.out.mono ?_
      rintro e w8 ⟨rfl, hb8⟩
      have hb18 := hb17.trans (hb8.mono hb17.size)
      have hk := KK.out _ hb18
      have j0 := cell_of_row _ _ 0 _ _ _ hk
      have j1 := cell_of_row _ _ 1 _ _ _ hk
      have j2 := cell_of_row _ _ 2 _ _ _ hk
      have j3 := cell_of_row _ _ 3 _ _ _ hk
      have m0 := row_free hk 0
      have m1 := row_free hk 1
      have m2 := row_free hk 2
      have m3 := row_free hk 3
      have HK := Lib.hid hk
      have hv8 := hv7.below hb8
      clear hk
      cases ok
      · go_wp2_with fail
        obtain ⟨hp, hrow⟩ := rep_end b repZero (2 : Nat) (.slice none 0 0) (Rd.nil _ _) (by simp [repZero]) (rtake_n HFW.out HRR.out HDD.out HOK.out) (KB.out _ hb18) HK.out
        have c0 := cell_of_row _ _ 0 _ _ _ hrow
        have c1 := cell_of_row _ _ 1 _ _ _ hrow
        have c2 := cell_of_row _ _ 2 _ _ _ hrow
        have c3 := cell_of_row _ _ 3 _ _ _ hrow
        simp only [repZero] at c0 c1 c2 c3
        refine bodyPost_ret (v := .tuple #[repZero.agg (.slice none 0 0), .int .i64 (((2 : Nat) : Nat) : Int)]) ?_ rfl hp
        simp [results, Try.results40, go_sem, Rep.agg, repZero, c0, c1, c2, c3]
      · have r8 := (hb8.block _ (heap_lt R7.out)).trans R7.out
        have i80 := cell_of_row _ _ 0 _ _ _ r8
        have i81 := cell_of_row _ _ 1 _ _ _ r8
        have i82 := cell_of_row _ _ 2 _ _ _ r8
        have i83 := cell_of_row _ _ 3 _ _ _ r8
        clear r8 R7
        go_wp2_with fail
        obtain ⟨hp, hrow⟩ := rep_end b r (0 : Nat) (.slice va r.t.length vc) hv8 HVW.out (rtake_y HFW.out HRR.out HDD.out HOK.out) (KB.out _ hb18) HK.out
        have c0 := cell_of_row _ _ 0 _ _ _ hrow
        have c1 := cell_of_row _ _ 1 _ _ _ hrow
        have c2 := cell_of_row _ _ 2 _ _ _ hrow
        have c3 := cell_of_row _ _ 3 _ _ _ hrow
        clear hrow
        refine bodyPost_ret (v := .tuple #[r.agg (.slice va r.t.length vc), .int .i64 (((0 : Nat) : Nat) : Int)]) ?_ rfl hp
        simp [results, Try.results40, go_sem, Rep.agg, repZero, c0, c1, c2, c3]
    · have hdi : ((d : Int) != 0) = true := by simp; omega
      have hk := KK.out _ hb17
      have j0 := cell_of_row _ _ 0 _ _ _ hk
      have j1 := cell_of_row _ _ 1 _ _ _ hk
      have j2 := cell_of_row _ _ 2 _ _ _ hk
      have j3 := cell_of_row _ _ 3 _ _ _ hk
      have m0 := row_free hk 0
      have m1 := row_free hk 1
      have m2 := row_free hk 2
      have m3 := row_free hk 3
      have HK := Lib.hid hk
      have HN := Lib.hid hdz
      clear hk hdz r7
      go_wp2_with fail
      obtain ⟨hp, hrow⟩ := rep_end b repZero d (.slice none 0 0) (Rd.nil _ _) (by simp [repZero]) (rtake_d HFW.out HRR.out HDD.out HN.out) (KB.out _ hb17) HK.out
      have c0 := cell_of_row _ _ 0 _ _ _ hrow
      have c1 := cell_of_row _ _ 1 _ _ _ hrow
      have c2 := cell_of_row _ _ 2 _ _ _ hrow
      have c3 := cell_of_row _ _ 3 _ _ _ hrow
      simp only [repZero] at c0 c1 c2 c3
      refine bodyPost_ret (v := .tuple #[repZero.agg (.slice none 0 0), .int .i64 ((d : Nat) : Int)]) ?_ rfl hp
      simp [results, Try.results40, go_sem, Rep.agg, repZero, c0, c1, c2, c3]
  · have hfi : ((f : Int) != 0) = true := by simp; omega
    have hk := KK.out _ hb2
    have i0 := cell_of_row _ _ 0 _ _ _ hk
    have i1 := cell_of_row _ _ 1 _ _ _ hk
    have i2 := cell_of_row _ _ 2 _ _ _ hk
    have i3 := cell_of_row _ _ 3 _ _ _ hk
    have m0 := row_free hk 0
    have m1 := row_free hk 1
    have m2 := row_free hk 2
    have m3 := row_free hk 3
    have HK := Lib.hid hk
    have HN := Lib.hid hf
    clear hk hf
    go_wp2_with fail
    obtain ⟨hp, hrow⟩ := rep_end b repZero f (.slice none 0 0) (Rd.nil _ _) (by simp [repZero]) (rtake_f HFW.out HN.out) (KB.out _ hb2) HK.out
    have c0 := cell_of_row _ _ 0 _ _ _ hrow
    have c1 := cell_of_row _ _ 1 _ _ _ hrow
    have c2 := cell_of_row _ _ 2 _ _ _ hrow
    have c3 := cell_of_row _ _ 3 _ _ _ hrow
    simp only [repZero, List.getD_eq_getElem?_getD] at c0 c1 c2 c3
    refine bodyPost_ret (v := .tuple #[repZero.agg (.slice none 0 0), .int .i64 (f : Int)]) ?_ rfl hp
    simp [results, Try.results40, go_sem, Rep.agg, repZero, c0, c1, c2, c3]

end Go.Proofs.Yticpmkdlnjnfgaa
