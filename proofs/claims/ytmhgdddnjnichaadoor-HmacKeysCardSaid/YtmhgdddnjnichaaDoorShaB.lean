/- Layer 7 (sha): the walk of (words).block. -/
import Derived.Test.YtmhgdddnjnichaaDoorShaB0
import Derived.Deep.DeepCutAuto
set_option linter.unusedSimpArgs false
namespace Go.Proofs.YtmhgdddnjnichaaDoor
open Go.RowKit Go.Sort

set_option maxRecDepth 100000 in
set_option maxHeartbeats 20000000 in
theorem block_any (K : Nat → UInt32) (s : St) (y : Value) (l : List UInt8) (hl : l.length = 64) (w : World) (hy : Bs w y l)
    (h0 : 0 < w.heap.size) (hK : ∀ t, t < 64 → w.cell? ⟨0, t, none⟩ = some (.int .u32 (wn (K t)))) :
    Calls Tryd.prog 62 #[s.agg, y] w fun e w' => e = .returned (blk K s (mword l)).agg ∧ Below w.heap.size w w' := by
  obtain ⟨w0, hw0⟩ : ∃ W, ((w.alloc (.cells s.row 92)).alloc (.cells #[.int .u32 0, .int .u32 0, .int .u32 0, .int .u32 0, .int .u32 0, .int .u32 0, .int .u32 0, .int .u32 0] 92)).alloc (.cells #[.int .u32 0, .int .u32 0, .int .u32 0, .int .u32 0, .int .u32 0, .int .u32 0, .int .u32 0, .int .u32 0, .int .u32 0, .int .u32 0, .int .u32 0, .int .u32 0, .int .u32 0, .int .u32 0, .int .u32 0, .int .u32 0] 127) = W := ⟨_, rfl⟩
  have hb0 : Below w.heap.size w w0 := by rw [← hw0]; exact (((Below.refl _ _).alloc (Nat.le_refl _) _).alloc (by simp) _).alloc (by simp; omega) _
  have k2 : w0.heap[w.heap.size]? = some (.cells s.row 92 (0, 0)) := by rw [← hw0, alloc_get, if_neg (by simp; omega), alloc_get, if_neg (by simp), alloc_get, if_pos rfl]
  have k4 : w0.heap[w.heap.size + 1]? = some (.cells #[.int .u32 0, .int .u32 0, .int .u32 0, .int .u32 0, .int .u32 0, .int .u32 0, .int .u32 0, .int .u32 0] 92 (0, 0)) := by rw [← hw0, alloc_get, if_neg (by simp), alloc_get, if_pos (by simp)]
  have k5 : w0.heap[w.heap.size + 1 + 1]? = some (.cells (ring fun _ => 0) 127 (0, 0)) := by rw [← hw0, alloc_get, if_pos (by simp)]; rfl
  obtain ⟨B5, hB5⟩ : ∃ B, w.heap.size + 1 + 1 = B := ⟨_, rfl⟩
  obtain ⟨B4, hB4⟩ : ∃ B, w.heap.size + 1 = B := ⟨_, rfl⟩
  obtain ⟨B2, hB2⟩ : ∃ B, w.heap.size = B := ⟨_, rfl⟩
  rw [hB5] at k5
  rw [hB4] at k4
  rw [hB2] at k2
  have HB5 := Lib.hid hB5
  have HB4 := Lib.hid hB4
  have HB2 := Lib.hid hB2
  have HBs : Hid (B5 = B2 + 2 ∧ B4 = B2 + 1 ∧ w.heap.size = B2) := ⟨by omega, by omega, hB2⟩
  have HW0 := Lib.hid hw0
  clear hB5 hB4 hB2
  obtain ⟨ya, yc, adr, rfl, ha2, ha3, ha3', ha4, ha5⟩ := Bs.open_n elB hy 64 hl
  have QC : Hid (∀ W, Below w.heap.size w W → ∀ i, i < 64 → W.cell? (adr i) = some (.int .u8 (wn (bw l i)))) := by
    intro W hW i hi
    obtain ⟨x, hx⟩ : ∃ x, l[i]? = some x := ⟨_, List.getElem?_eq_getElem (by omega)⟩
    rw [hW.cell (ha4 i hi), ha5 i x hx, wn_byte l i x hx]
  have QK : Hid (∀ W, Below w.heap.size w W → ∀ t, t < 64 → W.cell? ⟨0, t, none⟩ = some (.int .u32 (wn (K t)))) := by
    intro W hW t ht
    rw [hW.cell h0, hK t ht]
  have HA3 := Lib.hid ha3'
  have WADD := w_add
  have WOR := w_or
  have WXOR := w_xor
  have WAND := w_and
  have WMOD := w_mod
  have WADD2 := w_addw
  have WMOD2 := w_modw
  have WS24 := fun x => w_shl x 24 (by omega)
  have WS16 := fun x => w_shl x 16 (by omega)
  have WS8 := fun x => w_shl x 8 (by omega)
  have WS24w := fun x => w_shlw x 24 (by omega)
  have WS16w := fun x => w_shlw x 16 (by omega)
  have WS8w := fun x => w_shlw x 8 (by omega)
  simp only [Int.reducePow] at WS24 WS16 WS8 WS24w WS16w WS8w
  clear ha3' ha4 ha5 hK hy hl ha2 ha3
  clear hw0
  unfold St.agg
  unfold St.row at HW0
  go_enter Tryd.func62, Tryd.ntmps62
  go_wp2_with fail
  rw [HW0.out]
  rw [HB5.out, HB4.out, HB2.out]
  go_loopw [18] (fun i wr => ∃ k : Nat, k ≤ 16 ∧ i = .int .i64 k ∧ wr.heap[B5]? = some (.cells (ring fun j => if j < k then mword l j else 0) 127 (0, 0)) ∧ Only (fun b => b = B5) w0 wr) (fun i _ => 16 - (intOf i).toNat)
  case atStart => exact ⟨0, by omega, rfl, by simpa using k5, Only.refl _ _⟩
  case round =>
    obtain ⟨k, hk, rfl, hr, hw⟩ := hrel
    by_cases hlt : k < 16
    · have e1 : (k : Int) < 16 := by omega
      have hwb : Below w.heap.size w wr := hb0.trans (hw.below (fun b hb => by have := HBs.out; omega) hb0.size)
      have e2 : IntKind.i64.wrap (4 * (k : Int)) = 4 * (k : Int) := IntWalk.i64_in _ (by omega)
      have x0 : ∀ W, (Instr.indexAt 22 (.slice ya 64 yc) (.int .i64 (4 * (k : Int)))).run Tryd.prog W = .ok (.pointer (some (adr (4 * k)))) W := fun W => by
        have := HA3.out W (4 * (k : Int)) (by omega) (by omega)
        rwa [show (4 * (k : Int)).toNat = 4 * k by omega] at this
      have e3 : ∀ j : Nat, 0 < j → j < 4 → IntKind.i64.wrap (4 * (k : Int) + (j : Int)) = 4 * (k : Int) + (j : Int) := fun j h1 h2 => IntWalk.i64_in _ (by omega)
      have xj : ∀ j : Nat, 0 < j → j < 4 → ∀ W, (Instr.indexAt 22 (.slice ya 64 yc) (.int .i64 (4 * (k : Int) + (j : Int)))).run Tryd.prog W = .ok (.pointer (some (adr (4 * k + j)))) W := fun j h1 h2 W => by
        have := HA3.out W (4 * (k : Int) + (j : Int)) (by omega) (by omega)
        rwa [show (4 * (k : Int) + (j : Int)).toNat = 4 * k + j by omega] at this
      have e31 := e3 1 (by omega) (by omega)
      have e32 := e3 2 (by omega) (by omega)
      have e33 := e3 3 (by omega) (by omega)
      have x1 := xj 1 (by omega) (by omega)
      have x2 := xj 2 (by omega) (by omega)
      have x3 := xj 3 (by omega) (by omega)
      simp only [Int.natCast_one, Int.cast_ofNat_Int] at e31 e32 e33 x1 x2 x3
      have q0 := QC.out wr hwb (4 * k) (by omega)
      have q1 := QC.out wr hwb (4 * k + 1) (by omega)
      have q2 := QC.out wr hwb (4 * k + 2) (by omega)
      have q3 := QC.out wr hwb (4 * k + 3) (by omega)
      have r0 : wr.cell? ⟨B5, k, none⟩ = some (.int .u32 (wn (if k < k then mword l k else 0))) := by rw [cell_of_row wr _ k _ _ _ hr]; exact ring_get _ hlt
      have r1 := row_free hr k
      have HR := Lib.hid hr
      have HW := Lib.hid hw
      have QS : Hid (∀ v, Below w.heap.size w (wr.setCell ⟨B5, k, none⟩ v).drew) := fun v => (hwb.trans ((set_only wr B5 k v).below (fun b hb => by have := HBs.out; omega) hwb.size)).drew
      clear e3 xj hr hw
      go_wp2
      go_region_held3 (fun w' => w'.cell? (adr (4 * k)) = some (.int .u8 (wn (bw l (4 * k)))) ∧ w'.cell? (adr (4 * k + 1)) = some (.int .u8 (wn (bw l (4 * k + 1)))) ∧ w'.cell? (adr (4 * k + 2)) = some (.int .u8 (wn (bw l (4 * k + 2)))) ∧ w'.cell? (adr (4 * k + 3)) = some (.int .u8 (wn (bw l (4 * k + 3)))))
        (first | (refine ⟨QC.out _ (QS.out _) _ ?_, QC.out _ (QS.out _) _ ?_, QC.out _ (QS.out _) _ ?_, QC.out _ (QS.out _) _ ?_⟩ <;> omega) | go_keep) (fail)
      go_wp2
      go_roundw
      case rel =>
        refine ⟨k + 1, by omega, by go_num, ?_, ?_⟩
        · have h1 := row_setCell HR.out k (.int .u32 (wn (mword l k)))
          rw [ring_set, ring_congr (g := fun j => if j < k + 1 then mword l j else 0) (fun j _ => by
            by_cases e : j = k
            · rw [if_pos e, if_pos (by omega), e]
            · rw [if_neg e]; by_cases e2 : j < k
              · rw [if_pos e2, if_pos (by omega)]
              · rw [if_neg e2, if_neg (by omega)])] at h1
          exact h1
        · exact only_drew (HW.out.trans (set_only wr B5 k _))
      case measure => simp [intOf]; omega
    · have e1 : ¬ (k : Int) < 16 := by omega
      obtain rfl : k = 16 := by omega
      have hwb : Below w.heap.size w wr := hb0.trans (hw.below (fun b hb => by have := HBs.out; omega) hb0.size)
      have hr16 : wr.heap[B5]? = some (.cells (ring fun j => sched (mword l) (rix 0 j)) 127 (0, 0)) := by
        rw [hr, ring_congr (g := fun j => sched (mword l) (rix 0 j)) (fun j hj => by rw [if_pos hj, rix_lo (by omega), sched_lo _ hj])]
      have hr2 := (hw.block B2 (heap_lt k2) (by have := HBs.out; omega)).trans k2
      have hr4 := (hw.block B4 (heap_lt k4) (by have := HBs.out; omega)).trans k4
      obtain ⟨i0, i1, i2, i3, i4, i5, i6, i7⟩ := row8_cells hr2
      have HR16 := Lib.hid hr16
      have HR2 := Lib.hid hr2
      have HR4 := Lib.hid hr4
      have HWB := Lib.hid hwb
      obtain ⟨KC, hKC⟩ : ∃ KC, (List.range 64).map (fun t => Value.int .u32 (wn (K t))) = KC := ⟨_, rfl⟩
      have hkl : KC.length = 64 := by rw [← hKC]; simp
      have hkg : ∀ t, t < 64 → KC[t]? = some (.int .u32 (wn (K t))) := fun t ht => by rw [← hKC]; simp [ht]
      have hra : Hid (∀ W, Below w.heap.size w W → W.rangeAt 0 0 KC) := by
        intro W hW j v hv
        have hj : j < 64 := by rw [← hkl]; exact (List.getElem?_eq_some_iff.1 hv).1
        rw [hkg j hj] at hv
        cases hv
        rw [Nat.zero_add]
        exact QK.out W hW j hj
      obtain ⟨w1, hw1⟩ : ∃ W, wr.alloc (.cells #[.int .u32 (wn s.a), .int .u32 (wn s.b), .int .u32 (wn s.c), .int .u32 (wn s.d), .int .u32 (wn s.e), .int .u32 (wn s.f), .int .u32 (wn s.g), .int .u32 (wn s.h)] 92) = W := ⟨_, rfl⟩
      have hb1 : Below wr.heap.size wr w1 := by rw [← hw1]; exact (Below.refl _ _).alloc (Nat.le_refl _) _
      have r7 : w1.heap[wr.heap.size]? = some (.cells s.row 92 (0, 0)) := by rw [← hw1]; exact heap_alloc_new _ _
      have hwb1 : Below w.heap.size w w1 := hwb.trans (hb1.mono hwb.size)
      have hr16' := (hb1.block B5 (heap_lt hr16)).trans hr16
      have hr2' := (hb1.block B2 (heap_lt hr2)).trans hr2
      have hr4' := (hb1.block B4 (heap_lt hr4)).trans hr4
      have n7 : Hid (B5 < wr.heap.size ∧ B2 < wr.heap.size ∧ B4 < wr.heap.size) := ⟨heap_lt hr16, heap_lt hr2, heap_lt hr4⟩
      have HWB := Lib.hid hwb1
      have HKL := Lib.hid hkl
      have HKG := Lib.hid hkg
      have HW1 := Lib.hid hw1
      clear hr hw hwb hr16 hr2 hr4 hb0 k5 k4 k2 hlt hKC hkl hkg hw1 hb1 hwb1
      go_upto_region 8 with fail
      rw [HW1.out]
      refine wp_region_lit ?_
      refine wpList_load_mid rfl 128 (.global 0) rfl 0 0 rfl KC _ (hra.out _ HWB.out) Tryd.underlying128 rfl (by rw [HKL.out]; kernel_rfl) ?_
      obtain ⟨B7, hB7⟩ : ∃ B, wr.heap.size = B := ⟨_, rfl⟩
      rw [hB7] at r7 n7 ⊢
      clear hB7 i0 i1 i2 i3 i4 i5 i6 i7 HW1
      go_wp2_with fail
      have RS0 : RS w w1 B2 B4 B5 B7 s s (fun j => sched (mword l) (rix 0 j)) := ⟨r7, hr16', hr2', hr4', HWB.out, by have := HBs.out; have := n7.out; omega⟩
      clear r7 hr16' hr2' hr4'
      go_loopw [59] (fun i wr => ∃ t : Nat, t ≤ 64 ∧ i = .int .i64 t ∧ RS w wr B2 B4 B5 B7 s (rnds K (sched (mword l)) s t) (fun j => sched (mword l) (rix t j))) (fun i _ => 64 - (intOf i).toNat)
      case atStart => exact ⟨0, by omega, rfl, RS0⟩
      case round =>
        obtain ⟨t, ht, rfl, hrs⟩ := hrel
        clear RS0
        by_cases hlt : t < 64
        · have e1 : (t : Int) < 64 := by omega
          obtain ⟨S, hS⟩ : ∃ S, rnds K (sched (mword l)) s t = S := ⟨_, rfl⟩
          rw [hS] at hrs
          have hix := table_index KC t _ (HKG.out t hlt) hlt
          have hand := i64_and15 t
          obtain ⟨i, hi⟩ : ∃ i, t % 16 = i := ⟨_, rfl⟩
          rw [hi] at hand
          have hi16 : i < 16 := by omega
          have HS := Lib.hid hS
          have HI := Lib.hid hi
          clear hS hi
          go_upto_if 66 with fail
          go_cut [] (fun wx => RS w wx B2 B4 B5 B7 s S (fun j => sched (mword l) (rix (t + 1) j)))
          case first =>
            go_upto_region 13 with fail
            focus
              have hge : 16 ≤ t := by omega
              obtain ⟨g0, g1, g9, g14⟩ := rix_hi hge
              rw [HI.out] at g0 g1 g9 g14
              have c1 := hrs.cell5 (j := (i + 1) % 16) (by omega)
              have c14 := hrs.cell5 (j := (i + 14) % 16) (by omega)
              rw [g1] at c1
              rw [g14] at c14
              obtain ⟨j1, hj1⟩ : ∃ j, (i + 1) % 16 = j := ⟨_, rfl⟩
              obtain ⟨j9, hj9⟩ : ∃ j, (i + 9) % 16 = j := ⟨_, rfl⟩
              obtain ⟨j14, hj14⟩ : ∃ j, (i + 14) % 16 = j := ⟨_, rfl⟩
              rw [hj1] at c1
              rw [hj14] at c14
              rw [hj9] at g9
              have a1 := i64_and15 (i + 1)
              have a9 := i64_and15 (i + 9)
              have a14 := i64_and15 (i + 14)
              rw [hj1, Int.natCast_add] at a1
              rw [hj9, Int.natCast_add] at a9
              rw [hj14, Int.natCast_add] at a14
              simp only [Int.natCast_one, Int.cast_ofNat_Int] at a1 a9 a14
              have u1 : IntKind.i64.wrap ((i : Int) + 1) = (i : Int) + 1 := IntWalk.i64_in _ (by omega)
              have u9 : IntKind.i64.wrap ((i : Int) + 9) = (i : Int) + 9 := IntWalk.i64_in _ (by omega)
              have u14 : IntKind.i64.wrap ((i : Int) + 14) = (i : Int) + 14 := IntWalk.i64_in _ (by omega)
              have l1 : j1 < 16 := by omega
              have l9 : j9 < 16 := by omega
              have l14 : j14 < 16 := by omega
              have A9 := Lib.hid a9
              have G := Lib.hid (And.intro g0 g9)
              clear g0 g1 g9 g14 hj1 hj9 hj14
              go_quiet (fail)
              clear a1 a9 a14 u1 u9 u14 c1 c14 l1 l14
              have u9 : IntKind.i64.wrap ((i : Int) + 9) = (i : Int) + 9 := IntWalk.i64_in _ (by omega)
              have a9 := A9.out
              have WR3 := fun x => w_shr x 3 (by omega)
              have WR10 := fun x => w_shr x 10 (by omega)
              simp only [Int.reducePow] at WR3 WR10
              have hrs1 := hrs.drewN nq
              go_wp2
              refine wp_still_tail2 26 (by kernel_rfl) (by kernel_rfl) ?_
              intro W2 hW2
              have hrs2 := hrs1.drew hW2
              have cid := hrs2.cell5 (j := i) hi16
              have c9d := hrs2.cell5 (j := j9) l9
              rw [G.out.1] at cid
              rw [G.out.2] at c9d
              have hf5 := row_free hrs2.r5 i
              have xi := arr16_index B5 i hi16
              have x9 := arr16_index B5 j9 l9
              clear hW2
              simp only [List.take_succ_cons, List.take_zero, List.drop_succ_cons, List.drop_zero]
              iterate 9 still_step
              still_call (down_still 7 (by omega) (by omega) _ _)
              still_step
              still_call (down_still 18 (by omega) (by omega) _ _)
              iterate 6 still_step
              still_call (down_still 17 (by omega) (by omega) _ _)
              still_step
              still_call (down_still 19 (by omega) (by omega) _ _)
              iterate 5 still_step
              refine wpStill_nil ?_
              go_wp2
              go_meet
              case rel =>
                refine hrs2.set5 fun j hj => ?_
                rw [rix_put hge hj, HI.out]
                by_cases e : j = i
                · rw [if_pos e, if_pos e, sched_hi _ hge]
                  rfl
                · rw [if_neg e, if_neg e]
            go_wp2
            go_meet
            case rel =>
              refine ⟨hrs.r7, ?_, hrs.r2, hrs.r4, hrs.bel, hrs.lt⟩
              rw [hrs.r5, ring_congr (g := fun j => sched (mword l) (rix (t + 1) j)) fun j hj => by rw [rix_lo (t := t) (by omega), rix_lo (t := t + 1) (by omega)]]
          case rest =>
            clear hrs
            have ci := hcut.cell5 (j := i) hi16
            have gi : rix (t + 1) i = t := by
              have := HI.out
              unfold rix
              split <;> omega
            rw [gi] at ci
            have hix2 := hix
            obtain ⟨s0, s1, s2, s3, s4, s5, s6, s7⟩ := row8_cells hcut.r7
            go_upto_region 16 with fail
            refine wp_still_tail2 28 (by kernel_rfl) (by kernel_rfl) ?_
            intro W2 hW2
            have hrs2 := hcut.drew hW2
            have ci := hrs2.cell5 (j := i) hi16
            rw [gi] at ci
            have xi := arr16_index B5 i hi16
            clear s0 s1 s2 s3 s4 s5 s6 s7 hcut hW2 gi
            obtain ⟨s0, s1, s2, s3, s4, s5, s6, s7⟩ := row8_cells hrs2.r7
            simp only [List.take_succ_cons, List.take_zero, List.drop_succ_cons, List.drop_zero]
            iterate 3 still_step
            still_call (down_still 6 (by omega) (by omega) _ _)
            still_step
            still_call (down_still 11 (by omega) (by omega) _ _)
            iterate 2 still_step
            still_call (down_still 25 (by omega) (by omega) _ _)
            iterate 19 still_step
            refine wpStill_nil ?_
            go_upto_region 18 with fail
            refine wp_still_tail2 21 (by kernel_rfl) (by kernel_rfl) ?_
            intro W3 hW3
            have hrs3 := hrs2.drew hW3
            clear s0 s1 s2 s3 s4 s5 s6 s7 hrs2 hW3 ci xi
            obtain ⟨s0, s1, s2, s3, s4, s5, s6, s7⟩ := row8_cells hrs3.r7
            simp only [List.take_succ_cons, List.take_zero, List.drop_succ_cons, List.drop_zero]
            still_step
            still_call (down_still 2 (by omega) (by omega) _ _)
            still_step
            still_call (down_still 13 (by omega) (by omega) _ _)
            iterate 2 still_step
            still_call (down_still 22 (by omega) (by omega) _ _)
            iterate 14 still_step
            refine wpStill_nil ?_
            go_upto_region 19 with fail
            refine wp_still_tail2 2 (by kernel_rfl) (by kernel_rfl) ?_
            intro W4 hW4
            have hrs4 := hrs3.drew hW4
            clear s0 s1 s2 s3 s4 s5 s6 s7 hrs3 hW4
            obtain ⟨s0, s1, s2, s3, s4, s5, s6, s7⟩ := row8_cells hrs4.r7
            simp only [List.take_succ_cons, List.take_zero, List.drop_succ_cons, List.drop_zero]
            iterate 2 still_step
            refine wpStill_nil ?_
            refine wpList_copy_own rfl (.tmp 158) (.tmp 159) 97 97 rfl 90 Tryd.underlying97 (by kernel_rfl) B7 1 7 7 ⟨B7, 0, none⟩ 7 8 rfl rfl S.row 92 hrs4.r7
              [Value.int .u32 (wn S.a), .int .u32 (wn S.b), .int .u32 (wn S.c), .int .u32 (wn S.d), .int .u32 (wn S.e), .int .u32 (wn S.f), .int .u32 (wn S.g)] rfl (row8_src hrs4.r7) (by simp [St.row]) (by simp [Value.oneCell']) ?_
            obtain ⟨W5, hW5⟩ : ∃ W, W4.setRow B7 (S.row.toList.take 1 ++ ([Value.int .u32 (wn S.a), .int .u32 (wn S.b), .int .u32 (wn S.c), .int .u32 (wn S.d), .int .u32 (wn S.e), .int .u32 (wn S.f), .int .u32 (wn S.g)] ++ S.row.toList.drop (1 + [Value.int .u32 (wn S.a), .int .u32 (wn S.b), .int .u32 (wn S.c), .int .u32 (wn S.d), .int .u32 (wn S.e), .int .u32 (wn S.f), .int .u32 (wn S.g)].length))).toArray = W := ⟨_, rfl⟩
            rw [hW5]
            have hrs5 : RS w W5 B2 B4 B5 B7 s ⟨S.a, S.a, S.b, S.c, S.d, S.e, S.f, S.g⟩ (fun j => sched (mword l) (rix (t + 1) j)) :=
              hrs4.put7 (by rw [← hW5]; exact setRow_only _ _ _) (by rw [← hW5]; exact setRow_heap W4 B7 _ _ _ _ hrs4.r7)
            clear s0 s1 s2 s3 s4 s5 s6 s7 hrs4 hW5
            obtain ⟨s0, s1, s2, s3, s4, s5, s6, s7⟩ := row8_cells hrs5.r7
            dsimp only at s0 s4
            have f4 := row_free hrs5.r7 4
            clear s1 s2 s3 s5 s6 s7
            go_upto_region 21 with fail
            obtain ⟨W6, hW6⟩ : ∃ W, W5.setCell ⟨B7, 4, none⟩ (.int .u32 (wn (S.d + (S.h + (rotr S.e 6 ^^^ rotr S.e 11 ^^^ rotr S.e 25) + (S.g ^^^ S.e &&& (S.f ^^^ S.g)) + K t + sched (mword l) t)))) = W := ⟨_, rfl⟩
            rw [hW6]
            have hrs6 : RS w W6 B2 B4 B5 B7 s ⟨S.a, S.a, S.b, S.c, S.d + rone S (K t) (sched (mword l) t), S.e, S.f, S.g⟩ (fun j => sched (mword l) (rix (t + 1) j)) :=
              hrs5.put7 (by rw [← hW6]; exact set_only _ _ _ _) (by rw [← hW6]; exact row_setCell hrs5.r7 4 _)
            clear s0 s4 hrs5 hW6 f4
            obtain ⟨s0, s1, s2, s3, s4, s5, s6, s7⟩ := row8_cells hrs6.r7
            dsimp only at s0
            have f0 := row_free hrs6.r7 0
            clear s1 s2 s3 s4 s5 s6 s7
            go_wp2
            go_roundw
            case rel =>
              refine ⟨t + 1, by omega, by go_num, ?_⟩
              refine hrs6.put7 (set_only _ _ _ _) ?_
              show _ = some (Obj.cells (rstep (rnds K (sched (mword l)) s t) (K t) (sched (mword l) t)).row _ _)
              rw [HS.out]
              exact row_setCell hrs6.r7 0 _
            case measure => simp [intOf]; omega
        · have e1 : ¬ (t : Int) < 64 := by omega
          obtain rfl : t = 64 := by omega
          obtain ⟨S, hS⟩ : ∃ S, rnds K (sched (mword l)) s 64 = S := ⟨_, rfl⟩
          rw [hS] at hrs
          have HS := Lib.hid hS
          have hr3 := hrs.r3
          clear hrs hS
          go_wp2_with fail
          go_loopw [171] (fun i wr => ∃ k : Nat, k ≤ 8 ∧ i = .int .i64 k ∧ R3 w wr B2 B4 B7 s (fun j => if j < k then S.nth j + s.nth j else S.nth j)) (fun i _ => 8 - (intOf i).toNat)
          case atStart => exact ⟨0, by omega, rfl, by simpa using hr3⟩
          case round =>
            obtain ⟨k, hk, rfl, hr⟩ := hrel
            clear hr3
            by_cases hlt : k < 8
            · have e1 : (k : Int) < 8 := by omega
              go_upto_region 26 with fail
              refine wp_still_tail2 6 (by kernel_rfl) (by kernel_rfl) ?_
              intro W2 hW2
              have hr2 := hr.drew hW2
              have ck := hr2.cell7 (j := k) hlt
              have c2 := hr2.cell2 (j := k) hlt
              simp only [Nat.lt_irrefl, if_false] at ck
              have f7 := row_free hr2.r7 k
              have xk := words_index B7 k hlt
              have x2 := words_index B2 k hlt
              clear hr hW2
              simp only [List.take_succ_cons, List.take_zero, List.drop_succ_cons, List.drop_zero]
              iterate 6 still_step
              refine wpStill_nil ?_
              go_wp2
              go_roundw
              case rel =>
                refine ⟨k + 1, by omega, by go_num, hr2.set7 fun j hj => ?_⟩
                by_cases e : j = k
                · rw [if_pos e, if_pos (by omega), e]
                · rw [if_neg e]
                  by_cases e2 : j < k
                  · rw [if_pos e2, if_pos (by omega)]
                  · rw [if_neg e2, if_neg (by omega)]
              case measure => simp [intOf]; omega
            · have e1 : ¬ (k : Int) < 8 := by omega
              obtain rfl : k = 8 := by omega
              have r7 : wr.heap[B7]? = some (.cells (S.add s).row 92 (0, 0)) := by
                rw [hr.r7, row_oct, oct_congr (g := (S.add s).nth) fun j hj => by rw [if_pos hj, add_nth _ _ _ hj]]
              obtain ⟨s0, s1, s2, s3, s4, s5, s6, s7⟩ := row8_cells r7
              have HR := Lib.hid hr
              clear hr
              go_wp2_with (with_reducible refine wpList_store_row rfl _ _ rfl rfl rfl HR.out.r4 (by kernel_rfl) (by simp) (by simp [Value.oneCell']) ?_)
              have hB : blk K s (mword l) = S.add s := by show (rnds K (sched (mword l)) s 64).add s = _; rw [HS.out]
              rw [hB]
              obtain ⟨W9, hW9⟩ : ∃ W, wr.setRow B4 #[.int .u32 (wn (S.add s).a), .int .u32 (wn (S.add s).b), .int .u32 (wn (S.add s).c), .int .u32 (wn (S.add s).d), .int .u32 (wn (S.add s).e), .int .u32 (wn (S.add s).f), .int .u32 (wn (S.add s).g), .int .u32 (wn (S.add s).h)] = W := ⟨_, rfl⟩
              rw [hW9]
              have r9 : W9.heap[B4]? = some (.cells (S.add s).row 92 (0, 0)) := by rw [← hW9]; exact setRow_heap wr B4 _ _ _ _ HR.out.r4
              have b9 : Below w.heap.size w W9 := by
                have hl := HR.out.lt
                rw [← hW9]
                exact HR.out.bel.trans ((setRow_only wr B4 _).below (fun b hb => by omega) HR.out.bel.size)
              clear s0 s1 s2 s3 s4 s5 s6 s7 hB hW9 r7
              obtain ⟨s0, s1, s2, s3, s4, s5, s6, s7⟩ := row8_cells r9
              exact bodyPost_ret (v := (S.add s).agg) (by simp [results, Tryd.results62, go_sem, s0, s1, s2, s3, s4, s5, s6, s7, St.agg]) rfl ⟨rfl, b9⟩

end Go.Proofs.YtmhgdddnjnichaaDoor
