/- RingR: RingR, RingO, RingX, RingA as one text. -/
import Derived.Test.YtmhgdddnjnichaaDoorRingS
import Derived.Test.YtmhgdddnjnichaaDoorBase
import Derived.StillTailTactics
import Derived.Deep.RegionLaw
/- Layer 9 (ring): the walk of Rotate. -/
set_option linter.unusedSimpArgs false
namespace Go.Proofs.YtmhgdddnjnichaaDoor
open Go.RowKit Go.Sort

set_option maxHeartbeats 1600000 in
theorem rotate_bad (keep : Int) (v vd : Value) (l : List RK) (draw : List UInt8) (w : World) (h : Ks w v l) (hw : -9223372036854775808 ≤ keep ∧ keep ≤ 9223372036854775807) (hd : Bs w vd draw) (hno : ¬ RP keep l ∨ draw.length ≠ 32) :
    Calls Tryd.prog 37 #[.agg #[.int .i64 keep, v], vd] w fun e w' => e = .returned (.tuple #[.agg #[.int .i64 0, .slice none 0 0], .int .i64 2]) ∧ Below w.heap.size w w' := by
  obtain ⟨da, dc, rfl⟩ := hd.shape
  obtain ⟨m, hm⟩ : ∃ m, draw.length = m := ⟨_, rfl⟩
  have hA := bel_al (bel_al (Below.refl w.heap.size w) (Obj.cells #[.int .i64 keep, v] 39)) (Obj.cells #[.int .i64 0, .slice none 0 0] 39)
  have HA := Lib.hid hA
  have H := Lib.hid h
  have HW := Lib.hid hw
  have hr2 : ((w.alloc (.cells #[.int .i64 keep, v] 39)).alloc (.cells #[.int .i64 0, .slice none 0 0] 39)).heap[w.heap.size + 1]? = some (.cells #[.int .i64 0, .slice none 0 0] 39 (0, 0)) := by rw [alloc_get, if_pos (by simp)]
  have HR2 := Lib.hid hr2
  rw [hm] at hno ⊢
  clear h hw hd hA hm hr2
  go_enter Tryd.func37, Tryd.ntmps37
  go_wp2_with fail
  refine (right_any keep v l _ (H.out.below HA.out) HW.out).mono ?_
  rintro e w2 ⟨rfl, hb2⟩
  have hr3 : w2.heap[w.heap.size + 1]? = some (.cells #[.int .i64 0, .slice none 0 0] 39 (0, 0)) := (hb2.block _ (by simp)).trans HR2.out
  have HR3 := Lib.hid hr3
  have HB2 := Lib.hid (bel_tr HA.out hb2)
  have hlt : w.heap.size + 1 < w2.heap.size := heap_lt hr3
  clear hr3 hb2
  have fin : ∀ W5, W5 = w2.setRow (w.heap.size + 1) #[.int .i64 0, .slice none 0 0] → Hid (W5.cell? ⟨w.heap.size + 1, 0, none⟩ = some (.int .i64 0) ∧ W5.cell? ⟨w.heap.size + 1, 1, none⟩ = some (.slice none 0 0) ∧ Below w.heap.size w W5) := by
    rintro W5 rfl
    have hrow := setRow_heap w2 (w.heap.size + 1) _ #[.int .i64 0, .slice none 0 0] 39 (0, 0) HR3.out
    exact ⟨cell_of_row _ _ _ _ _ _ hrow, cell_of_row _ _ _ _ _ _ hrow, HB2.out.trans ((setRow_only w2 (w.heap.size + 1) _).below (fun k hk => by omega) HB2.out.size)⟩
  have FIN := Lib.hid fin
  clear fin hlt
  by_cases hrp : RP keep l
  · have h32 : m ≠ 32 := by rcases hno with h | h; exact absurd hrp h; exact h
    rw [kok_yes hrp]
    have g1 : ((m : Int) != 32) = true := by simp; omega
    clear hno hrp h32
    go_wp2_with (with_reducible refine wpList_store_row rfl _ _ rfl rfl rfl HR3.out (by kernel_rfl) (by simp) (by simp [Value.oneCell']) ?_)
    obtain ⟨c0, c1, hB⟩ := (FIN.out _ rfl).out
    exact bodyPost_ret (v := .tuple #[.agg #[.int .i64 0, .slice none 0 0], .int .i64 2]) (by simp [results, Tryd.results37, go_sem, c0, c1]) rfl ⟨rfl, hB⟩
  · rw [kok_no hrp]
    clear hno hrp
    go_wp2_with (with_reducible refine wpList_store_row rfl _ _ rfl rfl rfl HR3.out (by kernel_rfl) (by simp) (by simp [Value.oneCell']) ?_)
    obtain ⟨c0, c1, hB⟩ := (FIN.out _ rfl).out
    exact bodyPost_ret (v := .tuple #[.agg #[.int .i64 0, .slice none 0 0], .int .i64 2]) (by simp [results, Tryd.results37, go_sem, c0, c1]) rfl ⟨rfl, hB⟩

set_option maxHeartbeats 1600000 in
theorem rotate_full (keep : Int) (v vd : Value) (l : List RK) (draw : List UInt8) (w : World) (h : Ks w v l) (hd : Bs w vd draw) (hrp : RP keep l) (h32 : draw.length = 32) (hf : epl l = 1048576) :
    Calls Tryd.prog 37 #[.agg #[.int .i64 keep, v], vd] w fun e w' => e = .returned (.tuple #[.agg #[.int .i64 0, .slice none 0 0], .int .i64 3]) ∧ Below w.heap.size w w' := by
  obtain ⟨da, dc, rfl⟩ := hd.shape
  have hw : -9223372036854775808 ≤ keep ∧ keep ≤ 9223372036854775807 := by have := hrp.1; have := hrp.2.1; omega
  have hA := bel_al (bel_al (Below.refl w.heap.size w) (Obj.cells #[.int .i64 keep, v] 39)) (Obj.cells #[.int .i64 0, .slice none 0 0] 39)
  have HA := Lib.hid hA
  have H := Lib.hid h
  have HW := Lib.hid hw
  have HF := Lib.hid hf
  have HP := Lib.hid hrp
  have hr2 : ((w.alloc (.cells #[.int .i64 keep, v] 39)).alloc (.cells #[.int .i64 0, .slice none 0 0] 39)).heap[w.heap.size + 1]? = some (.cells #[.int .i64 0, .slice none 0 0] 39 (0, 0)) := by rw [alloc_get, if_pos (by simp)]
  have hr1 : ((w.alloc (.cells #[.int .i64 keep, v] 39)).alloc (.cells #[.int .i64 0, .slice none 0 0] 39)).heap[w.heap.size]? = some (.cells #[.int .i64 keep, v] 39 (0, 0)) := by rw [alloc_get, if_neg (by simp)]; exact heap_alloc_new _ _
  have HR2 := Lib.hid hr2
  have HR1 := Lib.hid hr1
  rw [h32]
  clear h hw hd hA hr2 hr1 hf hrp
  go_enter Tryd.func37, Tryd.ntmps37
  go_wp2_with fail
  refine (right_any keep v l _ (H.out.below HA.out) HW.out).mono ?_
  rw [kok_yes HP.out]
  rintro e w2 ⟨rfl, hb2⟩
  have hr3 : w2.heap[w.heap.size + 1]? = some (.cells #[.int .i64 0, .slice none 0 0] 39 (0, 0)) := (hb2.block _ (by simp)).trans HR2.out
  have hr4 : w2.heap[w.heap.size]? = some (.cells #[.int .i64 keep, v] 39 (0, 0)) := (hb2.block _ (by simp; omega)).trans HR1.out
  have c0 : w2.cell? ⟨w.heap.size, 0, none⟩ = some (.int .i64 keep) := cell_of_row _ _ _ _ _ _ hr4
  have c1 : w2.cell? ⟨w.heap.size, 1, none⟩ = some v := cell_of_row _ _ _ _ _ _ hr4
  have HR3 := Lib.hid hr3
  have HB2 := Lib.hid (bel_tr HA.out hb2)
  clear hr3 hb2 hr4
  go_wp2_with fail
  refine (now_any keep v l _ (H.out.below HB2.out)).mono ?_
  rw [HF.out]
  rintro e w3 ⟨rfl, hb3⟩
  have hr5 : w3.heap[w.heap.size + 1]? = some (.cells #[.int .i64 0, .slice none 0 0] 39 (0, 0)) := (hb3.block _ (heap_lt HR3.out)).trans HR3.out
  have HR5 := Lib.hid hr5
  have HB3 := Lib.hid (bel_tr HB2.out hb3)
  have hlt : w.heap.size + 1 < w3.heap.size := heap_lt hr5
  have fin : ∀ W5, W5 = w3.setRow (w.heap.size + 1) #[.int .i64 0, .slice none 0 0] → Hid (W5.cell? ⟨w.heap.size + 1, 0, none⟩ = some (.int .i64 0) ∧ W5.cell? ⟨w.heap.size + 1, 1, none⟩ = some (.slice none 0 0) ∧ Below w.heap.size w W5) := by
    rintro W5 rfl
    have hrow := setRow_heap w3 (w.heap.size + 1) _ #[.int .i64 0, .slice none 0 0] 39 (0, 0) HR5.out
    exact ⟨cell_of_row _ _ _ _ _ _ hrow, cell_of_row _ _ _ _ _ _ hrow, HB3.out.trans ((setRow_only w3 (w.heap.size + 1) _).below (fun k hk => by omega) HB3.out.size)⟩
  have FIN := Lib.hid fin
  clear fin hlt hr5 hb3
  go_wp2_with (with_reducible refine wpList_store_row rfl _ _ rfl rfl rfl HR5.out (by kernel_rfl) (by simp) (by simp [Value.oneCell']) ?_)
  obtain ⟨c0, c1, hB⟩ := (FIN.out _ rfl).out
  exact bodyPost_ret (v := .tuple #[.agg #[.int .i64 0, .slice none 0 0], .int .i64 3]) (by simp [results, Tryd.results37, go_sem, c0, c1]) rfl ⟨rfl, hB⟩

end Go.Proofs.YtmhgdddnjnichaaDoor
/- Layer 9 (ring): the walk of Rotate that succeeds. -/
set_option linter.unusedSimpArgs false
namespace Go.Proofs.YtmhgdddnjnichaaDoor
open Go.RowKit Go.Sort

def RotPost (keep : Int) (l : List RK) (draw : List UInt8) (w : World) (e : Ending) (w' : World) : Prop :=
  ∃ v a c, e = .returned (.tuple #[.agg #[.int .i64 keep, v], .int .i64 0]) ∧ Ks w' v (rotl keep l ⟨epl l + 1, a, c, rkey draw (epl l + 1).toNat⟩) ∧ Below w.heap.size w w' ∧
    ∀ F : Nat → Prop, (∀ k, F k → k < w.heap.size) → (∀ x ∈ l, ∀ k, x.v.ownBlock = some k → ¬ F k) → KsOff F v (rotl keep l ⟨epl l + 1, a, c, rkey draw (epl l + 1).toNat⟩)

set_option maxRecDepth 100000 in
set_option maxHeartbeats 3200000 in
theorem rotate_ok (keep : Int) (v vd : Value) (l : List RK) (draw : List UInt8) (w : World) (h : Ks w v l) (hd : Bs w vd draw) (hrp : RP keep l) (h32 : draw.length = 32) (hf : epl l ≠ 1048576) (hT : Tabbed w) :
    Calls Tryd.prog 37 #[.agg #[.int .i64 keep, v], vd] w (RotPost keep l draw w) := by
  obtain ⟨da, dc, rfl⟩ := hd.shape
  have hw : -9223372036854775808 ≤ keep ∧ keep ≤ 9223372036854775807 := by have := hrp.1; have := hrp.2.1; omega
  have hl16 : l.length ≤ 16 := by have := hrp.2.1; have := hrp.2.2.2.1; omega
  have hep : 1 ≤ epl l ∧ epl l < 1048576 := by
    have := rp_epl hrp
    have := hrp.2.2.2.2.2.1
    have := hrp.2.2.2.2.1
    have := hrp.2.2.1
    omega
  obtain ⟨m, hm⟩ : ∃ m : Nat, epl l = m := ⟨(epl l).toNat, by omega⟩
  have hA := bel_al (bel_al (Below.refl w.heap.size w) (Obj.cells #[.int .i64 keep, v] 39)) (Obj.cells #[.int .i64 0, .slice none 0 0] 39)
  have HA := Lib.hid hA
  have H := Lib.hid h
  have HD := Lib.hid hd
  have HT := Lib.hid hT
  have HW := Lib.hid hw
  have HP := Lib.hid hrp
  have HM := Lib.hid hm
  have H32 := Lib.hid h32
  have HL := Lib.hid hl16
  have hr2 : ((w.alloc (.cells #[.int .i64 keep, v] 39)).alloc (.cells #[.int .i64 0, .slice none 0 0] 39)).heap[w.heap.size + 1]? = some (.cells #[.int .i64 0, .slice none 0 0] 39 (0, 0)) := by rw [alloc_get, if_pos (by simp)]
  have hr1 : ((w.alloc (.cells #[.int .i64 keep, v] 39)).alloc (.cells #[.int .i64 0, .slice none 0 0] 39)).heap[w.heap.size]? = some (.cells #[.int .i64 keep, v] 39 (0, 0)) := by rw [alloc_get, if_neg (by simp)]; exact heap_alloc_new _ _
  have HR2 := Lib.hid hr2
  have HR1 := Lib.hid hr1
  rw [hm] at hep hf
  rw [h32]
  have hm1 : 1 ≤ m ∧ m < 1048576 := by omega
  have e1 : ((m : Int) == 1048576) = false := by simp; omega
  clear h hw hd hA hr2 hr1 hf hrp hT hm h32 hl16 hep
  go_enter Tryd.func37, Tryd.ntmps37
  go_wp2_with fail
  refine (right_any keep v l _ (H.out.below HA.out) HW.out).mono ?_
  rw [kok_yes HP.out]
  rintro e w2 ⟨rfl, hb2⟩
  have hr3 : w2.heap[w.heap.size + 1]? = some (.cells #[.int .i64 0, .slice none 0 0] 39 (0, 0)) := (hb2.block _ (by simp)).trans HR2.out
  have hr4 : w2.heap[w.heap.size]? = some (.cells #[.int .i64 keep, v] 39 (0, 0)) := (hb2.block _ (by simp; omega)).trans HR1.out
  have c0 : w2.cell? ⟨w.heap.size, 0, none⟩ = some (.int .i64 keep) := cell_of_row _ _ _ _ _ _ hr4
  have c1 : w2.cell? ⟨w.heap.size, 1, none⟩ = some v := cell_of_row _ _ _ _ _ _ hr4
  have HR3 := Lib.hid hr3
  have HR4 := Lib.hid hr4
  have HB2 := Lib.hid (bel_tr HA.out hb2)
  clear hr3 hb2 hr4 HR1 HR2 HA HW
  go_wp2_with fail
  refine (now_any keep v l _ (H.out.below HB2.out)).mono ?_
  rw [HM.out]
  rintro e W3 ⟨rfl, hb3⟩
  have hr5 : W3.heap[w.heap.size + 1]? = some (.cells #[.int .i64 0, .slice none 0 0] 39 (0, 0)) := (hb3.block _ (heap_lt HR3.out)).trans HR3.out
  have hr6 : W3.heap[w.heap.size]? = some (.cells #[.int .i64 keep, v] 39 (0, 0)) := (hb3.block _ (heap_lt HR4.out)).trans HR4.out
  have HR5 := Lib.hid hr5
  have HR6 := Lib.hid hr6
  have hb := bel_tr HB2.out hb3
  have HB3 := Lib.hid hb
  have hk3 := H.out.below hb
  have hd3 := HD.out.below hb
  have hT3 := HT.out.below hb
  have hg3 := hk3.g
  have TN : Hid (∀ W, Below W3.heap.size W3 W → Calls Tryd.prog 36 #[.agg #[.int .i64 keep, v]] W fun e w' => e = .returned (.int .i64 m) ∧ Below W.heap.size W w') := by
    intro W hW
    refine (now_any keep v l W (hk3.below hW)).mono ?_
    rw [HM.out]
    exact fun e w' h => h
  have TC : Hid (∀ W, Below W3.heap.size W3 W → Calls Tryd.prog 73 #[v] W fun e w' => ∃ y, e = .returned y ∧ Hid (Gw 2 RK.cells w' W3.heap.size 48 y l) ∧ Below W.heap.size W w') := by
    intro W hW
    refine (cloneK_any v l W (hg3.below hW) (by have := HL.out; omega)).mono ?_
    rintro e w' ⟨y, rfl, hy, hb⟩
    exact ⟨y, rfl, Lib.hid (hy.mono hW.size), hb⟩
  have TK : Hid (∀ W, Below W3.heap.size W3 W → Calls Tryd.prog 69 #[.slice da 32 dc, .int .i64 ((m : Int) + 1)] W fun e w' => ∃ a c, e = .returned (.agg #[.int .i64 ((m : Int) + 1), .slice a 32 c]) ∧ Hid (Ob w' W3.heap.size 5 (.slice a 32 c) (rkey draw (m + 1))) ∧ Below W.heap.size W w') := by
    intro W hW
    have hq : (Calls Tryd.prog 69 #[.slice da 32 dc, .int .i64 ((m + 1 : Nat) : Int)] W _) := key_any (.slice da 32 dc) draw (m + 1) W (by have := hd3.below hW; rwa [H32.out] at this) (by rw [H32.out]; omega) (by omega) (hT3.below hW)
    rw [show ((m : Int) + 1) = ((m + 1 : Nat) : Int) by omega]
    refine hq.mono ?_
    rintro e w' ⟨a, c, rfl, hy, hb⟩
    exact ⟨a, c, rfl, Lib.hid (hy.mono hW.size), hb⟩
  have HB0 : Below W3.heap.size W3 W3 := Below.refl _ _
  have c0 : W3.cell? ⟨w.heap.size, 0, none⟩ = some (.int .i64 keep) := cell_of_row _ _ _ _ _ _ hr6
  have c1 : W3.cell? ⟨w.heap.size, 1, none⟩ = some v := cell_of_row _ _ _ _ _ _ hr6
  have hwr : IntKind.i64.wrap ((m : Int) + 1) = (m : Int) + 1 := IntWalk.i64_in _ (by omega)
  have hlt3 : w.heap.size + 1 < W3.heap.size := heap_lt hr5
  have HM5 := Lib.hid hm1
  clear hr5 hr6 hb hb3 hk3 hd3 hT3 hg3 hm1
  go_upto_region 5 with fail
  clear e1
  have HK : Hid (∀ W, Below W3.heap.size W3 W → W.cell? ⟨w.heap.size, 0, none⟩ = some (.int .i64 keep) ∧ W.cell? ⟨w.heap.size, 1, none⟩ = some v) := fun W hW => ⟨(hW.cell (show w.heap.size < W3.heap.size by omega)).trans c0, (hW.cell (show w.heap.size < W3.heap.size by omega)).trans c1⟩
  have HC : Hid (∀ a c, (#[.int .i64 ((m : Int) + 1), .slice a 32 c] : Array Value).toList = RK.cells ⟨(m : Int) + 1, a, c, rkey draw (m + 1)⟩) := fun a c => by simp [RK.cells, RK.v, rkey_len]
  have HL1 : Hid ((l.length + 1) * 32 ≤ 140737488355328 ∧ l.length < 9223372036854775807) := by have := HL.out; exact ⟨by omega, by omega⟩
  go_region_held3 (fun W => W.cell? ⟨w.heap.size, 0, none⟩ = some (.int .i64 keep) ∧ W.cell? ⟨w.heap.size, 1, none⟩ = some v) (first | exact ⟨c0, c1⟩ | with_reducible exact HK.out _ (HBk.trans hb4) | with_reducible exact HK.out _ (bel_al HBk _) | with_reducible exact HK.out _ HBk | with_reducible exact HK.out _ HBn | with_reducible exact HK.out _ HBa) (first
    | (refine step_append_g1 layK (hoa.out.below (bel_tr hbn hbk)) ⟨(m : Int) + 1, ak, ck, rkey draw (m + 1)⟩ elK HL1.out.1 HL1.out.2 HBk.size _ rfl _ (HC.out ak ck) ?_ _ _ rfl rfl rfl rfl; intro v4 w4 ho4 hg4 hb4)
    | (go_at_call 73; with_reducible refine (TC.out _ (by repeat (first | assumption | refine bel_dr ?_ | refine bel_al ?_ _))).mono ?_; rintro e wa ⟨va, rfl, hoa, hba⟩; have HBa := bel_tr (w := W3) (by repeat (first | assumption | refine bel_dr ?_ | refine bel_al ?_ _)) hba)
    | (go_at_call 36; with_reducible refine (TN.out _ (by repeat (first | assumption | refine bel_dr ?_ | refine bel_al ?_ _))).mono ?_; rintro e wn ⟨rfl, hbn⟩; have HBn := bel_tr (w := W3) (by repeat (first | assumption | refine bel_dr ?_ | refine bel_al ?_ _)) hbn)
    | (go_at_call 69; with_reducible refine (TK.out _ (by repeat (first | assumption | refine bel_dr ?_ | refine bel_al ?_ _))).mono ?_; rintro e wk ⟨ak, ck, rfl, hok, hbk⟩; have HBk := bel_tr (w := W3) (by repeat (first | assumption | refine bel_dr ?_ | refine bel_al ?_ _)) hbk))
  all_goals
    have hB4 : Below W3.heap.size W3 w4 := HBk.trans hb4
    have hq6 : w4.heap[w.heap.size]? = some (.cells #[.int .i64 keep, v] 39 (0, 0)) := (hB4.block _ (heap_lt HR6.out)).trans HR6.out
    have hq5 : w4.heap[w.heap.size + 1]? = some (.cells #[.int .i64 0, .slice none 0 0] 39 (0, 0)) := (hB4.block _ (heap_lt HR5.out)).trans HR5.out
    have hok4 : Ob w4 W3.heap.size 5 (.slice ak 32 ck) (rkey draw (m + 1)) :=
      (hok.out.below ((Below.refl _ _).alloc (Nat.le_refl _) _)).only (grown_only hg4) (fun k hk hf => hok.out.ne_gw (hoa.out.below (bel_tr hbn hbk)) (by decide) k hk hf)
    have hB5 : Below w.heap.size w w4 := HB3.out.trans (hB4.mono HB3.out.size)
    have hks : Ks w4 v4 (l ++ [⟨(m : Int) + 1, ak, ck, rkey draw (m + 1)⟩]) := by
      refine ⟨ho4.gs, fun k hk => ?_, fun k hk => ?_⟩
      · rcases List.mem_append.1 hk with hk | hk
        · exact (H.out.b k hk).below hB5
        · simp at hk; subst hk
          unfold RK.v; rw [rkey_len]; exact hok4.bs
      · rcases List.mem_append.1 hk with hk | hk
        · exact H.out.wf k hk
        · simp at hk; subst hk
          have := HM5.out
          exact ⟨by show -9223372036854775808 ≤ (m : Int) + 1; omega, by show (m : Int) + 1 ≤ 9223372036854775807; omega⟩
    have hrot : ∀ k, rotl keep l k = (l ++ [k]).drop ((l.length : Int) + 1 - keep).toNat := fun _ => rfl
    have hdd := rp_d HP.out
    obtain ⟨d, hd⟩ : ∃ d, ((l.length : Int) + 1 - keep).toNat = d := ⟨_, rfl⟩
    rw [hd] at hdd
    obtain ⟨M, hMl⟩ : ∃ M, (l ++ [(⟨(m : Int) + 1, ak, ck, rkey draw (m + 1)⟩ : RK)]).length = M := ⟨_, rfl⟩
    have hMn : M = l.length + 1 := by rw [← hMl]; simp
    have hcase : ((M : Int) - keep ≤ 0 ∧ d = 0) ∨ ((M : Int) - keep = 1 ∧ d = 1) := by omega
    have hsub : IntKind.i64.wrap ((M : Int) - keep) = (M : Int) - keep := IntWalk.i64_in _ (by have := HP.out.1; have := HP.out.2.1; have := HL.out; omega)
    obtain ⟨a4, c4, hv4⟩ := hks.g.shape
    rw [hMl] at hv4
    subst hv4
    have hc4 := hks.g.len_eq
    obtain ⟨Y, hY, hgY, hYb⟩ := hks.g.piece3 layK elK d M M (by omega) (Nat.le_refl _) (Nat.le_refl _) hc4.2.1
    obtain ⟨aY, cY, hYs⟩ := hgY.shape
    have hYl : (List.take (M - d) (List.drop d (l ++ [(⟨(m : Int) + 1, ak, ck, rkey draw (m + 1)⟩ : RK)]))) = rotl keep l ⟨epl l + 1, ak, ck, rkey draw (epl l + 1).toNat⟩ := by
      rw [hrot, hd, List.take_of_length_le (by rw [List.length_drop, hMl]; omega), HM.out, show ((m : Int) + 1).toNat = m + 1 by omega]
    rw [hYl] at hgY hYs
    obtain ⟨nY, hnY⟩ : ∃ n, (rotl keep l ⟨epl l + 1, ak, ck, rkey draw (epl l + 1).toNat⟩).length = n := ⟨_, rfl⟩
    rw [hnY] at hYs
    subst hYs
    have hmem : ∀ k ∈ rotl keep l ⟨epl l + 1, ak, ck, rkey draw (epl l + 1).toNat⟩, k ∈ l ++ [(⟨(m : Int) + 1, ak, ck, rkey draw (m + 1)⟩ : RK)] := by
      rw [← hYl]
      exact fun k hk => List.mem_of_mem_drop (List.mem_of_mem_take hk)
    have hcut : ∀ Wf, Only (fun k => k = w.heap.size + 1) w4 Wf → Below w.heap.size w Wf → Ks Wf (.slice aY nY cY) (rotl keep l ⟨epl l + 1, ak, ck, rkey draw (epl l + 1).toNat⟩) := by
      intro Wf hO hBf
      have hg : Gs 2 RK.cells Wf (.slice a4 M c4) (l ++ [(⟨(m : Int) + 1, ak, ck, rkey draw (m + 1)⟩ : RK)]) := ho4.gs.only hO (fun k hk e => by have := (ho4.lt k hk).1; omega)
      have hbk : Bs Wf (.slice ak 32 ck) (rkey draw (m + 1)) := hok4.bs.only hO (fun k hk e => by have := (hok4.lt k hk).1; omega)
      obtain ⟨Y', hY', hgY', _⟩ := hg.piece3 layK elK d M M (by omega) (Nat.le_refl _) (Nat.le_refl _) hc4.2.1
      have hYY : Y' = .slice aY nY cY := by
        have h1 := hY' w4
        rw [hY w4] at h1
        injection h1 with h1 _
        exact h1.symm
      rw [hYY, hYl] at hgY'
      refine ⟨hgY', fun k hk => ?_, fun k hk => hks.wf k (hmem k hk)⟩
      rcases List.mem_append.1 (hmem k hk) with hk | hk
      · exact (H.out.b k hk).below hBf
      · simp at hk; subst hk
        unfold RK.v; rw [rkey_len]; exact hbk
    have c0 : w4.cell? ⟨w.heap.size, 0, none⟩ = some (.int .i64 keep) := cell_of_row _ _ _ _ _ _ hq6
    have hoff : ∀ F : Nat → Prop, (∀ k, F k → k < w.heap.size) → (∀ x ∈ l, ∀ k, x.v.ownBlock = some k → ¬ F k) → KsOff F (.slice aY nY cY) (rotl keep l ⟨epl l + 1, ak, ck, rkey draw (epl l + 1).toNat⟩) := by
      intro F hF hold
      refine ⟨fun k hk hf => ?_, fun x hx k hk hf => ?_⟩
      · have := (ho4.lt k (hYb k hk)).1
        have := hF k hf
        omega
      · rcases List.mem_append.1 (hmem x hx) with hx | hx
        · exact hold x hx k hk hf
        · simp at hx; subst hx
          unfold RK.v at hk; rw [rkey_len] at hk
          have := (hok4.lt k hk).1
          have := hF k hf
          omega
    have HOFF := Lib.hid hoff
    have HCUT := Lib.hid hcut
    clear hcut hoff hmem hYl hnY hYb
    have HQ5 := Lib.hid hq5
    have HQ6 := Lib.hid hq6
    have HB5 := Lib.hid hB5
    have HKS := Lib.hid hks
    have HROT := Lib.hid hrot
    have HDD := Lib.hid hd
    have HML := Lib.hid hMl
    have HM1 := Lib.hid hMn
    have HC4 := Lib.hid hc4
    clear hB4 hq6 hq5 hok4 hB5 hks hrot hd hMl hMn hgY hc4
    clear HBa HBn HBk hba hbn hbk hoa hok ho4 hg4 hb4
    have hif : (if (M : Int) - keep < 0 then (0 : Int) else (M : Int) - keep) = (d : Int) := by split <;> omega
    have hr : w4.drew.heap[w.heap.size + 1]? = some (.cells #[.int .i64 0, .slice none 0 0] 39 (0, 0)) := HQ5.out
    have HR := Lib.hid hr
    have HIF := Lib.hid hif
    clear hcase hif hr
    go_upto_region 7 with fail
    rw [HIF.out]
    go_still_tail 10, (by kernel_rfl)
    change wpList _ _ _ _ _ w4.drew
    go_wp2_with (with_reducible refine wpList_store_row rfl _ _ rfl rfl rfl HR.out (by kernel_rfl) (by simp) (by simp [Value.oneCell']) ?_)
    have hO : Only (fun k => k = w.heap.size + 1) w4 (w4.drew.setRow (w.heap.size + 1) #[Value.int IntKind.i64 keep, Value.slice aY nY cY]) := (only_drew (Only.refl _ _)).trans (setRow_only _ _ _)
    have hBf := HB5.out.trans (hO.below (B := w.heap.size) (fun k hk => by omega) HB5.out.size)
    have hrow := setRow_heap w4.drew (w.heap.size + 1) _ #[Value.int IntKind.i64 keep, Value.slice aY nY cY] 39 (0, 0) HR.out
    have hfin := HCUT.out _ hO hBf
    obtain ⟨Wf, hWf⟩ : ∃ W, w4.drew.setRow (w.heap.size + 1) #[Value.int IntKind.i64 keep, Value.slice aY nY cY] = W := ⟨_, rfl⟩
    rw [hWf] at hrow hBf hfin ⊢
    have c0 : Wf.cell? ⟨w.heap.size + 1, 0, none⟩ = some (.int .i64 keep) := cell_of_row Wf _ _ _ _ _ hrow
    have c1 : Wf.cell? ⟨w.heap.size + 1, 1, none⟩ = some (.slice aY nY cY) := cell_of_row Wf _ _ _ _ _ hrow
    exact bodyPost_ret (v := .tuple #[.agg #[.int .i64 keep, .slice aY nY cY], .int .i64 0]) (by simp [results, Tryd.results37, go_sem, c0, c1]) rfl ⟨_, ak, ck, rfl, hfin, hBf, HOFF.out⟩

end Go.Proofs.YtmhgdddnjnichaaDoor
/- Layer 9 (ring): New and Rotate, whatever they are given. -/
set_option linter.unusedSimpArgs false
namespace Go.Proofs.YtmhgdddnjnichaaDoor
open Go.RowKit Go.Sort

theorem Ks.nil (w : World) : Ks w (.slice none 0 0) [] := ⟨Gs.nil w, fun k h => by simp at h, fun k h => by simp at h⟩

def NewBad (keep : Int) (draw : List UInt8) : Prop := keep < 1 ∨ 16 < keep ∨ draw.length ≠ 32
def NewPost (keep : Int) (draw : List UInt8) (w : World) (e : Ending) (w' : World) : Prop :=
  ∃ kp a n c er l2, e = .returned (.tuple #[.agg #[.int .i64 kp, .slice a n c], .int .i64 er]) ∧ Hid (Ks w' (.slice a n c) l2) ∧ Hid (Below w.heap.size w w') ∧
    Hid ((NewBad keep draw ∧ kp = 0 ∧ n = 0 ∧ er = 2 ∧ l2 = []) ∨ (¬ NewBad keep draw ∧ kp = keep ∧ n = 1 ∧ er = 0 ∧ (∃ a c, l2 = [⟨1, a, c, rkey draw 1⟩])))

theorem new_all (keep : Int) (vd : Value) (draw : List UInt8) (w : World) (hd : Bs w vd draw) (hT : Tabbed w) : Calls Tryd.prog 31 #[.int .i64 keep, vd] w (NewPost keep draw w) := by
  by_cases h : NewBad keep draw
  · refine (new_bad keep vd draw w hd h).mono ?_
    rintro e w' ⟨rfl, hb⟩
    exact ⟨0, none, 0, 0, 2, [], rfl, Lib.hid (Ks.nil _), Lib.hid hb, Lib.hid (.inl ⟨h, rfl, rfl, rfl, rfl⟩)⟩
  · have h' := h
    unfold NewBad at h'
    refine (new_ok keep vd draw w hd (by omega) (by omega) (by omega) hT).mono ?_
    rintro e w' ⟨v, a, c, rfl, hk, hb, _⟩
    obtain ⟨va, vc, hv⟩ := hk.g.shape
    subst hv
    exact ⟨keep, va, 1, vc, 0, _, rfl, Lib.hid hk, Lib.hid hb, Lib.hid (.inr ⟨h, rfl, rfl, rfl, a, c, rfl⟩)⟩

/-- 0: it goes; 2, 3: why not -/
def RotE (keep : Int) (l : List RK) (draw : List UInt8) (er : Int) : Prop :=
  (er = 2 ∧ (¬ RP keep l ∨ draw.length ≠ 32)) ∨ (er = 3 ∧ RP keep l ∧ draw.length = 32 ∧ epl l = 1048576) ∨ (er = 0 ∧ RP keep l ∧ draw.length = 32 ∧ epl l ≠ 1048576)
def RotAll (keep : Int) (l : List RK) (draw : List UInt8) (w : World) (e : Ending) (w' : World) : Prop :=
  ∃ kp a n c er l2, e = .returned (.tuple #[.agg #[.int .i64 kp, .slice a n c], .int .i64 er]) ∧ Hid (Ks w' (.slice a n c) l2) ∧ Hid (Below w.heap.size w w') ∧ Hid (RotE keep l draw er) ∧
    Hid ((er ≠ 0 → kp = 0 ∧ n = 0 ∧ l2 = []) ∧ (er = 0 → kp = keep ∧ (∃ a c, l2 = rotl keep l ⟨epl l + 1, a, c, rkey draw (epl l + 1).toNat⟩) ∧ ∀ F : Nat → Prop, (∀ k, F k → k < w.heap.size) → (∀ x ∈ l, ∀ k, x.v.ownBlock = some k → ¬ F k) → KsOff F (.slice a n c) l2))

theorem rotate_all (keep : Int) (v vd : Value) (l : List RK) (draw : List UInt8) (w : World) (h : Ks w v l) (hw : -9223372036854775808 ≤ keep ∧ keep ≤ 9223372036854775807) (hd : Bs w vd draw) (hT : Tabbed w) :
    Calls Tryd.prog 37 #[.agg #[.int .i64 keep, v], vd] w (RotAll keep l draw w) := by
  by_cases h1 : RP keep l ∧ draw.length = 32
  · by_cases h2 : epl l = 1048576
    · refine (rotate_full keep v vd l draw w h hd h1.1 h1.2 h2).mono ?_
      rintro e w' ⟨rfl, hb⟩
      exact ⟨0, none, 0, 0, 3, [], rfl, Lib.hid (Ks.nil _), Lib.hid hb, Lib.hid (.inr (.inl ⟨rfl, h1.1, h1.2, h2⟩)), Lib.hid ⟨fun _ => ⟨rfl, rfl, rfl⟩, fun e => by omega⟩⟩
    · refine (rotate_ok keep v vd l draw w h hd h1.1 h1.2 h2 hT).mono ?_
      rintro e w' ⟨v, a, c, rfl, hk, hb, hof⟩
      obtain ⟨va, vc, hv⟩ := hk.g.shape
      subst hv
      exact ⟨keep, va, _, vc, 0, _, rfl, Lib.hid hk, Lib.hid hb, Lib.hid (.inr (.inr ⟨rfl, h1.1, h1.2, h2⟩)), Lib.hid ⟨fun e => absurd rfl e, fun _ => ⟨rfl, ⟨a, c, rfl⟩, hof⟩⟩⟩
  · have h3 : ¬ RP keep l ∨ draw.length ≠ 32 := by
      by_cases hr : RP keep l
      · exact .inr fun e => h1 ⟨hr, e⟩
      · exact .inl hr
    refine (rotate_bad keep v vd l draw w h hw hd h3).mono ?_
    rintro e w' ⟨rfl, hb⟩
    exact ⟨0, none, 0, 0, 2, [], rfl, Lib.hid (Ks.nil _), Lib.hid hb, Lib.hid (.inl ⟨rfl, h3⟩), Lib.hid ⟨fun _ => ⟨rfl, rfl, rfl⟩, fun e => by omega⟩⟩

end Go.Proofs.YtmhgdddnjnichaaDoor
/- Layer 9 (ring): the walk of awake. -/
set_option linter.unusedSimpArgs false
namespace Go.Proofs.YtmhgdddnjnichaaDoor
open Go.RowKit Go.Sort

def z32 : List UInt8 := List.replicate 32 0
theorem z32_len : z32.length = 32 := rfl
theorem ob_made32 (W : World) : Ob (W.alloc (.cells (rowb 32 fun _ => 0) 5)) W.heap.size 5 (.slice (some ⟨W.heap.size, 0, none⟩) 32 32) z32 :=
  ob_lit W 5 (rowb 32 fun _ => 0) z32 32 rfl (by decide) rfl

theorem Rd.lt {w : World} {s n : Nat} {v : Value} {xs : List Value} (h : Rd w s v n xs) (hn : n ≠ 0) : ∀ k, v.ownBlock = some k → k < w.heap.size := by
  obtain ⟨_, a, c, rfl, _, _, _, h5⟩ := h
  intro k hk
  rcases h5 with h5 | ⟨b, off, rfl, hlt, _⟩
  · exact absurd h5 hn
  · simp only [Value.ownBlock, Option.some.injEq] at hk
    omega
/-- what lies behind the world's end is not read -/
theorem RP.off {F : Nat → Prop} {w : World} {v : Value} {keep : Int} {l : List RK} (hp : RP keep l) (h : Ks w v l) (hF : ∀ k, F k → w.heap.size ≤ k) : KsOff F v l := by
  refine ⟨fun k hk hf => ?_, fun x hx k hk hf => ?_⟩
  · have := Rd.lt h.g (by have := hp.2.2.1; omega) k hk
    have := hF k hf
    omega
  · obtain ⟨i, hi, hix⟩ := List.getElem_of_mem hx
    have hb := (hp.2.2.2.2.2.2 i x (by rw [List.getElem?_eq_getElem hi, hix])).1
    have := Rd.lt (h.b x hx) (by omega) k hk
    have := hF k hf
    omega
theorem rp_one {keep : Int} (h1 : 1 ≤ keep) (h2 : keep ≤ 16) (a : Option Addr) (c : Nat) (b : List UInt8) (hb : b.length = 32) : RP keep [⟨1, a, c, b⟩] := by
  refine ⟨h1, h2, by simp, by simpa using h1, by show (1 : Int) ≤ 1; omega, by show (1 : Int) + _ ≤ _; simp, fun i k hk => ?_⟩
  match i with
  | 0 => simp at hk; subst hk; exact ⟨hb, rfl⟩
  | i + 1 => simp at hk

/-- a ring behind a pointer that is right and has these keys -/
structure RAt (w wr : World) (keep : Int) (g : Nat) (v : Value) (l : List RK) : Prop where
  row : wr.heap[g]? = some (.cells #[.int .i64 keep, v] 39 (0, 0))
  ks : Ks wr v l
  off : KsOff (fun i => i = g) v l
  bel : Below w.heap.size w wr
  fresh : w.heap.size ≤ g

theorem RAt.put {w wr W2 : World} {keep keep2 : Int} {g : Nat} {v v2 : Value} {l l2 : List RK} (h : RAt w wr keep g v l) (hb : Below wr.heap.size wr W2) (hk : Ks W2 v2 l2) (ho : KsOff (fun i => i = g) v2 l2) :
    RAt w (W2.setRow g #[.int .i64 keep2, v2]) keep2 g v2 l2 := by
  have hO : Only (fun i => i = g) W2 (W2.setRow g #[.int .i64 keep2, v2]) := setRow_only _ _ _
  have hB2 := bel_tr h.bel hb
  have hfr := h.fresh
  exact ⟨setRow_heap W2 g _ _ _ _ ((hb.block _ (heap_lt h.row)).trans h.row), hk.only ho hO, ho, hB2.trans (hO.below (fun i hi => by omega) hB2.size), h.fresh⟩

def R2 (k : Nat) (l : List RK) : Prop := RP 2 l ∧ epl l = k + 1 ∧ l.length = min 2 (k + 1)
theorem R2.step {k : Nat} {l : List RK} (h : R2 k l) (hk : k < 1000) (a : Option Addr) (c : Nat) (b : List UInt8) (hb : b.length = 32) : R2 (k + 1) (rotl 2 l ⟨epl l + 1, a, c, b⟩) := by
  obtain ⟨hrp, hep, hlen⟩ := h
  refine ⟨rot_rp hrp hb rfl (by omega), ?_, ?_⟩
  · rw [rot_epl hrp]
    show epl l + 1 = _
    omega
  · rw [rot_len]
    omega

set_option maxRecDepth 100000 in
set_option maxHeartbeats 3200000 in
theorem awake9 (w : World) (hT : Tabbed w) : Calls Tryd.prog 27 #[] w fun e w' => e = .returned (.bool true) ∧ Below w.heap.size w w' := by
  have HT := Lib.hid hT
  clear hT
  go_enter Tryd.func27, Tryd.ntmps27
  go_wp2_with (first
    | (with_reducible refine wpList_make_bytes w elB 32 (by decide) (by decide) rfl _ _ rfl _ _ rfl rfl ?_; intro v1 w1 ho1 hb1; have HO1 := Lib.hid ho1; have HB1 := Lib.hid hb1; clear ho1 hb1)
    | (go_at_call 31; refine (new_ok 2 v1 (List.replicate 32 0) w1 HO1.out.bs (by decide) (by decide) rfl (HT.out.below HB1.out)).mono ?_; rintro e w2 ⟨v2, a2, c2, rfl, hk2, hb2, hof2⟩; obtain ⟨xa, xc, hv2⟩ := hk2.g.shape; rw [show (List.length [(⟨1, a2, c2, rkey (List.replicate 32 0) 1⟩ : RK)]) = 1 from rfl] at hv2; subst hv2; have HK2 := Lib.hid hk2; have HOF2 := Lib.hid hof2; have HB2' := Lib.hid hb2; have HB2 := Lib.hid (bel_tr HB1.out hb2); clear hk2 hb2 hof2)
    | (with_reducible refine wpList_store_new rfl _ _ rfl rfl rfl (by kernel_rfl) (by simp) (by simp [Value.oneCell']) ?_))
  have h0 : RAt w (w2.alloc (.cells #[.int .i64 2, .slice xa 1 xc] 39)) 2 w2.heap.size (.slice xa 1 xc) [⟨1, a2, c2, rkey (List.replicate 32 0) 1⟩] := by
    have hba := bel_al HB2.out (.cells #[.int .i64 2, .slice xa 1 xc] 39)
    refine ⟨heap_alloc_new _ _, HK2.out.below ((Below.refl _ _).alloc (Nat.le_refl _) _), ?_, hba, HB2.out.size⟩
    exact RP.off (rp_one (keep := 2) (by decide) (by decide) _ _ _ (rkey_len _ _)) HK2.out (fun k hk => by omega)
  have h1 : R2 0 [⟨1, a2, c2, rkey (List.replicate 32 0) 1⟩] := by
    exact ⟨rp_one (by decide) (by decide) _ _ _ (rkey_len _ _), rfl, rfl⟩
  have H0 := Lib.hid h0
  have H1 := Lib.hid h1
  obtain ⟨g, hg⟩ : ∃ g, w2.heap.size = g := ⟨_, rfl⟩
  obtain ⟨W3, hW3⟩ : ∃ W, w2.alloc (.cells #[.int .i64 2, .slice xa 1 xc] 39) = W := ⟨_, rfl⟩
  rw [hW3, hg] at H0
  rw [hW3, hg]
  clear h0 h1 hg hW3 HK2 HOF2 HB2' HB2 HO1 HB1
  go_loopw [2, 8] (fun s2 vi wr => ∃ k : Nat, k ≤ 2 ∧ vi = .int .i64 k ∧ s2 = .int .i64 0 ∧ ∃ v l, Hid (RAt w wr 2 g v l) ∧ Hid (R2 k l)) (fun _ vi _ => 2 - (intOf vi).toNat)
  case atStart => exact ⟨0, by omega, rfl, rfl, _, _, H0, H1⟩
  case round =>
    obtain ⟨k, hk, rfl, rfl, v, l, HA, HR⟩ := hrel
    have hrow := HA.out.row
    by_cases hlt : k < 2
    · have e1 : (k : Int) < 2 := by omega
      have HR1 := Lib.hid hrow
      have HRA : Hid (∀ W, Below wr.heap.size wr W → W.cell? ⟨g, 0, none⟩ = some (.int .i64 2) ∧ W.cell? ⟨g, 1, none⟩ = some v ∧ W.frozen? ⟨g, 0, none⟩ = false ∧ W.frozen? ⟨g, 1, none⟩ = false) := by
        intro W hW
        have h := (hW.block _ (heap_lt HR1.out)).trans HR1.out
        exact ⟨cell_of_row W _ _ _ _ _ h, cell_of_row W _ _ _ _ _ h, row_free h 0, row_free h 1⟩
      have hmk : ∀ W : World, (Instr.makeSlice 22 (.int .i64 32) (.int .i64 32)).run Tryd.prog W = .ok (.slice (some ⟨W.heap.size, 0, none⟩) 32 32) (W.alloc (.cells (rowb 32 fun _ => 0) 5)) := fun W => run_make_rowb elB 32 32 (Nat.le_refl _) (by decide) (by decide) W
      have hba : Below wr.heap.size wr (wr.drew.alloc (.cells (rowb 32 fun _ => 0) 5)) := bel_al (bel_dr (Below.refl _ _)) _
      have hrot := rotate_ok 2 v (.slice (some ⟨wr.heap.size, 0, none⟩) 32 32) l z32 (wr.drew.alloc (.cells (rowb 32 fun _ => 0) 5)) (HA.out.ks.below hba) (ob_made32 wr.drew).bs HR.out.1 rfl (by have := HR.out.2.1; omega) (HT.out.below (bel_tr HA.out.bel hba))
      have TR : Hid (Calls Tryd.prog 37 #[.agg #[.int .i64 2, v], .slice (some ⟨wr.heap.size, 0, none⟩) 32 32] (wr.alloc (.cells (rowb 32 fun _ => 0) 5)).drew fun e w' => ∃ a2 n2 c2 l2, e = .returned (.tuple #[.agg #[.int .i64 2, .slice a2 n2 c2], .int .i64 0]) ∧ Hid (R2 (k + 1) l2) ∧ Hid (RAt w (w'.setRow g #[.int .i64 2, .slice a2 n2 c2]) 2 g (.slice a2 n2 c2) l2) ∧ Hid (Below wr.heap.size wr w')) := by
        refine hrot.mono ?_
        rintro e w' ⟨v2, a, c, rfl, hk2, hb2, hof2⟩
        have hoff := hof2 (fun i => i = g) (fun i hi => by have := heap_lt HR1.out; have := hba.size; omega) HA.out.off.2
        have hst := HR.out.step (by omega) a c (rkey z32 (epl l + 1).toNat) (rkey_len _ _)
        have hb := bel_tr hba hb2
        have hput := HA.out.put (keep2 := 2) hb hk2 hoff
        obtain ⟨a2, c2, rfl⟩ := hk2.g.shape
        exact ⟨a2, _, c2, _, rfl, Lib.hid hst, Lib.hid hput, Lib.hid hb⟩
      obtain ⟨p0, p1, _, _⟩ := HRA.out wr (Below.refl _ _)
      have p2 : ∀ ob, (wr.alloc ob).cell? ⟨g, 0, none⟩ = some (.int .i64 2) := fun ob => (HRA.out _ (bel_al (Below.refl _ _) ob)).1
      have p3 : ∀ ob, (wr.alloc ob).cell? ⟨g, 1, none⟩ = some v := fun ob => (HRA.out _ (bel_al (Below.refl _ _) ob)).2.1
      clear hba hrot hrow
      go_upto_region 5 with fail
      go_region_law (go_simp; go_at_call 37; refine TR.out.mono ?_; rintro e w5 ⟨a2, n2, c2, l2, rfl, HR2, HA2, HB5⟩; obtain ⟨q0, q1, f0, f1⟩ := HRA.out _ HB5.out)
      all_goals
        rw [two_cells _ _ _ _ _ _ _ ((HB5.out.block _ (heap_lt HR1.out)).trans HR1.out)]
        go_wp2_with fail
        exact ⟨⟨k + 1, by omega, by go_num, rfl, _, _, HA2, HR2⟩, by simp [intOf]; omega⟩
    · have e1 : ¬ (k : Int) < 2 := by omega
      obtain rfl : k = 2 := by omega
      have HR1 := Lib.hid hrow
      obtain ⟨hrp, hep, hlen⟩ := HR.out
      have hlen2 : l.length = 2 := hlen
      have hep3 : epl l = 3 := hep
      obtain ⟨a, c, b, o, rfl, h2, h3, hi, hc⟩ := HA.out.ks.open_ 2 hlen2
      obtain ⟨k0, hk0⟩ : ∃ k, l[0]? = some k := ⟨_, List.getElem?_eq_getElem (by omega)⟩
      have he0 : k0.ep = 2 := by
        have h1 := rp_epl hrp
        have h2 := ep0_get l k0 hk0
        omega
      have d0 := (hc _ (Below.refl _ _) 0 k0 hk0).1
      rw [he0] at d0
      have x0 := fun W => hi W 0 (by omega)
      rw [Int.natCast_zero] at x0
      have p0 : wr.cell? ⟨g, 0, none⟩ = some (.int .i64 2) := cell_of_row wr _ _ _ _ _ hrow
      have p1 : wr.cell? ⟨g, 1, none⟩ = some (.slice a 2 c) := cell_of_row wr _ _ _ _ _ hrow
      have HE := Lib.hid hep3
      clear hrow hrp hep hlen hlen2 hep3 hi hc hk0 he0
      go_wp2_with (go_at_call 36; refine (now_any 2 _ l _ HA.out.ks).mono ?_; rw [HE.out]; rintro e w5 ⟨rfl, hb5⟩; have HB5 := Lib.hid (bel_tr HA.out.bel hb5); clear hb5)
      go_ret
      exact ⟨rfl, HB5.out⟩

end Go.Proofs.YtmhgdddnjnichaaDoor
