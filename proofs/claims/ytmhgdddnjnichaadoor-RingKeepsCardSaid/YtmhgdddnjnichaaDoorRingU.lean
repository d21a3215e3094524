/- Layer 9 (ring): the walk of the statement RingKeeps. -/
import Derived.Test.YtmhgdddnjnichaaDoorRingR
import Derived.Test.YtmhgdddnjnichaaDoorRingS
import Derived.Test.YtmhgdddnjnichaaDoorHmT
import Derived.Deep.RegionHeld3
import Derived.Deep.CutBlock
import Derived.Deep.DeepCutAuto
set_option linter.unusedSimpArgs false
namespace Go.Proofs.YtmhgdddnjnichaaDoor
open Go.RowKit Go.Sort

theorem RAt.mono {w wr W : World} {keep : Int} {g : Nat} {v : Value} {l : List RK} (h : RAt w wr keep g v l) (hb : Below wr.heap.size wr W) : RAt w W keep g v l :=
  ⟨(hb.block _ (heap_lt h.row)).trans h.row, h.ks.below hb, h.off, bel_tr h.bel hb, h.fresh⟩
theorem RAt.cells {w wr : World} {keep : Int} {g : Nat} {v : Value} {l : List RK} (h : RAt w wr keep g v l) : wr.cell? ⟨g, 0, none⟩ = some (.int .i64 keep) ∧ wr.cell? ⟨g, 1, none⟩ = some v :=
  ⟨cell_of_row wr _ _ _ _ _ h.row, cell_of_row wr _ _ _ _ _ h.row⟩
theorem rot_old {keep : Int} {l : List RK} {k x : RK} {j : Nat} (hj : j + 1 < (rotl keep l k).length) (hx : (rotl keep l k)[j]? = some x) : ∃ i : Nat, l[i]? = some x := by
  rw [rot_len] at hj
  rw [rot_get, List.getElem?_append_left (by omega)] at hx
  exact ⟨_, hx⟩
theorem Ks.take {w : World} {v v2 : Value} {l : List RK} {n : Nat} (h : Ks w v l) (hg : Gs 2 RK.cells w v2 (l.take n)) : Ks w v2 (l.take n) :=
  ⟨hg, fun k hk => h.b k (List.mem_of_mem_take hk), fun k hk => h.wf k (List.mem_of_mem_take hk)⟩

set_option maxRecDepth 100000 in
set_option maxHeartbeats 6400000 in
theorem ringkeeps_walk (n : Nat) (vl : Value) (vs : List Value) (ls : List (List UInt8)) (hn : vs.length = ls.length) (w : World) (hl : Rd w 1 vl vs.length vs)
    (hv : ∀ (i : Nat) (v : Value) (l : List UInt8), vs[i]? = some v → ls[i]? = some l → Bs w v l) (hk : n < 256) (hT : Tabbed w) :
    Calls Tryd.prog 8 #[.int .u8 (n : Int), vl] w fun e w' => e = .returned (.bool true) ∧ Below w.heap.size w w' := by
  obtain ⟨a, c, adr, rfl, h2, h3, h4, h5, h6, h7⟩ := Rd.open_ elBs hl
  obtain ⟨N, hN⟩ : ∃ n, vs.length = n := ⟨_, rfl⟩
  rw [hN] at h2 h4 h5 h6 h7 hn ⊢
  have X : Hid (∀ (W : World) (i : Nat), i < N → (Instr.indexAt 30 (.slice a N c) (.int .i64 (i : Int))).run Tryd.prog W = .ok (.pointer (some (adr i))) W) := fun W i hi => by
    have := h5 W i (by omega) (by omega)
    simpa using this
  have C : Hid (∀ W, Below w.heap.size w W → ∀ (i : Nat), i < N → ∃ va vn vc b, W.cell? (adr i) = some (.slice va vn vc) ∧ Bs W (.slice va vn vc) b ∧ b.length = vn) := by
    intro W hW i hlt
    obtain ⟨v, hi⟩ : ∃ v, vs[i]? = some v := ⟨_, List.getElem?_eq_getElem (by omega)⟩
    obtain ⟨b, hb⟩ : ∃ b, ls[i]? = some b := ⟨_, List.getElem?_eq_getElem (by omega)⟩
    have hbs := (hv i v b hi hb).below hW
    obtain ⟨va, vc, hvs⟩ := hbs.shape
    subst hvs
    refine ⟨va, _, vc, b, ?_, hbs, rfl⟩
    have := h7 i hlt 0 (by omega)
    rw [Addr.add_zero'] at this
    rw [hW.cell (h6 i hlt), this]
    simpa using hi
  have HT := Lib.hid hT
  clear hl h4 h5 h6 h7 hv hT hN hn
  have n1 : (0 : Int) ≤ n ∧ (n : Int) < 256 := by omega
  go_enter Tryd.func8, Tryd.ntmps8
  go_wp2_with fail
  refine (awake9 _ HT.out).mono ?_
  rintro e w1 ⟨rfl, hb1⟩
  have HB1 : Hid (Below w.heap.size w w1) := hb1
  clear hb1
  by_cases hc1 : N ≤ 30
  · by_cases hc2 : 0 < N
    · have e1 : ¬ (30 : Int) < N := by omega
      have e2 : ((N : Int) == 0) = false := by simp; omega
      obtain ⟨d0a, d0n, d0c, d0, c0, hd0, hdl0⟩ := C.out w1 HB1.out 0 hc2
      have x0 := fun W => X.out W 0 hc2
      rw [Int.natCast_zero] at x0
      have HD0 := Lib.hid hd0
      have hnew := new_all (n : Int) (.slice d0a d0n d0c) d0 w1 hd0 (HT.out.below HB1.out)
      have HNEW := Lib.hid hnew
      clear hd0 hdl0 hnew
      go_upto_region 6 with (first
        | (go_at_call 31; refine HNEW.out.mono ?_; rintro e w2 ⟨kp, na, nn, nc, er, l2, rfl, HK2, hb2, HS2⟩; have HB2 := Lib.hid (bel_tr HB1.out hb2.out); clear hb2)
        | (with_reducible refine wpList_store_new rfl _ _ rfl rfl rfl (by kernel_rfl) (by simp) (by simp [Value.oneCell']) ?_))
      clear c0 x0 e2 e1 HNEW
      have hba := bel_al HB2.out (.cells #[.int .i64 kp, .slice na nn nc] 39)
      have hrow : (w2.alloc (.cells #[.int .i64 kp, .slice na nn nc] 39)).heap[w2.heap.size]? = some (.cells #[.int .i64 kp, .slice na nn nc] 39 (0, 0)) := heap_alloc_new _ _
      have hks : Ks (w2.alloc (.cells #[.int .i64 kp, .slice na nn nc] 39)) (.slice na nn nc) l2 := HK2.out.below ((Below.refl _ _).alloc (Nat.le_refl _) _)
      have hfr := HB2.out.size
      obtain ⟨W3, hW3⟩ : ∃ W, w2.alloc (.cells #[.int .i64 kp, .slice na nn nc] 39) = W := ⟨_, rfl⟩
      rw [hW3] at hba hrow hks ⊢
      obtain ⟨g, hg⟩ : ∃ g, w2.heap.size = g := ⟨_, rfl⟩
      rw [hg] at hrow hfr ⊢
      rcases HS2.out with ⟨hbad, rfl, rfl, rfl, rfl⟩ | ⟨hgood, rfl, rfl, rfl, xa, xc, rfl⟩
      · have j0 : W3.cell? ⟨g, 0, none⟩ = some (.int .i64 0) := cell_of_row W3 _ _ _ _ _ hrow
        have j1 : W3.cell? ⟨g, 1, none⟩ = some (.slice na 0 nc) := cell_of_row W3 _ _ _ _ _ hrow
        have HBA := Lib.hid hba
        clear hba hrow hks hW3 hg hbad HK2 HB2
        go_wp2
        go_ret
        exact ⟨rfl, HBA.out⟩
      · have hgk : 1 ≤ (n : Int) ∧ (n : Int) ≤ 16 := by unfold NewBad at hgood; omega
        have hrp0 := rp_one (keep := (n : Int)) hgk.1 hgk.2 xa xc (rkey d0 1) (rkey_len _ _)
        have hra : RAt w W3 (n : Int) g (.slice na 1 nc) [⟨1, xa, xc, rkey d0 1⟩] := by
          refine ⟨hrow, hks, RP.off hrp0 HK2.out (fun k hk => by omega), hba, hfr⟩
        have HA0 := Lib.hid hra
        have HP0 : Hid (RP (n : Int) [⟨1, xa, xc, rkey d0 1⟩] ∧ epl [(⟨1, xa, xc, rkey d0 1⟩ : RK)] ≤ 1 + ((0 : Nat) : Int)) := ⟨hrp0, by show (1 : Int) ≤ _; simp⟩
        clear hra hrp0 hrow hks hba hW3 hg hgood HK2 HB2 HS2
        go_wp2_with fail
        go_loopw [42] (fun vi wr => ∃ i : Nat, i ≤ N ∧ vi = .int .i64 i ∧ ∃ va vn vc l, Hid (RAt w wr (n : Int) g (.slice va vn vc) l) ∧ Hid (RP (n : Int) l ∧ epl l ≤ 1 + (i : Int))) (fun vi _ => N - (intOf vi).toNat)
        case atStart => exact ⟨0, by omega, rfl, _, _, _, _, HA0, HP0⟩
        case round =>
          obtain ⟨i, hin, rfl, va, vn, vc, l, HA, HP⟩ := hrel
          clear HA0 HP0 HD0
          obtain ⟨p0, p1⟩ := HA.out.cells
          by_cases hlt : i < N
          · have e1 : (i : Int) < N := by omega
            obtain ⟨da, dn, dc, d, c0, hd, hdl⟩ := C.out wr HA.out.bel i hlt
            have x0 := fun W => X.out W i hlt
            have hrot := rotate_all (n : Int) (.slice va vn vc) (.slice da dn dc) l d wr HA.out.ks (by omega) hd (HT.out.below HA.out.bel)
            have HROT := Lib.hid hrot
            have HDL := Lib.hid hdl
            clear hd hdl hrot
            go_upto_region 12 with (first
              | (go_at_call 37; refine HROT.out.mono ?_; rintro e w5 ⟨kp2, ra, rn, rc, er2, l3, rfl, HK5, hb5, HE5, HS5⟩; have HB5 := hb5; clear hb5)
              | (with_reducible refine wpList_store_new rfl _ _ rfl rfl rfl (by kernel_rfl) (by simp) (by simp [Value.oneCell']) ?_))
            clear c0 x0 p0 p1
            have hb6 : Below wr.heap.size wr (w5.alloc (.cells #[.int .i64 kp2, .slice ra rn rc] 39)) := bel_al HB5.out _
            have hrow6 : (w5.alloc (.cells #[.int .i64 kp2, .slice ra rn rc] 39)).heap[w5.heap.size]? = some (.cells #[.int .i64 kp2, .slice ra rn rc] 39 (0, 0)) := heap_alloc_new _ _
            have hks6 : Ks (w5.alloc (.cells #[.int .i64 kp2, .slice ra rn rc] 39)) (.slice ra rn rc) l3 := HK5.out.below ((Below.refl _ _).alloc (Nat.le_refl _) _)
            obtain ⟨W6, hW6⟩ : ∃ W, w5.alloc (.cells #[.int .i64 kp2, .slice ra rn rc] 39) = W := ⟨_, rfl⟩
            rw [hW6] at hb6 hrow6 hks6 ⊢
            obtain ⟨g6, hg6⟩ : ∃ g, w5.heap.size = g := ⟨_, rfl⟩
            rw [hg6] at hrow6 ⊢
            have hE : (er2 = 2 ∧ dn ≠ 32) ∨ (er2 = 0 ∧ dn = 32) := by
              have h1 := HDL.out
              have h2 := HP.out.1
              have h3 := HP.out.2
              rcases HE5.out with ⟨h4, h5⟩ | ⟨h4, h5, h6, h7⟩ | ⟨h4, h5, h6, h7⟩
              · rcases h5 with h5 | h5
                · exact absurd h2 h5
                · exact .inl ⟨h4, by omega⟩
              · omega
              · exact .inr ⟨h4, by omega⟩
            have HA6 := Lib.hid (HA.out.mono hb6)
            have HB6 := Lib.hid hb6
            have HR6 := Lib.hid hrow6
            have HK6 := Lib.hid hks6
            clear hb6 hrow6 hks6 hW6 hg6 HK5 HE5
            rcases hE with ⟨rfl, hdn⟩ | ⟨rfl, hdn⟩
            · have h4 : ((dn : Int) == 32) = false := by simp; omega
              have HPN : Hid (RP (n : Int) l ∧ epl l ≤ 1 + ((i + 1 : Nat) : Int)) := ⟨HP.out.1, by have := HP.out.2; omega⟩
              clear hdn
              go_wp2
              go_roundw
              case rel => exact ⟨i + 1, by omega, by go_num, _, _, _, _, HA6, HPN⟩
              case measure => simp [intOf]; omega
            · clear hdn
              obtain ⟨rfl, ⟨ya, yc, rfl⟩, hoff⟩ := HS5.out.2 rfl
              have hoff2 := hoff (fun k => k = g) (fun k hk => by have := heap_lt HA.out.row; omega) HA.out.off.2
              have hep := rp_epl HP.out.1
              have hepb : 1 ≤ epl l ∧ epl l ≤ 31 := by
                have h1 := HP.out.2
                have h2 := HP.out.1.2.2.2.2.1
                have h3 := HP.out.1.2.2.1
                omega
              have hrp3 := rot_rp (k := ⟨epl l + 1, ya, yc, rkey d (epl l + 1).toNat⟩) HP.out.1 (rkey_len _ _) rfl (by omega)
              have hep3 : epl (rotl (n : Int) l ⟨epl l + 1, ya, yc, rkey d (epl l + 1).toNat⟩) = epl l + 1 := rot_epl HP.out.1
              have hold : ∀ (j : Nat) (x : RK), j + 1 < (rotl (n : Int) l ⟨epl l + 1, ya, yc, rkey d (epl l + 1).toNat⟩).length → (rotl (n : Int) l ⟨epl l + 1, ya, yc, rkey d (epl l + 1).toNat⟩)[j]? = some x → ∃ i : Nat, l[i]? = some x := fun j x h1 h2 => rot_old h1 h2
              obtain ⟨E, hEe⟩ : ∃ E, epl l = E := ⟨_, rfl⟩
              rw [hEe] at hoff2 hepb hrp3 hep3 hold HK6
              obtain ⟨l3, hl3⟩ : ∃ x, rotl (n : Int) l ⟨E + 1, ya, yc, rkey d (E + 1).toNat⟩ = x := ⟨_, rfl⟩
              rw [hl3] at hoff2 hrp3 hep3 hold HK6
              have HOFF := Lib.hid hoff2
              have HP3 := Lib.hid hrp3
              have HE3 := Lib.hid hep3
              have HOLD := Lib.hid hold
              have HEE := Lib.hid hEe
              have hrn := HK6.out.g.len_eq
              have HLN : Hid (l3.length = rn) := Lib.hid hrn.1.symm
              have hrn1 : 1 ≤ rn ∧ rn ≤ 16 := by have := hrp3.2.2.1; have := hrp3.2.2.2.1; have := hrp3.2.1; omega
              clear hrn
              clear hoff hoff2 hep hrp3 hep3 hold hEe hl3 HS5
              have HJ : Hid (∀ W, Below W6.heap.size W6 W → W.cell? ⟨g6, 0, none⟩ = some (.int .i64 n) ∧ W.cell? ⟨g6, 1, none⟩ = some (.slice ra rn rc) ∧ W.cell? ⟨g, 0, none⟩ = some (.int .i64 n) ∧ W.cell? ⟨g, 1, none⟩ = some (.slice va vn vc)) := by
                intro W hW
                have h1 := (hW.block _ (heap_lt HR6.out)).trans HR6.out
                have h2 := (HA6.out.mono hW).cells
                exact ⟨cell_of_row W _ _ _ _ _ h1, cell_of_row W _ _ _ _ _ h1, h2.1, h2.2⟩
              obtain ⟨j0, j1, j2, j3⟩ := HJ.out W6 (Below.refl _ _)
              have q0 := fun d os => cell_regrown j0 d os
              have q1 := fun d os => cell_regrown j1 d os
              have q2 := fun d os => cell_regrown j2 d os
              have q3 := fun d os => cell_regrown j3 d os
              have S1 : Hid (∀ dd os, Calls Tryd.prog 29 #[.agg #[.int .i64 n, .slice ra rn rc]] (grow (redrawn W6 dd) os) fun e w'' => e = .returned (.bool true) ∧ ∃ p : Regrown, w'' = grow (redrawn W6 p.d) p.os) := fun dd os => by
                have := right_any (n : Int) (.slice ra rn rc) l3 _ (HK6.out.below (below_regrown W6 dd os)) (by omega)
                rw [kok_yes HP3.out] at this
                exact Calls.regrown_of this
              have S2 : Hid (∀ dd os, Calls Tryd.prog 36 #[.agg #[.int .i64 n, .slice ra rn rc]] (grow (redrawn W6 dd) os) fun e w'' => e = .returned (.int .i64 (E + 1)) ∧ ∃ p : Regrown, w'' = grow (redrawn W6 p.d) p.os) := fun dd os => by
                have := now_any (n : Int) (.slice ra rn rc) l3 _ (HK6.out.below (below_regrown W6 dd os))
                rw [HE3.out] at this
                exact Calls.regrown_of this
              have S3 : Hid (∀ dd os, Calls Tryd.prog 36 #[.agg #[.int .i64 n, .slice va vn vc]] (grow (redrawn W6 dd) os) fun e w'' => e = .returned (.int .i64 E) ∧ ∃ p : Regrown, w'' = grow (redrawn W6 p.d) p.os) := fun dd os => by
                have := now_any (n : Int) (.slice va vn vc) l _ (HA6.out.ks.below (below_regrown W6 dd os))
                rw [HEE.out] at this
                exact Calls.regrown_of this
              clear j0 j1 j2 j3
              go_upto_region 15 with fail
              have hwr : IntKind.i64.wrap (E + 1) = E + 1 := IntWalk.i64_in _ (by omega)
              have hne : (E + 1 != E + 1) = false := by simp
              refine wp_region_quiet_below (by kernel_rfl) (by kernel_rfl) ?_
              repeat (go_big_quiet_step ((first | (go_at_call 29; with_reducible exact S1.out _ _) | (go_at_call 36; with_reducible exact S2.out _ _) | (go_at_call 36; with_reducible exact S3.out _ _))))
              refine wpQuiet_nil ?_
              intro _ hw'
              obtain ⟨⟨dq, osq⟩, hw''⟩ := hw'
              subst hw''
              have hb7 := below_regrown W6 dq osq
              obtain ⟨W7, hwq⟩ : ∃ x, x = grow (redrawn W6 dq) osq := ⟨_, rfl⟩
              rw [← hwq] at hb7 ⊢
              clear hwq
              have HB7 := Lib.hid hb7
              clear q0 q1 q2 q3 S1 S2 S3 hb7 hwr hne
              obtain ⟨j0, j1, j2, j3⟩ := HJ.out W7 HB7.out
              have hln := HLN.out
              obtain ⟨Y, hY, hgY⟩ := Gs.upto layK elK HK6.out.g (rn - 1) (by omega)
              have hksY := HK6.out.take hgY
              obtain ⟨m3, hm3⟩ : ∃ m, (l3.take (rn - 1)).length = m := ⟨_, rfl⟩
              have hm4 : m3 = rn - 1 := by rw [← hm3, List.length_take]; omega
              obtain ⟨Ya, Yc, kb, ko, rfl, y2, y3, hi, hc⟩ := hksY.open_ m3 hm3
              have e0 : ((rn - 1 : Nat) : Int) = (rn : Int) - 1 := by omega
              rw [e0] at hY
              have HI := Lib.hid hi
              have HC := Lib.hid hc
              have HX : Hid (∀ j, j < m3 → ∃ x, (l3.take (rn - 1))[j]? = some x ∧ Bs W6 x.v x.b ∧ kf x.ep l = some x.b) := by
                intro j hj
                obtain ⟨x, hx⟩ : ∃ x, (l3.take (rn - 1))[j]? = some x := ⟨_, List.getElem?_eq_getElem (by omega)⟩
                refine ⟨x, hx, hksY.b x (List.mem_of_getElem? hx), ?_⟩
                rw [List.getElem?_take, if_pos (by omega)] at hx
                obtain ⟨i', hi'⟩ := HOLD.out j x (by omega) hx
                exact rp_kf HP.out.1 i' x hi'
              clear hi hc hksY hgY hm3 e0 hln hm4
              have HSM : Hid (∀ k ∈ l, k.b.length ≤ 1000000) := fun k hk => by
                obtain ⟨q, hq⟩ := List.mem_iff_getElem?.1 hk
                have := (HP.out.1.2.2.2.2.2.2 q k hq).1
                omega
              go_wp2_with fail
              go_loopw [76] (fun vj wr => ∃ j : Nat, j ≤ m3 ∧ vj = .int .i64 j ∧ Hid (Below W6.heap.size W6 wr)) (fun vj _ => m3 - (intOf vj).toNat)
              case atStart => exact ⟨0, by omega, rfl, HB7⟩
              case round =>
                obtain ⟨j, hjn, rfl, HBX⟩ := hrel
                clear j0 j1 j2 j3
                by_cases hlt2 : j < m3
                · have e2 : (j : Int) < m3 := by omega
                  obtain ⟨⟨xe, xa, xc, xb⟩, hx, hxb, hkf⟩ := HX.out j hlt2
                  obtain ⟨c0, c1⟩ := HC.out _ HBX.out j _ hx
                  have x0 := fun W => HI.out W j hlt2
                  obtain ⟨xm, hxm⟩ : ∃ m, xb.length = m := ⟨_, rfl⟩
                  unfold RK.v at c1 hxb
                  dsimp only at c0 c1 hxb hkf
                  rw [hxm] at c1 hxb
                  have HXB := Lib.hid hxb
                  have HKF := Lib.hid hkf
                  clear hx hxm hxb hkf
                  go_upto_region 20 with (with_reducible refine wpList_store_new rfl _ _ rfl rfl rfl (by kernel_rfl) (by simp) (by simp [Value.oneCell']) ?_)
                  clear c0 c1 x0
                  have hb8 : Below W6.heap.size W6 (wr.alloc (.cells #[.int .i64 xe, .slice xa xm xc] 48)) := bel_al HBX.out _
                  have hrow8 : (wr.alloc (.cells #[.int .i64 xe, .slice xa xm xc] 48)).heap[wr.heap.size]? = some (.cells #[.int .i64 xe, .slice xa xm xc] 48 (0, 0)) := heap_alloc_new _ _
                  obtain ⟨W8, hW8⟩ : ∃ W, wr.alloc (.cells #[.int .i64 xe, .slice xa xm xc] 48) = W := ⟨_, rfl⟩
                  rw [hW8] at hb8 hrow8 ⊢
                  obtain ⟨g8, hg8⟩ : ∃ g, wr.heap.size = g := ⟨_, rfl⟩
                  rw [hg8] at hrow8 ⊢
                  have HB8 := Lib.hid hb8
                  have HR8 := Lib.hid hrow8
                  clear hb8 hrow8 hW8 hg8
                  obtain ⟨_, _, j2, j3⟩ := HJ.out W8 HB8.out
                  have k0 : W8.cell? ⟨g8, 0, none⟩ = some (.int .i64 xe) := cell_of_row W8 _ _ _ _ _ HR8.out
                  have hfind := find_any (n : Int) (.slice va vn vc) l xe W8 (HA6.out.ks.below HB8.out) HSM.out
                  unfold FindPost at hfind
                  rw [HKF.out] at hfind
                  simp only [Option.isSome_some, Option.getD_some] at hfind
                  have HFIND := Lib.hid hfind
                  clear hfind
                  go_upto_region 21 with (go_at_call 34; refine HFIND.out.mono ?_; rintro e w9 ⟨fv, rfl, hfb, hb9⟩; have HFB := Lib.hid hfb; have HB9 := Lib.hid hb9; clear hfb hb9)
                  clear HFIND j2 j3 k0
                  have k1 : w9.cell? ⟨g8, 1, none⟩ = some (.slice xa xm xc) := cell_of_row w9 _ _ _ _ _ ((HB9.out.block _ (heap_lt HR8.out)).trans HR8.out)
                  have hsame := same_any fv (.slice xa xm xc) xb xb w9 HFB.out (HXB.out.below (bel_tr HB8.out HB9.out))
                  rw [beq_self_eq_true] at hsame
                  have HSAME := Lib.hid hsame
                  clear hsame
                  go_wp2_with (go_at_call 17; refine HSAME.out.mono ?_; rintro e w10 ⟨rfl, hb10⟩; have HB10 := Lib.hid (bel_tr (bel_tr HB8.out HB9.out) hb10); clear hb10)
                  go_roundw
                  case rel => exact ⟨j + 1, by omega, by go_num, HB10⟩
                  case measure => simp [intOf]; omega
                · have e2 : ¬ (j : Int) < m3 := by omega
                  obtain ⟨j0, j1, _, _⟩ := HJ.out wr HBX.out
                  have hrg := (HBX.out.block _ (heap_lt HA6.out.row)).trans HA6.out.row
                  have HRG := Lib.hid hrg
                  have hput := HA6.out.put (keep2 := (n : Int)) HBX.out (HK6.out.below HBX.out) HOFF.out
                  have HPUT := Lib.hid hput
                  have HPN : Hid (RP (n : Int) l3 ∧ epl l3 ≤ 1 + ((i + 1 : Nat) : Int)) := ⟨HP3.out, by have h1 := HE3.out; have h2 := HP.out.2; have h3 := HEE.out; omega⟩
                  clear hrg hput
                  go_wp2_with (with_reducible refine wpList_store_row rfl _ _ rfl rfl rfl HRG.out (by kernel_rfl) (by simp) (by simp [Value.oneCell']) ?_)
                  go_roundw
                  case rel => exact ⟨i + 1, by omega, by go_num, _, _, _, _, HPUT, HPN⟩
                  case measure => simp [intOf]; omega
          · have e1 : ¬ (i : Int) < N := by omega
            have hright := right_any (n : Int) (.slice va vn vc) l wr HA.out.ks (by omega)
            rw [kok_yes HP.out.1] at hright
            have HRIGHT := Lib.hid hright
            have hrn := HA.out.ks.g.len_eq
            have hvn : (vn : Int) ≤ n := by have := HP.out.1.2.2.2.1; omega
            have HRW := Lib.hid HA.out.row
            clear hright hrn
            go_wp2_with (go_at_call 29; refine HRIGHT.out.mono ?_; rintro e w9 ⟨rfl, hb9⟩; have HB9 := Lib.hid hb9; clear hb9; obtain ⟨_, p9⟩ := (HA.out.mono HB9.out).cells)
            go_ret
            exact ⟨ret_bool (by simp [hvn]), bel_tr HA.out.bel HB9.out⟩
    · have e1 : ¬ (30 : Int) < N := by omega
      obtain rfl : N = 0 := by omega
      go_wp2
      go_ret
      exact ⟨rfl, HB1.out⟩
  · have e1 : (30 : Int) < N := by omega
    go_wp2
    go_ret
    exact ⟨rfl, HB1.out⟩

end Go.Proofs.YtmhgdddnjnichaaDoor
