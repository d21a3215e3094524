/- RingQ: RingQ, RingE, RingW, RingV as one text. -/
import Derived.Test.YtjnbdeopoohnmaaGreatDoorRingS
import Derived.Lib.QuietBelow
import Derived.Deep.RegionLaw
/- Layer 9 (ring): the walk of the reference's Right. -/
set_option linter.unusedSimpArgs false
namespace Go.Proofs.YtjnbdeopoohnmaaGreatDoor
open Go.RowKit Go.Sort

set_option maxRecDepth 100000 in
set_option maxHeartbeats 3200000 in
theorem rrright_any (keep : Int) (v : Value) (l : List RK) (w : World) (h : Ks w v l) (hw : -9223372036854775808 ≤ keep ∧ keep ≤ 9223372036854775807) :
    Calls Tryz.prog 92 #[.agg #[.int .i64 keep, v]] w fun e w' => e = .returned (.bool (kok keep l)) ∧ Below w.heap.size w w' := by
  obtain ⟨n, hn⟩ : ∃ n, l.length = n := ⟨_, rfl⟩
  have hwf := h.wf
  obtain ⟨a, c, b, o, rfl, h2, h3, hi, hc⟩ := h.open_ n hn
  have HB := Lib.hid (bel_al (Below.refl w.heap.size w) (Obj.cells #[.int .i64 keep, .slice a n c] 24))
  have HROW : Hid ((w.alloc (Obj.cells #[.int .i64 keep, .slice a n c] 24)).heap[w.heap.size]? = some (.cells #[.int .i64 keep, .slice a n c] 24 (0, 0))) := heap_alloc_new _ _
  have HI := Lib.hid hi
  have HC := Lib.hid hc
  have HN := Lib.hid hn
  have HWF := Lib.hid hwf
  clear h hi hc hn hwf
  by_cases h1 : 1 ≤ keep
  · by_cases hk16 : keep ≤ 16
    · by_cases hn1 : 0 < n
      · by_cases hnk : (n : Int) ≤ keep
        · obtain ⟨f, hf⟩ : ∃ f, ep0 l = f := ⟨_, rfl⟩
          have HEP := Lib.hid hf
          have hn2 : (1 : Int) ≤ n ∧ (n : Int) ≤ 16 := by omega
          clear hf
          go_enter Tryz.func92, Tryz.ntmps92
          go_wp2_with fail
          obtain ⟨W0, hW0⟩ : ∃ W, w.alloc (Obj.cells #[.int .i64 keep, .slice a n c] 24) = W := ⟨_, rfl⟩
          rw [hW0] at HB HROW ⊢
          clear hW0
          go_loopw [3] (fun vi wr => ∃ i : Nat, i ≤ n ∧ vi = .int .i64 i ∧ Hid (∀ (j : Nat) (k : RK), j < i → l[j]? = some k → k.b.length = 32 ∧ 1 ≤ k.ep ∧ k.ep ≤ 1048576 ∧ k.ep = f + j) ∧ Hid (Below W0.heap.size W0 wr)) (fun vi _ => n - (intOf vi).toNat)
          case atStart => exact ⟨0, by omega, rfl, Lib.hid (fun j k hj => by omega), Lib.hid (Below.refl _ _)⟩
          case round =>
            obtain ⟨i, hin, rfl, hall, hb0⟩ := hrel
            have hb : Hid (Below w.heap.size w wr) := bel_tr HB.out hb0.out
            have hrow : wr.heap[w.heap.size]? = some (.cells #[.int .i64 keep, .slice a n c] 24 (0, 0)) := (hb0.out.block _ (heap_lt HROW.out)).trans HROW.out
            have ca : wr.cell? ⟨w.heap.size, 1, none⟩ = some (.slice a n c) := cell_of_row wr _ _ _ _ _ hrow
            have hlw : w.heap.size < wr.heap.size := heap_lt hrow
            clear hrow
            by_cases hlt : i < n
            · have e1 : (i : Int) < n := by omega
              obtain ⟨k, hk⟩ : ∃ k, l[i]? = some k := ⟨_, List.getElem?_eq_getElem (by rw [HN.out]; exact hlt)⟩
              obtain ⟨c0, c1⟩ := HC.out _ hb.out i k hk
              have x0 := fun W => HI.out W i hlt
              have hwk := HWF.out k (List.mem_of_getElem? hk)
              unfold KeyWf at hwk
              obtain ⟨ep, hep⟩ : ∃ ep, k.ep = ep := ⟨_, rfl⟩
              obtain ⟨m, hm⟩ : ∃ m, k.b.length = m := ⟨_, rfl⟩
              obtain ⟨ka, hka⟩ : ∃ a, k.a = a := ⟨_, rfl⟩
              obtain ⟨kc, hkc⟩ : ∃ c, k.c = c := ⟨_, rfl⟩
              unfold RK.v at c1
              rw [hka, hkc, hm] at c1
              rw [hep] at c0 hwk
              have HK := Lib.hid hk
              have HEQ := Lib.hid (And.intro hep hm)
              have HA2 : Hid (Below w.heap.size w (wr.alloc (.cells #[.int .i64 ep, .slice ka m kc] 34))) := hb.out.alloc hb.out.size _
              have ca2 : (wr.alloc (.cells #[.int .i64 ep, .slice ka m kc] 34)).cell? ⟨w.heap.size, 1, none⟩ = some (.slice a n c) := by
                rw [((Below.refl wr.heap.size wr).alloc (Nat.le_refl _) _).cell (by exact hlw)]; exact ca
              clear hk hep hm hka hkc
              have bad : ∀ (hno : ¬ RP keep l), Hid (kok keep l = false) := fun hno => kok_no hno
              by_cases hm32 : m = 32
              · have g1 : ((m : Int) != 32) = false := by simp; omega
                by_cases hlo : 1 ≤ ep
                · by_cases hhi : ep ≤ 1048576
                  · by_cases hi0 : i = 0
                    · have hfe : f = ep := by rw [← HEP.out, ep0_get l k (by rw [← hi0]; exact HK.out), HEQ.out.1]
                      have HX : Hid (m = 32 ∧ ep = f + (i : Int)) := ⟨hm32, by omega⟩
                      have hz : decide (0 < i) = false := by simp; omega
                      clear hm32 hfe hi0
                      go_upto_region 9 with (with_reducible refine wpList_store_new rfl _ _ rfl rfl rfl (by kernel_rfl) (by simp) (by simp [Value.oneCell']) ?_)
                      go_quiet (fail)
                      obtain ⟨WQ, hWQ⟩ : ∃ W, (wr.alloc (.cells #[.int .i64 ep, .slice ka m kc] 34)).drewN nq = W := ⟨_, rfl⟩
                      have HBQ : Hid (Below (wr.alloc (.cells #[.int .i64 ep, .slice ka m kc] 34)).heap.size (wr.alloc (.cells #[.int .i64 ep, .slice ka m kc] 34)) WQ) := by rw [← hWQ]; exact below_drewN (Below.refl _ _) _
                      rw [hWQ]
                      clear hWQ
                      go_wp2
                      go_roundw
                      case rel =>
                        refine ⟨i + 1, by omega, by go_num, Lib.hid ?_, Lib.hid ((hb0.out.alloc hb0.out.size _).trans (HBQ.out.mono (by have := hb0.out.size; simp; omega)))⟩
                        intro j k' hj hk'
                        by_cases e : j = i
                        · subst e
                          rw [HK.out] at hk'
                          obtain rfl := Option.some.inj hk'
                          exact ⟨HEQ.out.2.trans HX.out.1, by rw [HEQ.out.1]; exact hlo, by rw [HEQ.out.1]; exact hhi, HEQ.out.1.trans HX.out.2⟩
                        · exact hall.out j k' (by omega) hk'
                      case measure => simp [intOf]; omega
                    · obtain ⟨kp, hkp⟩ : ∃ k, l[i - 1]? = some k := ⟨_, List.getElem?_eq_getElem (by rw [HN.out]; omega)⟩
                      have hprev := hall.out (i - 1) kp (by omega) hkp
                      obtain ⟨q, hq⟩ : ∃ q, kp.ep = q := ⟨_, rfl⟩
                      rw [hq] at hprev
                      obtain ⟨-, hq1, hq2, hq3⟩ := hprev
                      have p0 := (HC.out _ HA2.out (i - 1) kp hkp).1
                      rw [hq] at p0
                      have xp := fun W => HI.out W (i - 1) (by omega)
                      rw [show ((i - 1 : Nat) : Int) = (i : Int) - 1 by omega] at xp
                      have hz : decide (0 < i) = true := by simp; omega
                      have y1 : IntKind.i64.wrap ((i : Int) - 1) = (i : Int) - 1 := IntWalk.i64_in _ (by omega)
                      have y2 : IntKind.i64.wrap (q + 1) = q + 1 := IntWalk.i64_in _ (by omega)
                      have HQ3 : Hid (q = f + ((i - 1 : Nat) : Int)) := hq3
                      have HI0 := Lib.hid hi0
                      have HKP := Lib.hid (And.intro hkp hq)
                      clear hq3 hi0 hkp hq
                      by_cases hch : ep = q + 1
                      · have HX : Hid (m = 32 ∧ ep = f + (i : Int)) := ⟨hm32, by have := HQ3.out; have := HI0.out; omega⟩
                        have g3 : ((ep : Int) != q + 1) = false := by simp; omega
                        clear hm32 hch
                        go_upto_region 9 with (with_reducible refine wpList_store_new rfl _ _ rfl rfl rfl (by kernel_rfl) (by simp) (by simp [Value.oneCell']) ?_)
                        go_quiet (fail)
                        obtain ⟨WQ, hWQ⟩ : ∃ W, (wr.alloc (.cells #[.int .i64 ep, .slice ka m kc] 34)).drewN nq = W := ⟨_, rfl⟩
                        have HBQ : Hid (Below (wr.alloc (.cells #[.int .i64 ep, .slice ka m kc] 34)).heap.size (wr.alloc (.cells #[.int .i64 ep, .slice ka m kc] 34)) WQ) := by rw [← hWQ]; exact below_drewN (Below.refl _ _) _
                        rw [hWQ]
                        clear hWQ
                        go_wp2
                        go_roundw
                        case rel =>
                          refine ⟨i + 1, by omega, by go_num, Lib.hid ?_, Lib.hid ((hb0.out.alloc hb0.out.size _).trans (HBQ.out.mono (by have := hb0.out.size; simp; omega)))⟩
                          intro j k' hj hk'
                          by_cases e : j = i
                          · subst e
                            rw [HK.out] at hk'
                            obtain rfl := Option.some.inj hk'
                            exact ⟨HEQ.out.2.trans HX.out.1, by rw [HEQ.out.1]; exact hlo, by rw [HEQ.out.1]; exact hhi, HEQ.out.1.trans HX.out.2⟩
                          · exact hall.out j k' (by omega) hk'
                        case measure => simp [intOf]; omega
                      · have g3 : ((ep : Int) != q + 1) = true := by simp; omega
                        have HNO := bad (fun hp => by
                          have r1 := (hp.2.2.2.2.2.2 i k HK.out).2
                          have r2 := (hp.2.2.2.2.2.2 (i - 1) kp HKP.out.1).2
                          have := HI0.out
                          rw [HEQ.out.1] at r1
                          rw [HKP.out.2] at r2
                          omega)
                        clear hm32 hch
                        go_upto_region 9 with (with_reducible refine wpList_store_new rfl _ _ rfl rfl rfl (by kernel_rfl) (by simp) (by simp [Value.oneCell']) ?_)
                        go_quiet (fail)
                        obtain ⟨WQ, hWQ⟩ : ∃ W, (wr.alloc (.cells #[.int .i64 ep, .slice ka m kc] 34)).drewN nq = W := ⟨_, rfl⟩
                        have HBQ : Hid (Below w.heap.size w WQ) := by rw [← hWQ]; exact below_drewN HA2.out _
                        rw [hWQ]
                        clear hWQ
                        go_wp2
                        go_ret
                        exact ⟨ret_bool HNO.out.symm, HBQ.out⟩
                  · clear hm32
                    have HNO := bad (fun hp => by have := (hp.2.2.2.2.2.2 i k HK.out).2; have h7 := hp.2.2.2.2.2.1; rw [HEQ.out.1] at this; rw [HN.out] at h7; omega)
                    go_wp2_with (with_reducible refine wpList_store_new rfl _ _ rfl rfl rfl (by kernel_rfl) (by simp) (by simp [Value.oneCell']) ?_)
                    go_ret
                    exact ⟨ret_bool HNO.out.symm, HA2.out⟩
                · clear hm32
                  have HNO := bad (fun hp => by have := (hp.2.2.2.2.2.2 i k HK.out).2; have h7 := hp.2.2.2.2.1; rw [HEQ.out.1] at this; omega)
                  go_wp2_with (with_reducible refine wpList_store_new rfl _ _ rfl rfl rfl (by kernel_rfl) (by simp) (by simp [Value.oneCell']) ?_)
                  go_ret
                  exact ⟨ret_bool HNO.out.symm, HA2.out⟩
              · have g1 : ((m : Int) != 32) = true := by simp; omega
                have HNO := bad (fun hp => by have := (hp.2.2.2.2.2.2 i k HK.out).1; rw [HEQ.out.2] at this; exact hm32 this)
                clear hm32
                go_wp2_with (with_reducible refine wpList_store_new rfl _ _ rfl rfl rfl (by kernel_rfl) (by simp) (by simp [Value.oneCell']) ?_)
                go_ret
                exact ⟨ret_bool HNO.out.symm, HA2.out⟩
            · have e1 : ¬ (i : Int) < n := by omega
              obtain rfl : i = n := by omega
              obtain ⟨kz, hkz⟩ : ∃ k, l[i - 1]? = some k := ⟨_, List.getElem?_eq_getElem (by rw [HN.out]; omega)⟩
              obtain ⟨k0, hk0⟩ : ∃ k, l[0]? = some k := ⟨_, List.getElem?_eq_getElem (by rw [HN.out]; omega)⟩
              have z1 := hall.out (i - 1) kz (by omega) hkz
              have z0 := hall.out 0 k0 (by omega) hk0
              have HYES : Hid (kok keep l = true) := kok_yes ⟨h1, hk16, by rw [HN.out]; exact hn1, by rw [HN.out]; exact hnk, by rw [HEP.out]; omega, by rw [HEP.out, HN.out]; omega, fun j k hk => by
                rw [HEP.out]
                have := hall.out j k (by rw [← HN.out]; exact (List.getElem?_eq_some_iff.1 hk).1) hk
                exact ⟨this.1, this.2.2.2⟩⟩
              clear z1 z0 hkz hk0
              go_wp2
              go_ret
              exact ⟨ret_bool HYES.out.symm, hb.out⟩
        · have HNO : Hid (kok keep l = false) := kok_no fun hp => by have := hp.2.2.2.1; rw [HN.out] at this; omega
          go_enter Tryz.func92, Tryz.ntmps92
          go_wp2
          go_ret
          exact ⟨ret_bool HNO.out.symm, HB.out⟩
      · have HNO : Hid (kok keep l = false) := kok_no fun hp => by have := hp.2.2.1; rw [HN.out] at this; omega
        have e1 : (n : Int) < 1 := by omega
        go_enter Tryz.func92, Tryz.ntmps92
        go_wp2
        go_ret
        exact ⟨ret_bool HNO.out.symm, HB.out⟩
    · have HNO : Hid (kok keep l = false) := kok_no fun hp => hk16 hp.2.1
      go_enter Tryz.func92, Tryz.ntmps92
      go_wp2
      go_ret
      exact ⟨ret_bool HNO.out.symm, HB.out⟩
  · have HNO : Hid (kok keep l = false) := kok_no fun hp => h1 hp.1
    go_enter Tryz.func92, Tryz.ntmps92
    go_wp2
    go_ret
    exact ⟨ret_bool HNO.out.symm, HB.out⟩

end Go.Proofs.YtjnbdeopoohnmaaGreatDoor
/- Layer 9 (ring): the walk of the reference's Same at two rings that are one. -/
set_option linter.unusedSimpArgs false
namespace Go.Proofs.YtjnbdeopoohnmaaGreatDoor
open Go.RowKit Go.Sort

end Go.Proofs.YtjnbdeopoohnmaaGreatDoor
/- Layer 9 (ring): the walk of few. -/
set_option linter.unusedSimpArgs false
namespace Go.Proofs.YtjnbdeopoohnmaaGreatDoor
open Go.RowKit Go.Sort

def RFew (l : List RK) : Prop := l.length ≤ 30 ∧ ∀ (i : Nat) (k : RK), l[i]? = some k → k.b.length ≤ 100
noncomputable def rfew (l : List RK) : Bool := @decide (RFew l) (Classical.propDecidable _)
theorem rfew_yes {l : List RK} (h : RFew l) : rfew l = true := by unfold rfew; exact @decide_eq_true _ (Classical.propDecidable _) h
theorem rfew_no {l : List RK} (h : ¬ RFew l) : rfew l = false := by unfold rfew; exact @decide_eq_false _ (Classical.propDecidable _) h

end Go.Proofs.YtjnbdeopoohnmaaGreatDoor
/- Layer 9 (ring): the walk of the reference's Rotate. -/
set_option linter.unusedSimpArgs false
namespace Go.Proofs.YtjnbdeopoohnmaaGreatDoor
open Go.RowKit Go.Sort

def RRotPost (keep : Int) (l : List RK) (draw : List UInt8) (w : World) (e : Ending) (w' : World) : Prop :=
  ∃ v a c, e = .returned (.agg #[.int .i64 keep, v]) ∧ Ks w' v (rotl keep l ⟨epl l + 1, a, c, rkey draw (epl l + 1).toNat⟩) ∧ Below w.heap.size w w'

end Go.Proofs.YtjnbdeopoohnmaaGreatDoor
