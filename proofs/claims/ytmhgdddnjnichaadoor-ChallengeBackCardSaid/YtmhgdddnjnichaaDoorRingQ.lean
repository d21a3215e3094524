/- RingQ: RingQ, RingE, RingW, RingV as one text. -/
import Derived.Test.YtmhgdddnjnichaaDoorRingS
import Derived.Lib.QuietBelow
import Derived.Deep.RegionLaw
/- Layer 9 (ring): the walk of the reference's Right. -/
set_option linter.unusedSimpArgs false
namespace Go.Proofs.YtmhgdddnjnichaaDoor
open Go.RowKit Go.Sort

set_option maxRecDepth 100000 in
set_option maxHeartbeats 3200000 in
theorem rrright_any (keep : Int) (v : Value) (l : List RK) (w : World) (h : Ks w v l) (hw : -9223372036854775808 ≤ keep ∧ keep ≤ 9223372036854775807) :
    Calls Tryd.prog 30 #[.agg #[.int .i64 keep, v]] w fun e w' => e = .returned (.bool (kok keep l)) ∧ Below w.heap.size w w' := by
  obtain ⟨n, hn⟩ : ∃ n, l.length = n := ⟨_, rfl⟩
  have hwf := h.wf
  obtain ⟨a, c, b, o, rfl, h2, h3, hi, hc⟩ := h.open_ n hn
  have HB := Lib.hid (bel_al (Below.refl w.heap.size w) (Obj.cells #[.int .i64 keep, .slice a n c] 39))
  have HROW : Hid ((w.alloc (Obj.cells #[.int .i64 keep, .slice a n c] 39)).heap[w.heap.size]? = some (.cells #[.int .i64 keep, .slice a n c] 39 (0, 0))) := heap_alloc_new _ _
  have HI := Lib.hid hi
  have HC := Lib.hid hc
  have HN := Lib.hid hn
  have HWF := Lib.hid hwf
  clear h hi hc hn hwf
  by_cases h1 : 1 ≤ keep
  · by_cases hk16 : keep ≤ 16
    · by_cases hn1 : 0 < n
      · by_cases hnk : (n : Int) ≤ keep
        · obtain ⟨f, hf⟩ : ∃ f, ep0 l = f := ⟨_, rfl⟩
          have HEP := Lib.hid hf
          have hn2 : (1 : Int) ≤ n ∧ (n : Int) ≤ 16 := by omega
          clear hf
          go_enter Tryd.func30, Tryd.ntmps30
          go_wp2_with fail
          obtain ⟨W0, hW0⟩ : ∃ W, w.alloc (Obj.cells #[.int .i64 keep, .slice a n c] 39) = W := ⟨_, rfl⟩
          rw [hW0] at HB HROW ⊢
          clear hW0
          go_loopw [3] (fun vi wr => ∃ i : Nat, i ≤ n ∧ vi = .int .i64 i ∧ Hid (∀ (j : Nat) (k : RK), j < i → l[j]? = some k → k.b.length = 32 ∧ 1 ≤ k.ep ∧ k.ep ≤ 1048576 ∧ k.ep = f + j) ∧ Hid (Below W0.heap.size W0 wr)) (fun vi _ => n - (intOf vi).toNat)
          case atStart => exact ⟨0, by omega, rfl, Lib.hid (fun j k hj => by omega), Lib.hid (Below.refl _ _)⟩
          case round =>
            obtain ⟨i, hin, rfl, hall, hb0⟩ := hrel
            have hb : Hid (Below w.heap.size w wr) := bel_tr HB.out hb0.out
            have hrow : wr.heap[w.heap.size]? = some (.cells #[.int .i64 keep, .slice a n c] 39 (0, 0)) := (hb0.out.block _ (heap_lt HROW.out)).trans HROW.out
            have ca : wr.cell? ⟨w.heap.size, 1, none⟩ = some (.slice a n c) := cell_of_row wr _ _ _ _ _ hrow
            have hlw : w.heap.size < wr.heap.size := heap_lt hrow
            clear hrow
            by_cases hlt : i < n
            · have e1 : (i : Int) < n := by omega
              obtain ⟨k, hk⟩ : ∃ k, l[i]? = some k := ⟨_, List.getElem?_eq_getElem (by rw [HN.out]; exact hlt)⟩
              obtain ⟨c0, c1⟩ := HC.out _ hb.out i k hk
              have x0 := fun W => HI.out W i hlt
              have hwk := HWF.out k (List.mem_of_getElem? hk)
              unfold KeyWf at hwk
              obtain ⟨ep, hep⟩ : ∃ ep, k.ep = ep := ⟨_, rfl⟩
              obtain ⟨m, hm⟩ : ∃ m, k.b.length = m := ⟨_, rfl⟩
              obtain ⟨ka, hka⟩ : ∃ a, k.a = a := ⟨_, rfl⟩
              obtain ⟨kc, hkc⟩ : ∃ c, k.c = c := ⟨_, rfl⟩
              unfold RK.v at c1
              rw [hka, hkc, hm] at c1
              rw [hep] at c0 hwk
              have HK := Lib.hid hk
              have HEQ := Lib.hid (And.intro hep hm)
              have HA2 : Hid (Below w.heap.size w (wr.alloc (.cells #[.int .i64 ep, .slice ka m kc] 48))) := hb.out.alloc hb.out.size _
              have ca2 : (wr.alloc (.cells #[.int .i64 ep, .slice ka m kc] 48)).cell? ⟨w.heap.size, 1, none⟩ = some (.slice a n c) := by
                rw [((Below.refl wr.heap.size wr).alloc (Nat.le_refl _) _).cell (by exact hlw)]; exact ca
              clear hk hep hm hka hkc
              have bad : ∀ (hno : ¬ RP keep l), Hid (kok keep l = false) := fun hno => kok_no hno
              by_cases hm32 : m = 32
              · have g1 : ((m : Int) != 32) = false := by simp; omega
                by_cases hlo : 1 ≤ ep
                · by_cases hhi : ep ≤ 1048576
                  · by_cases hi0 : i = 0
                    · have hfe : f = ep := by rw [← HEP.out, ep0_get l k (by rw [← hi0]; exact HK.out), HEQ.out.1]
                      have HX : Hid (m = 32 ∧ ep = f + (i : Int)) := ⟨hm32, by omega⟩
                      have hz : decide (0 < i) = false := by simp; omega
                      clear hm32 hfe hi0
                      go_upto_region 9 with (with_reducible refine wpList_store_new rfl _ _ rfl rfl rfl (by kernel_rfl) (by simp) (by simp [Value.oneCell']) ?_)
                      go_quiet (fail)
                      obtain ⟨WQ, hWQ⟩ : ∃ W, (wr.alloc (.cells #[.int .i64 ep, .slice ka m kc] 48)).drewN nq = W := ⟨_, rfl⟩
                      have HBQ : Hid (Below (wr.alloc (.cells #[.int .i64 ep, .slice ka m kc] 48)).heap.size (wr.alloc (.cells #[.int .i64 ep, .slice ka m kc] 48)) WQ) := by rw [← hWQ]; exact below_drewN (Below.refl _ _) _
                      rw [hWQ]
                      clear hWQ
                      go_wp2
                      go_roundw
                      case rel =>
                        refine ⟨i + 1, by omega, by go_num, Lib.hid ?_, Lib.hid ((hb0.out.alloc hb0.out.size _).trans (HBQ.out.mono (by have := hb0.out.size; simp; omega)))⟩
                        intro j k' hj hk'
                        by_cases e : j = i
                        · subst e
                          rw [HK.out] at hk'
                          obtain rfl := Option.some.inj hk'
                          exact ⟨HEQ.out.2.trans HX.out.1, by rw [HEQ.out.1]; exact hlo, by rw [HEQ.out.1]; exact hhi, HEQ.out.1.trans HX.out.2⟩
                        · exact hall.out j k' (by omega) hk'
                      case measure => simp [intOf]; omega
                    · obtain ⟨kp, hkp⟩ : ∃ k, l[i - 1]? = some k := ⟨_, List.getElem?_eq_getElem (by rw [HN.out]; omega)⟩
                      have hprev := hall.out (i - 1) kp (by omega) hkp
                      obtain ⟨q, hq⟩ : ∃ q, kp.ep = q := ⟨_, rfl⟩
                      rw [hq] at hprev
                      obtain ⟨-, hq1, hq2, hq3⟩ := hprev
                      have p0 := (HC.out _ HA2.out (i - 1) kp hkp).1
                      rw [hq] at p0
                      have xp := fun W => HI.out W (i - 1) (by omega)
                      rw [show ((i - 1 : Nat) : Int) = (i : Int) - 1 by omega] at xp
                      have hz : decide (0 < i) = true := by simp; omega
                      have y1 : IntKind.i64.wrap ((i : Int) - 1) = (i : Int) - 1 := IntWalk.i64_in _ (by omega)
                      have y2 : IntKind.i64.wrap (q + 1) = q + 1 := IntWalk.i64_in _ (by omega)
                      have HQ3 : Hid (q = f + ((i - 1 : Nat) : Int)) := hq3
                      have HI0 := Lib.hid hi0
                      have HKP := Lib.hid (And.intro hkp hq)
                      clear hq3 hi0 hkp hq
                      by_cases hch : ep = q + 1
                      · have HX : Hid (m = 32 ∧ ep = f + (i : Int)) := ⟨hm32, by have := HQ3.out; have := HI0.out; omega⟩
                        have g3 : ((ep : Int) != q + 1) = false := by simp; omega
                        clear hm32 hch
                        go_upto_region 9 with (with_reducible refine wpList_store_new rfl _ _ rfl rfl rfl (by kernel_rfl) (by simp) (by simp [Value.oneCell']) ?_)
                        go_quiet (fail)
                        obtain ⟨WQ, hWQ⟩ : ∃ W, (wr.alloc (.cells #[.int .i64 ep, .slice ka m kc] 48)).drewN nq = W := ⟨_, rfl⟩
                        have HBQ : Hid (Below (wr.alloc (.cells #[.int .i64 ep, .slice ka m kc] 48)).heap.size (wr.alloc (.cells #[.int .i64 ep, .slice ka m kc] 48)) WQ) := by rw [← hWQ]; exact below_drewN (Below.refl _ _) _
                        rw [hWQ]
                        clear hWQ
                        go_wp2
                        go_roundw
                        case rel =>
                          refine ⟨i + 1, by omega, by go_num, Lib.hid ?_, Lib.hid ((hb0.out.alloc hb0.out.size _).trans (HBQ.out.mono (by have := hb0.out.size; simp; omega)))⟩
                          intro j k' hj hk'
                          by_cases e : j = i
                          · subst e
                            rw [HK.out] at hk'
                            obtain rfl := Option.some.inj hk'
                            exact ⟨HEQ.out.2.trans HX.out.1, by rw [HEQ.out.1]; exact hlo, by rw [HEQ.out.1]; exact hhi, HEQ.out.1.trans HX.out.2⟩
                          · exact hall.out j k' (by omega) hk'
                        case measure => simp [intOf]; omega
                      · have g3 : ((ep : Int) != q + 1) = true := by simp; omega
                        have HNO := bad (fun hp => by
                          have r1 := (hp.2.2.2.2.2.2 i k HK.out).2
                          have r2 := (hp.2.2.2.2.2.2 (i - 1) kp HKP.out.1).2
                          have := HI0.out
                          rw [HEQ.out.1] at r1
                          rw [HKP.out.2] at r2
                          omega)
                        clear hm32 hch
                        go_upto_region 9 with (with_reducible refine wpList_store_new rfl _ _ rfl rfl rfl (by kernel_rfl) (by simp) (by simp [Value.oneCell']) ?_)
                        go_quiet (fail)
                        obtain ⟨WQ, hWQ⟩ : ∃ W, (wr.alloc (.cells #[.int .i64 ep, .slice ka m kc] 48)).drewN nq = W := ⟨_, rfl⟩
                        have HBQ : Hid (Below w.heap.size w WQ) := by rw [← hWQ]; exact below_drewN HA2.out _
                        rw [hWQ]
                        clear hWQ
                        go_wp2
                        go_ret
                        exact ⟨ret_bool HNO.out.symm, HBQ.out⟩
                  · clear hm32
                    have HNO := bad (fun hp => by have := (hp.2.2.2.2.2.2 i k HK.out).2; have h7 := hp.2.2.2.2.2.1; rw [HEQ.out.1] at this; rw [HN.out] at h7; omega)
                    go_wp2_with (with_reducible refine wpList_store_new rfl _ _ rfl rfl rfl (by kernel_rfl) (by simp) (by simp [Value.oneCell']) ?_)
                    go_ret
                    exact ⟨ret_bool HNO.out.symm, HA2.out⟩
                · clear hm32
                  have HNO := bad (fun hp => by have := (hp.2.2.2.2.2.2 i k HK.out).2; have h7 := hp.2.2.2.2.1; rw [HEQ.out.1] at this; omega)
                  go_wp2_with (with_reducible refine wpList_store_new rfl _ _ rfl rfl rfl (by kernel_rfl) (by simp) (by simp [Value.oneCell']) ?_)
                  go_ret
                  exact ⟨ret_bool HNO.out.symm, HA2.out⟩
              · have g1 : ((m : Int) != 32) = true := by simp; omega
                have HNO := bad (fun hp => by have := (hp.2.2.2.2.2.2 i k HK.out).1; rw [HEQ.out.2] at this; exact hm32 this)
                clear hm32
                go_wp2_with (with_reducible refine wpList_store_new rfl _ _ rfl rfl rfl (by kernel_rfl) (by simp) (by simp [Value.oneCell']) ?_)
                go_ret
                exact ⟨ret_bool HNO.out.symm, HA2.out⟩
            · have e1 : ¬ (i : Int) < n := by omega
              obtain rfl : i = n := by omega
              obtain ⟨kz, hkz⟩ : ∃ k, l[i - 1]? = some k := ⟨_, List.getElem?_eq_getElem (by rw [HN.out]; omega)⟩
              obtain ⟨k0, hk0⟩ : ∃ k, l[0]? = some k := ⟨_, List.getElem?_eq_getElem (by rw [HN.out]; omega)⟩
              have z1 := hall.out (i - 1) kz (by omega) hkz
              have z0 := hall.out 0 k0 (by omega) hk0
              have HYES : Hid (kok keep l = true) := kok_yes ⟨h1, hk16, by rw [HN.out]; exact hn1, by rw [HN.out]; exact hnk, by rw [HEP.out]; omega, by rw [HEP.out, HN.out]; omega, fun j k hk => by
                rw [HEP.out]
                have := hall.out j k (by rw [← HN.out]; exact (List.getElem?_eq_some_iff.1 hk).1) hk
                exact ⟨this.1, this.2.2.2⟩⟩
              clear z1 z0 hkz hk0
              go_wp2
              go_ret
              exact ⟨ret_bool HYES.out.symm, hb.out⟩
        · have HNO : Hid (kok keep l = false) := kok_no fun hp => by have := hp.2.2.2.1; rw [HN.out] at this; omega
          go_enter Tryd.func30, Tryd.ntmps30
          go_wp2
          go_ret
          exact ⟨ret_bool HNO.out.symm, HB.out⟩
      · have HNO : Hid (kok keep l = false) := kok_no fun hp => by have := hp.2.2.1; rw [HN.out] at this; omega
        have e1 : (n : Int) < 1 := by omega
        go_enter Tryd.func30, Tryd.ntmps30
        go_wp2
        go_ret
        exact ⟨ret_bool HNO.out.symm, HB.out⟩
    · have HNO : Hid (kok keep l = false) := kok_no fun hp => hk16 hp.2.1
      go_enter Tryd.func30, Tryd.ntmps30
      go_wp2
      go_ret
      exact ⟨ret_bool HNO.out.symm, HB.out⟩
  · have HNO : Hid (kok keep l = false) := kok_no fun hp => h1 hp.1
    go_enter Tryd.func30, Tryd.ntmps30
    go_wp2
    go_ret
    exact ⟨ret_bool HNO.out.symm, HB.out⟩

end Go.Proofs.YtmhgdddnjnichaaDoor
/- Layer 9 (ring): the walk of the reference's Same at two rings that are one. -/
set_option linter.unusedSimpArgs false
namespace Go.Proofs.YtmhgdddnjnichaaDoor
open Go.RowKit Go.Sort

set_option maxHeartbeats 1600000 in
theorem rrsame_yes (keep : Int) (va vb : Value) (la lb : List RK) (w : World) (ha : Ks w va la) (hb : Ks w vb lb) (heq : la.map (fun k => (k.ep, k.b)) = lb.map (fun k => (k.ep, k.b))) :
    Calls Tryd.prog 32 #[.agg #[.int .i64 keep, va], .agg #[.int .i64 keep, vb]] w fun e w' => e = .returned (.bool true) ∧ Below w.heap.size w w' := by
  obtain ⟨n, hn⟩ : ∃ n, la.length = n := ⟨_, rfl⟩
  have hnb : lb.length = n := by have := congrArg List.length heq; simp at this; omega
  have HA := Lib.hid ha
  have HB := Lib.hid hb
  obtain ⟨a, c, b, o, rfl, h2, h3, hi, hc⟩ := ha.open_ n hn
  obtain ⟨a', c', b', o', rfl, h2', h3', hi', hc'⟩ := hb.open_ n hnb
  have HA0 := Lib.hid (bel_al (bel_al (Below.refl w.heap.size w) (Obj.cells #[.int .i64 keep, .slice a n c] 39)) (Obj.cells #[.int .i64 keep, .slice a' n c'] 39))
  have HI := Lib.hid hi
  have HC := Lib.hid hc
  have HI' := Lib.hid hi'
  have HC' := Lib.hid hc'
  have HN := Lib.hid hn
  have HNB := Lib.hid hnb
  have HEQ := Lib.hid heq
  have R0 : Hid (((w.alloc (Obj.cells #[.int .i64 keep, .slice a n c] 39)).alloc (Obj.cells #[.int .i64 keep, .slice a' n c'] 39)).heap[w.heap.size]? = some (.cells #[.int .i64 keep, .slice a n c] 39 (0, 0))) := by
    show _ = _
    rw [alloc_get, if_neg (by simp)]
    exact heap_alloc_new _ _
  have R1 : Hid (((w.alloc (Obj.cells #[.int .i64 keep, .slice a n c] 39)).alloc (Obj.cells #[.int .i64 keep, .slice a' n c'] 39)).heap[w.heap.size + 1]? = some (.cells #[.int .i64 keep, .slice a' n c'] 39 (0, 0))) := by
    show _ = _
    rw [alloc_get, if_pos (by simp)]
  have SZ : Hid (((w.alloc (Obj.cells #[.int .i64 keep, .slice a n c] 39)).alloc (Obj.cells #[.int .i64 keep, .slice a' n c'] 39)).heap.size = w.heap.size + 2) := by show _ = _; simp
  clear ha hb hi hc hi' hc' hn hnb heq
  go_enter Tryd.func32, Tryd.ntmps32
  go_wp2_with fail
  obtain ⟨W0, hW0⟩ : ∃ W, (w.alloc (Obj.cells #[.int .i64 keep, .slice a n c] 39)).alloc (Obj.cells #[.int .i64 keep, .slice a' n c'] 39) = W := ⟨_, rfl⟩
  rw [hW0] at HA0 R0 R1 SZ ⊢
  clear hW0
  go_loopw [5] (fun vi wr => ∃ k : Nat, k ≤ n ∧ vi = .int .i64 k ∧ Hid (Below W0.heap.size W0 wr)) (fun vi _ => n - (intOf vi).toNat)
  case atStart => exact ⟨0, by omega, rfl, Lib.hid (Below.refl _ _)⟩
  case round =>
    obtain ⟨i, hin, rfl, hbw⟩ := hrel
    have hsz := SZ.out
    have hbel : Below w.heap.size w wr := bel_tr HA0.out hbw.out
    have ra : wr.heap[w.heap.size]? = some (.cells #[.int .i64 keep, .slice a n c] 39 (0, 0)) := (hbw.out.block _ (by omega)).trans R0.out
    have rb : wr.heap[w.heap.size + 1]? = some (.cells #[.int .i64 keep, .slice a' n c'] 39 (0, 0)) := (hbw.out.block _ (by omega)).trans R1.out
    have ca : wr.cell? ⟨w.heap.size, 1, none⟩ = some (.slice a n c) := cell_of_row wr _ _ _ _ _ ra
    have cb : wr.cell? ⟨w.heap.size + 1, 1, none⟩ = some (.slice a' n c') := cell_of_row wr _ _ _ _ _ rb
    clear hsz ra rb
    by_cases hlt : i < n
    · have e1 : (i : Int) < n := by omega
      obtain ⟨k, hk⟩ : ∃ k, la[i]? = some k := ⟨_, List.getElem?_eq_getElem (by rw [HN.out]; exact hlt)⟩
      obtain ⟨k', hk'⟩ : ∃ k, lb[i]? = some k := ⟨_, List.getElem?_eq_getElem (by rw [HNB.out]; exact hlt)⟩
      have hkk : k.ep = k'.ep ∧ k.b = k'.b := by
        have := congrArg (fun l => l[i]?) HEQ.out
        simp only [List.getElem?_map, hk, hk', Option.map_some, Option.some.injEq, Prod.mk.injEq] at this
        exact this
      have d := HC.out _ hbel i k hk
      have d' := HC'.out _ hbel i k' hk'
      have hbk := (HA.out.b k (List.mem_of_getElem? hk)).below hbel
      have hbk' := (HB.out.b k' (List.mem_of_getElem? hk')).below hbel
      have x0 := fun W => HI.out W i hlt
      have x0' := fun W => HI'.out W i hlt
      obtain ⟨ep, hep⟩ : ∃ ep, k.ep = ep := ⟨_, rfl⟩
      obtain ⟨m, hm⟩ : ∃ m, k.b = m := ⟨_, rfl⟩
      rw [← hkk.1, hep] at d'
      rw [← hkk.2, hm] at hbk'
      rw [hep] at d
      rw [hm] at hbk
      obtain ⟨kv, hkv⟩ : ∃ v, k.v = v := ⟨_, rfl⟩
      obtain ⟨kv', hkv'⟩ : ∃ v, k'.v = v := ⟨_, rfl⟩
      rw [hkv] at d hbk
      rw [hkv'] at d' hbk'
      have c0 := fun d' os => cell_regrown d.1 d' os
      have c1 := fun d' os => cell_regrown d.2 d' os
      have f0 := fun d os => cell_regrown d'.1 d os
      have f1 := fun d os => cell_regrown d'.2 d os
      have g0 := fun d os => cell_regrown ca d os
      have g1 := fun d os => cell_regrown cb d os
      have hne : (ep != ep) = false := by simp
      have HS : Hid (∀ d os, Calls Tryd.prog 17 #[kv, kv'] (grow (redrawn wr d) os) fun e w'' => e = .returned (.bool true) ∧ ∃ p : Regrown, w'' = grow (redrawn wr p.d) p.os) := fun d os => by
        refine Calls.regrown_of ?_
        have hg : Below wr.heap.size wr (grow (redrawn wr d) os) := below_regrown wr d os
        have := same_any kv kv' m m _ (hbk.below hg) (hbk'.below hg)
        rwa [beq_self_true] at this
      have HBEL := Lib.hid hbel
      clear hk hk' hkk hep hm hkv hkv' d d' hbk hbk' hbel
      go_upto_region 6 with fail
      clear ca cb
      refine wp_region_quiet_below (by kernel_rfl) (by kernel_rfl) ?_
      repeat (go_big_quiet_step ((go_at_call 17; with_reducible exact HS.out _ _)))
      refine wpQuiet_nil ?_
      intro _ hw'
      obtain ⟨⟨dq, osq⟩, hw''⟩ := hw'
      subst hw''
      have HB2 := below_regrown wr dq osq
      obtain ⟨W2, hwq⟩ : ∃ x, x = grow (redrawn wr dq) osq := ⟨_, rfl⟩
      rw [← hwq] at HB2 ⊢
      clear hwq
      have HB2' := Lib.hid HB2
      clear HB2 c0 c1 f0 f1 g0 g1
      go_wp2
      go_roundw
      case rel => exact ⟨i + 1, by omega, by go_num, Lib.hid (bel_tr hbw.out HB2'.out)⟩
      case measure => simp [intOf]; omega
    · have e1 : ¬ (i : Int) < n := by omega
      have HBEL := Lib.hid hbel
      clear hbel
      go_wp2
      go_ret
      exact ⟨rfl, HBEL.out⟩

end Go.Proofs.YtmhgdddnjnichaaDoor
/- Layer 9 (ring): the walk of few. -/
set_option linter.unusedSimpArgs false
namespace Go.Proofs.YtmhgdddnjnichaaDoor
open Go.RowKit Go.Sort

def RFew (l : List RK) : Prop := l.length ≤ 30 ∧ ∀ (i : Nat) (k : RK), l[i]? = some k → k.b.length ≤ 100
noncomputable def rfew (l : List RK) : Bool := @decide (RFew l) (Classical.propDecidable _)
theorem rfew_yes {l : List RK} (h : RFew l) : rfew l = true := by unfold rfew; exact @decide_eq_true _ (Classical.propDecidable _) h
theorem rfew_no {l : List RK} (h : ¬ RFew l) : rfew l = false := by unfold rfew; exact @decide_eq_false _ (Classical.propDecidable _) h

set_option maxHeartbeats 800000 in
theorem few9_any (keep : Int) (v : Value) (l : List RK) (w : World) (h : Ks w v l) :
    Calls Tryd.prog 28 #[.agg #[.int .i64 keep, v]] w fun e w' => e = .returned (.bool (rfew l)) ∧ Below w.heap.size w w' := by
  obtain ⟨n, hn⟩ : ∃ n, l.length = n := ⟨_, rfl⟩
  obtain ⟨a, c, b, o, rfl, h2, h3, hi, hc⟩ := h.open_ n hn
  have HB := Lib.hid (bel_al (Below.refl w.heap.size w) (Obj.cells #[.int .i64 keep, .slice a n c] 39))
  have HROW : Hid ((w.alloc (Obj.cells #[.int .i64 keep, .slice a n c] 39)).heap[w.heap.size]? = some (.cells #[.int .i64 keep, .slice a n c] 39 (0, 0))) := heap_alloc_new _ _
  have HI := Lib.hid hi
  have HC := Lib.hid hc
  have HN := Lib.hid hn
  clear h hi hc hn
  go_enter Tryd.func28, Tryd.ntmps28
  go_wp2_with fail
  obtain ⟨W0, hW0⟩ : ∃ W, w.alloc (Obj.cells #[.int .i64 keep, .slice a n c] 39) = W := ⟨_, rfl⟩
  rw [hW0] at HB HROW ⊢
  clear hW0
  go_loopw [8] (fun vi wr => ∃ i : Nat, i ≤ n ∧ vi = .int .i64 i ∧ Hid (∀ (j : Nat) (k : RK), j < i → l[j]? = some k → k.b.length ≤ 100) ∧ Hid (Below W0.heap.size W0 wr)) (fun vi _ => n - (intOf vi).toNat)
  case atStart => exact ⟨0, by omega, rfl, Lib.hid (fun j k hj => by omega), Lib.hid (Below.refl _ _)⟩
  case round =>
    obtain ⟨i, hin, rfl, hall, hb0⟩ := hrel
    have hb : Hid (Below w.heap.size w wr) := bel_tr HB.out hb0.out
    have hrow : wr.heap[w.heap.size]? = some (.cells #[.int .i64 keep, .slice a n c] 39 (0, 0)) := (hb0.out.block _ (heap_lt HROW.out)).trans HROW.out
    have ca : wr.cell? ⟨w.heap.size, 1, none⟩ = some (.slice a n c) := cell_of_row wr _ _ _ _ _ hrow
    clear hrow
    by_cases hlt : i < n
    · have e1 : (i : Int) < n := by omega
      obtain ⟨k, hk⟩ : ∃ k, l[i]? = some k := ⟨_, List.getElem?_eq_getElem (by rw [HN.out]; exact hlt)⟩
      obtain ⟨c0, c1⟩ := HC.out _ hb.out i k hk
      have x0 := fun W => HI.out W i hlt
      obtain ⟨ep, hep⟩ : ∃ ep, k.ep = ep := ⟨_, rfl⟩
      obtain ⟨m, hm⟩ : ∃ m, k.b.length = m := ⟨_, rfl⟩
      obtain ⟨ka, hka⟩ : ∃ a, k.a = a := ⟨_, rfl⟩
      obtain ⟨kc, hkc⟩ : ∃ c, k.c = c := ⟨_, rfl⟩
      unfold RK.v at c1
      rw [hka, hkc, hm] at c1
      rw [hep] at c0
      have HK := Lib.hid hk
      have HM := Lib.hid hm
      clear hk hep hm hka hkc
      by_cases hm100 : m ≤ 100
      · have g1 : (m : Int) ≤ 100 := by omega
        go_wp2_with (with_reducible refine wpList_store_new rfl _ _ rfl rfl rfl (by kernel_rfl) (by simp) (by simp [Value.oneCell']) ?_)
        go_roundw
        case rel =>
          refine ⟨i + 1, by omega, by go_num, Lib.hid ?_, Lib.hid (hb0.out.alloc hb0.out.size _)⟩
          intro j k' hj hk'
          by_cases e : j = i
          · subst e
            rw [HK.out] at hk'
            obtain rfl := Option.some.inj hk'
            rw [HM.out]; exact hm100
          · exact hall.out j k' (by omega) hk'
        case measure => simp [intOf]; omega
      · have g1 : (100 : Int) < m := by omega
        have HNO : Hid (rfew l = false) := rfew_no fun hp => by have := hp.2 i k HK.out; rw [HM.out] at this; omega
        go_wp2_with (with_reducible refine wpList_store_new rfl _ _ rfl rfl rfl (by kernel_rfl) (by simp) (by simp [Value.oneCell']) ?_)
        go_ret
        exact ⟨ret_bool HNO.out.symm, hb.out.alloc hb.out.size _⟩
    · have e1 : ¬ (i : Int) < n := by omega
      obtain rfl : i = n := by omega
      have hall2 : ∀ (j : Nat) (k : RK), l[j]? = some k → k.b.length ≤ 100 := fun j k hk => hall.out j k (by rw [← HN.out]; exact (List.getElem?_eq_some_iff.1 hk).1) hk
      by_cases h30 : i ≤ 30
      · have g2 : (i : Int) ≤ 30 := by omega
        have HYES : Hid (rfew l = true) := rfew_yes ⟨by rw [HN.out]; exact h30, hall2⟩
        clear hall2
        go_wp2
        go_ret
        exact ⟨ret_bool (by rw [HYES.out]), hb.out⟩
      · have g2 : (30 : Int) < i := by omega
        have HNO : Hid (rfew l = false) := rfew_no fun hp => by have := hp.1; rw [HN.out] at this; omega
        clear hall2
        go_wp2
        go_ret
        exact ⟨ret_bool (by rw [HNO.out]; first | (simp; done) | (simp; omega)), hb.out⟩

end Go.Proofs.YtmhgdddnjnichaaDoor
/- Layer 9 (ring): the walk of the reference's Rotate. -/
set_option linter.unusedSimpArgs false
namespace Go.Proofs.YtmhgdddnjnichaaDoor
open Go.RowKit Go.Sort

def RRotPost (keep : Int) (l : List RK) (draw : List UInt8) (w : World) (e : Ending) (w' : World) : Prop :=
  ∃ v a c, e = .returned (.agg #[.int .i64 keep, v]) ∧ Ks w' v (rotl keep l ⟨epl l + 1, a, c, rkey draw (epl l + 1).toNat⟩) ∧ Below w.heap.size w w'

set_option maxRecDepth 100000 in
set_option maxHeartbeats 3200000 in
theorem rrrotate_ok (keep : Int) (v vd : Value) (l : List RK) (draw : List UInt8) (w : World) (h : Ks w v l) (hd : Bs w vd draw) (hrp : RP keep l) (h32 : draw.length = 32) (hf : epl l ≠ 1048576) :
    Calls Tryd.prog 38 #[.agg #[.int .i64 keep, v], vd] w (RRotPost keep l draw w) := by
  obtain ⟨da, dc, rfl⟩ := hd.shape
  have H := Lib.hid h
  obtain ⟨n, hn⟩ : ∃ n, l.length = n := ⟨_, rfl⟩
  obtain ⟨a, c, b, o, rfl, h2, h3, hi, hc⟩ := h.open_ n hn
  have hep : 1 ≤ epl l ∧ epl l < 1048576 := by
    have := rp_epl hrp
    have := hrp.2.2.2.2.2.1
    have := hrp.2.2.2.2.1
    have := hrp.2.2.1
    omega
  have hkp : 1 ≤ keep ∧ keep ≤ 16 ∧ 0 < n ∧ (n : Int) ≤ keep := by have := hrp.1; have := hrp.2.1; have := hrp.2.2.1; have := hrp.2.2.2.1; omega
  obtain ⟨m, hm⟩ : ∃ m : Nat, epl l = m := ⟨(epl l).toNat, by omega⟩
  obtain ⟨k1, hk1⟩ : ∃ k, l[n - 1]? = some k := ⟨_, List.getElem?_eq_getElem (by omega)⟩
  have he : epl l = k1.ep := epl_get l k1 (by rw [hn]; exact hk1)
  rw [hm] at he hf hep
  have hB0 := bel_al (bel_al (Below.refl w.heap.size w) (Obj.cells #[.int .i64 keep, .slice a n c] 39)) (Obj.cells #[.int .i64 0, .slice none 0 0] 39)
  have hr2 : ((w.alloc (.cells #[.int .i64 keep, .slice a n c] 39)).alloc (.cells #[.int .i64 0, .slice none 0 0] 39)).heap[w.heap.size + 1]? = some (.cells #[.int .i64 0, .slice none 0 0] 39 (0, 0)) := by rw [alloc_get, if_pos (by simp)]
  have hr1 : ((w.alloc (.cells #[.int .i64 keep, .slice a n c] 39)).alloc (.cells #[.int .i64 0, .slice none 0 0] 39)).heap[w.heap.size]? = some (.cells #[.int .i64 keep, .slice a n c] 39 (0, 0)) := by rw [alloc_get, if_neg (by simp)]; exact heap_alloc_new _ _
  obtain ⟨W0, hW0⟩ : ∃ W, (w.alloc (.cells #[.int .i64 keep, .slice a n c] 39)).alloc (.cells #[.int .i64 0, .slice none 0 0] 39) = W := ⟨_, rfl⟩
  rw [hW0] at hB0 hr1 hr2
  have d0 := (hc _ hB0 (n - 1) k1 hk1).1
  rw [← he] at d0
  have x0 := fun W => hi W (n - 1) (by omega)
  have e0 : ((n - 1 : Nat) : Int) = (n : Int) - 1 := by omega
  rw [e0] at x0
  have c0 : W0.cell? ⟨w.heap.size, 0, none⟩ = some (.int .i64 keep) := cell_of_row W0 _ _ _ _ _ hr1
  have c1 : W0.cell? ⟨w.heap.size, 1, none⟩ = some (.slice a n c) := cell_of_row W0 _ _ _ _ _ hr1
  have HB := Lib.hid hB0
  have HR1 := Lib.hid hr1
  have HR2 := Lib.hid hr2
  have HI := Lib.hid hi
  have HC := Lib.hid hc
  have HN := Lib.hid hn
  have HD := Lib.hid hd
  have HP := Lib.hid hrp
  have HM := Lib.hid hm
  have H32 := Lib.hid h32
  have HW0 := Lib.hid hW0
  rw [h32]
  have hm1 : 1 ≤ m ∧ m < 1048576 := by omega
  have HM1 := Lib.hid hm1
  have d1 := d0
  rw [← hW0] at d1
  clear h hi hc hn hd hrp hm h32 hB0 hr1 hr2 hf hep he hk1 e0 hW0
  go_enter Tryd.func38, Tryd.ntmps38
  go_wp2_with fail
  rw [HW0.out]
  obtain ⟨d, hd⟩ : ∃ d, ((n : Int) + 1 - keep).toNat = d := ⟨_, rfl⟩
  have hdn : d ≤ 1 := by omega
  have hdk : ∀ i : Nat, i < n → (((n : Int) + 1 - i ≤ keep) ↔ d ≤ i) := by intro i hi; omega
  have HDK := Lib.hid hdk
  have HDD := Lib.hid hd
  clear hdk hd d0 d1 x0
  go_loopw [6, 7] (fun v6 v7 wr => ∃ i : Nat, i ≤ n ∧ v7 = .int .i64 i ∧ Hid (Gw 2 RK.cells wr W0.heap.size 48 v6 ((l.take i).drop d)) ∧ Hid (Below W0.heap.size W0 wr)) (fun _ v7 _ => n - (intOf v7).toNat)
  case atStart => exact ⟨0, by omega, rfl, Lib.hid (by simpa using Gw.nil _ _ _), Lib.hid (Below.refl _ _)⟩
  case round =>
    obtain ⟨i, hin, rfl, hg, hb⟩ := hrel
    have c0 : wr.cell? ⟨w.heap.size, 0, none⟩ = some (.int .i64 keep) := cell_of_row wr _ _ _ _ _ ((hb.out.block _ (heap_lt HR1.out)).trans HR1.out)
    have c1 : wr.cell? ⟨w.heap.size, 1, none⟩ = some (.slice a n c) := cell_of_row wr _ _ _ _ _ ((hb.out.block _ (heap_lt HR1.out)).trans HR1.out)
    by_cases hlt : i < n
    · have e1 : (i : Int) < n := by omega
      obtain ⟨k, hk⟩ : ∃ k, l[i]? = some k := ⟨_, List.getElem?_eq_getElem (by rw [HN.out]; exact hlt)⟩
      obtain ⟨d0, d1⟩ := HC.out _ (bel_tr HB.out hb.out) i k hk
      have x0 := fun W => HI.out W i hlt
      obtain ⟨ep, hep⟩ : ∃ ep, k.ep = ep := ⟨_, rfl⟩
      obtain ⟨kv, hkv⟩ : ∃ v, k.v = v := ⟨_, rfl⟩
      have hce : (#[.int .i64 ep, kv] : Array Value).toList = RK.cells k := by unfold RK.cells; rw [hep, hkv]
      have HCE := Lib.hid hce
      clear hce
      rw [hep] at d0
      rw [hkv] at d1
      have HKS : Hid (l.take (i + 1) = l.take i ++ [k]) := by
        show _ = _
        rw [List.take_add_one, hk]; rfl
      have hlen : (l.take i).length = i := by rw [List.length_take, HN.out]; omega
      have HLEN := Lib.hid hlen
      have hs := hb.out.size
      clear hk hep hkv hlen
      by_cases hdi : d ≤ i
      · have e2 := (HDK.out i hlt).2 hdi
        have HDI := Lib.hid hdi
        have HLE : Hid (((l.take i).drop d).length ≤ 16) := by
          show _ ≤ _
          rw [List.length_drop, HLEN.out]
          have := hkp
          omega
        clear hdi
        go_wp2_with (at_builtin; go_must (refine wpList_append_g1 layK hg.out k elK (by have := HLE.out; omega) (by have := HLE.out; omega) hs _ rfl ?_ _ _ rfl rfl _ rfl rfl HCE.out; intro v4 w4 ho4 hb4; have HO4 := Lib.hid ho4; have HB4 := Lib.hid hb4; clear ho4 hb4))
        go_roundw
        case rel =>
          refine ⟨i + 1, by omega, by go_num, Lib.hid ?_, Lib.hid (hb.out.trans HB4.out)⟩
          have := HO4.out
          rwa [HKS.out, List.drop_append_of_le_length (by rw [HLEN.out]; exact HDI.out)]
        case measure => simp [intOf]; omega
      · have e2 : ¬ ((n : Int) + 1 - i ≤ keep) := fun h => hdi ((HDK.out i hlt).1 h)
        have HDI := Lib.hid hdi
        clear hdi
        go_wp2_with fail
        go_roundw
        case rel =>
          refine ⟨i + 1, by omega, by go_num, Lib.hid ?_, hb⟩
          have h1 : (l.take i).drop d = [] := List.drop_of_length_le (by rw [HLEN.out]; have := HDI.out; omega)
          have h2 : (l.take (i + 1)).drop d = [] := List.drop_of_length_le (by rw [List.length_take]; have := HDI.out; omega)
          rw [h2, ← h1]
          exact hg.out
        case measure => simp [intOf]; omega
    · have e1 : ¬ (i : Int) < n := by omega
      obtain rfl : i = n := by omega
      go_upto_region 8 with fail
      have hs := hb.out.size
      have hl : (l.take i).drop d = l.drop d := by rw [List.take_of_length_le (by rw [HN.out]; omega)]
      rw [hl] at hg
      have hll : (l.drop d).length ≤ 16 := by rw [List.length_drop, HN.out]; omega
      have HLL := Lib.hid hll
      have HG : Hid (Gw 2 RK.cells wr.drew W0.heap.size 48 u6 (l.drop d)) := hg
      have HBW : Hid (Below W0.heap.size W0 wr.drew) := Lib.hid (bel_dr hb.out)
      have hdr : Bs wr.drew (.slice da 32 dc) draw := by
        have := (HD.out.below HB.out).below HBW.out
        rwa [H32.out] at this
      have HDR := Lib.hid hdr
      have HC2 : Hid (∀ a c, (#[.int .i64 ((m : Int) + 1), .slice a 32 c] : Array Value).toList = RK.cells ⟨(m : Int) + 1, a, c, rkey draw (m + 1)⟩) := fun a c => by simp [RK.cells, RK.v, rkey_len]
      have TK : Hid (Calls Tryd.prog 33 #[.slice da 32 dc, .int .i64 ((m : Int) + 1)] wr.drew fun e w' => ∃ a c, e = .returned (.slice a 32 c) ∧ Hid (Ob w' W0.heap.size 5 (.slice a 32 c) (rkey draw (m + 1))) ∧ Below wr.drew.heap.size wr.drew w') := by
        have hq : (Calls Tryd.prog 33 #[.slice da 32 dc, .int .i64 ((m + 1 : Nat) : Int)] wr.drew _) := rrkey_any (.slice da 32 dc) draw (m + 1) wr.drew HDR.out (by rw [H32.out]; omega) (by omega)
        show Calls _ _ _ _ _
        rw [show ((m : Int) + 1) = ((m + 1 : Nat) : Int) by omega]
        refine hq.mono ?_
        rintro e w' ⟨y, rfl, hy, hb⟩
        obtain ⟨ay, cy, rfl⟩ := hy.shape
        rw [rkey_len] at hy ⊢
        exact ⟨ay, cy, rfl, Lib.hid (hy.mono HBW.out.size), hb⟩
      clear hg hl hll hdr
      have HL1 : Hid (((l.drop d).length + 1) * 32 ≤ 140737488355328 ∧ (l.drop d).length < 9223372036854775807) := by have := HLL.out; exact ⟨by omega, by omega⟩
      have HR2' : Hid (∀ W, Below W0.heap.size W0 W → W.heap[w.heap.size + 1]? = some (.cells #[.int .i64 0, .slice none 0 0] 39 (0, 0))) := fun W hW => (hW.block _ (heap_lt HR2.out)).trans HR2.out
      have HLT : Hid (w.heap.size + 1 < W0.heap.size) := heap_lt HR2.out
      have HHB := HB
      have hfin : ∀ v4 w4 ak ck (w2 : World) (ucs : Array Value), Ob w2 W0.heap.size 5 (.slice ak 32 ck) (rkey draw (m + 1)) → Gw 2 RK.cells w2 W0.heap.size 48 u6 (l.drop d) → Gw 2 RK.cells w4 W0.heap.size 48 v4 (l.drop d ++ [⟨(m : Int) + 1, ak, ck, rkey draw (m + 1)⟩]) → (w2.alloc (.cells ucs 48)).grownBy w4 u6.ownBlock → Below W0.heap.size W0 w4 →
          ∀ Wf, Wf = w4.setRow (w.heap.size + 1) #[.int .i64 keep, v4] → Ks Wf v4 (rotl keep l ⟨epl l + 1, ak, ck, rkey draw (epl l + 1).toNat⟩) ∧ Below w.heap.size w Wf ∧ Wf.heap[w.heap.size + 1]? = some (.cells #[.int .i64 keep, v4] 39 (0, 0)) := by
        intro v4 w4 ak ck w2 ucs hok2 hg2 hg4 hgr hb4 Wf hWf
        have hO : Only (fun k => k = w.heap.size + 1) w4 Wf := by rw [hWf]; exact setRow_only _ _ _
        have hlt := HLT.out
        have hok4 : Ob w4 W0.heap.size 5 (.slice ak 32 ck) (rkey draw (m + 1)) :=
          (hok2.below ((Below.refl _ _).alloc (Nat.le_refl _) (.cells ucs 48))).only (grown_only hgr) (fun k hk hf => hok2.ne_gw hg2 (by decide) k hk hf)
        have hBf : Below w.heap.size w Wf := (bel_tr HHB.out hb4).trans (hO.below (fun k hk => by omega) (bel_tr HHB.out hb4).size)
        have hg : Gs 2 RK.cells Wf v4 (l.drop d ++ [⟨(m : Int) + 1, ak, ck, rkey draw (m + 1)⟩]) := hg4.gs.only hO (fun k hk e => by have := (hg4.lt k hk).1; omega)
        have hbk : Bs Wf (.slice ak 32 ck) (rkey draw (m + 1)) := hok4.bs.only hO (fun k hk e => by have := (hok4.lt k hk).1; omega)
        have hrt : rotl keep l ⟨epl l + 1, ak, ck, rkey draw (epl l + 1).toNat⟩ = l.drop d ++ [(⟨(m : Int) + 1, ak, ck, rkey draw (m + 1)⟩ : RK)] := by
          unfold rotl
          rw [HN.out, HDD.out, HM.out, List.drop_append_of_le_length (by rw [HN.out]; omega), show ((m : Int) + 1).toNat = m + 1 by omega]
        rw [hrt]
        refine ⟨⟨hg, fun k hk => ?_, fun k hk => ?_⟩, hBf, by rw [hWf]; exact setRow_heap w4 _ _ _ _ _ (HR2'.out _ hb4)⟩
        · rcases List.mem_append.1 hk with hk | hk
          · exact (H.out.b k (List.mem_of_mem_drop hk)).below hBf
          · simp at hk; subst hk
            unfold RK.v; rw [rkey_len]; exact hbk
        · rcases List.mem_append.1 hk with hk | hk
          · exact H.out.wf k (List.mem_of_mem_drop hk)
          · simp at hk; subst hk
            have := HM1.out
            exact ⟨by show -9223372036854775808 ≤ (m : Int) + 1; omega, by show (m : Int) + 1 ≤ 9223372036854775807; omega⟩
      have HFIN := Lib.hid hfin
      clear hfin
      go_region_law (first
        | (refine step_append_g1 layK HG2.out ⟨(m : Int) + 1, ak, ck, rkey draw (m + 1)⟩ elK HL1.out.1 HL1.out.2 HB2.out.size _ rfl _ (HC2.out ak ck) ?_ _ _ rfl rfl rfl rfl; intro v4 w4 ho4 hg4 hb4; obtain ⟨a4, cc4, hv4⟩ := ho4.gs.shape; obtain ⟨nv, hnv⟩ : ∃ n, (l.drop d ++ [(⟨(m : Int) + 1, ak, ck, rkey draw (m + 1)⟩ : RK)]).length = n := ⟨_, rfl⟩; rw [hnv] at hv4; subst hv4; clear hnv; have HO4 := Lib.hid ho4; have HG4 := Lib.hid hg4; have HB4 := Lib.hid (HB2.out.trans hb4); have HR4 := Lib.hid (HR2'.out _ (HB2.out.trans hb4)); have c4 : w4.cell? ⟨w.heap.size, 0, none⟩ = some (.int .i64 keep) := cell_of_row w4 _ _ _ _ _ (((HB2.out.trans hb4).block _ (heap_lt HR1.out)).trans HR1.out); have q0 : w4.cell? ⟨w.heap.size + 1, 0, none⟩ = some (.int .i64 0) := cell_of_row w4 _ _ _ _ _ (HR2'.out _ (HB2.out.trans hb4)); have q1 : w4.cell? ⟨w.heap.size + 1, 1, none⟩ = some (.slice none 0 0) := cell_of_row w4 _ _ _ _ _ (HR2'.out _ (HB2.out.trans hb4)); have f0 : w4.frozen? ⟨w.heap.size + 1, 0, none⟩ = false := row_free (HR2'.out _ (HB2.out.trans hb4)) 0; have f1 : w4.frozen? ⟨w.heap.size + 1, 1, none⟩ = false := row_free (HR2'.out _ (HB2.out.trans hb4)) 1; clear ho4 hg4 hb4)
        | (go_simp; go_at_call 33; refine TK.out.mono ?_; rintro e w2 ⟨ak, ck, rfl, hok, hb2⟩; have HOK := hok; have HB2 := Lib.hid (bel_tr HBW.out hb2); have HG2 := Lib.hid (HG.out.below hb2); have c2 : w2.cell? ⟨w.heap.size, 0, none⟩ = some (.int .i64 keep) := cell_of_row w2 _ _ _ _ _ (((bel_tr HBW.out hb2).block _ (heap_lt HR1.out)).trans HR1.out); have c2a : ∀ ob, (w2.alloc ob).cell? ⟨w.heap.size, 0, none⟩ = some (.int .i64 keep) := fun ob => cell_of_row _ _ _ _ _ _ (((bel_al (bel_tr HBW.out hb2) ob).block _ (heap_lt HR1.out)).trans HR1.out); clear hok hb2))
      all_goals
        rw [two_cells _ _ _ _ _ _ _ HR4.out]
        go_wp2_with fail
        obtain ⟨hk, hBf, hrow⟩ := HFIN.out _ _ _ _ _ _ HOK.out HG2.out HO4.out HG4.out HB4.out _ rfl
        refine bodyPost_ret (v := .agg #[.int .i64 keep, .slice a4 nv cc4]) ?_ rfl ⟨_, ak, ck, rfl, hk, hBf⟩
        exact results_cell_row Tryd.results38 _ _ (w.heap.size + 1) 39 _ (0, 0) _ rfl hrow Tryd.underlying39 rfl (by kernel_rfl)

end Go.Proofs.YtmhgdddnjnichaaDoor
