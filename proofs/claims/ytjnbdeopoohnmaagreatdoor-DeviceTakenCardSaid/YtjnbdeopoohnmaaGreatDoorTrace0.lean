/- Walks of layer 6 (trace) on stretches, lengths, gaps, and of the reference. -/
import Derived.Test.YtjnbdeopoohnmaaGreatDoorSmp0
import Derived.Deep.RegionHeld3
import Derived.Lib.QuietBelow
namespace Go.Proofs.YtjnbdeopoohnmaaGreatDoor
open Go.RowKit Go.Sort

/-- what Right answers -/
def RightPost (l : List Smp) (w : World) (e : Ending) (w' : World) : Prop := ∃ b, e = .returned (.bool b) ∧ (b = true ↔ SRight l) ∧ Below w.heap.size w w'

set_option maxHeartbeats 800000 in
theorem rright_any (va : Value) (l : List Smp) (w : World) (ha : Ss w va l) : Calls Tryz.prog 33 #[va] w (RightPost l w) := by
  obtain ⟨n, hn⟩ : ∃ n, l.length = n := ⟨_, rfl⟩
  obtain ⟨a, ca, b1, o1, rfl, ha1, ha2, ha3, ha4, ha5⟩ := Ss.open_n elS ha n hn
  clear ha
  have HN := Lib.hid hn
  clear hn
  go_enter Tryz.func33, Tryz.ntmps33
  go_wp2
  go_loopw [3] (fun i wr => ∃ k : Nat, k ≤ n ∧ i = .int .i64 k ∧ Below w.heap.size w wr ∧ Hid (∀ i s, i < k → l[i]? = some s → SMay s ∧ (0 < i → ∀ p, l[i - 1]? = some p → p.t < s.t))) (fun i _ => n - (intOf i).toNat)
  case atStart => exact ⟨0, by omega, rfl, Below.refl _ _, fun i s hi => by omega⟩
  case round =>
    obtain ⟨k, hk, rfl, hw, hR⟩ := hrel
    by_cases hlt : k < n
    · obtain ⟨s, hs⟩ : ∃ s, l[k]? = some s := ⟨_, List.getElem?_eq_getElem (by have := HN.out; omega)⟩
      obtain ⟨p0, p1, p2⟩ := ha5 k s hs
      rw [← hw.cell (ha4 k hlt)] at p0
      rw [← hw.cell (by exact ha4 k hlt)] at p1
      rw [← hw.cell (by exact ha4 k hlt)] at p2
      have e1 : (k : Int) < n := by omega
      have hbs := ha4 k hlt
      have hsz := hw.size
      have hbW : b1 < wr.heap.size := by omega
      by_cases hm : mayB s = true
      · have r0 := fun d os => cell_regrown p0 d os
        have r1 := fun d os => cell_regrown p1 d os
        have r2 := fun d os => cell_regrown p2 d os
        have HSM : Hid (SMay s) := (mayB_iff s).1 hm
        by_cases hk0 : k = 0
        · have hd : decide (0 < k) = false := by simp; omega
          have HS := Lib.hid hs
          clear hs ha4 ha5
          have HM := Lib.hid hm
          clear hm
          have HK := Lib.hid hk0
          clear hk0
          go_wp2
          refine wp_region_quiet_below (by kernel_rfl) (by kernel_rfl) ?_
          repeat (go_big_quiet_step ((go_at_call 72; exact Calls.regrown_of (rmay_is s true HM.out _))))
          refine wpQuiet_nil ?_
          intro _ hw'
          obtain ⟨⟨dq, osq⟩, hw''⟩ := hw'
          subst hw''
          have hb2 := below_regrown wr dq osq
          obtain ⟨w2, hwq⟩ : ∃ x, x = grow (redrawn wr dq) osq := ⟨_, rfl⟩
          rw [← hwq] at hb2 ⊢
          clear hwq
          go_wp2
          go_roundw
          case rel =>
            refine ⟨k + 1, by omega, by go_num, hw.trans (hb2.mono hsz), fun i s' hi hs' => ?_⟩
            by_cases hik : i = k
            · subst hik
              have := HS.out
              rw [this] at hs'
              cases hs'
              exact ⟨HSM.out, fun h0 => absurd HK.out (by omega)⟩
            · exact hR.out i s' (by omega) hs'
          case measure => simp [intOf]; omega
        · have hd : decide (0 < k) = true := by simp; omega
          obtain ⟨p, hp⟩ : ∃ p, l[k - 1]? = some p := ⟨_, List.getElem?_eq_getElem (by have := HN.out; omega)⟩
          have hprev := (ha5 (k - 1) p hp).1
          rw [← hw.cell (by exact ha4 k hlt)] at hprev
          have r3 := fun d os => cell_regrown hprev d os
          have e2 : ((k : Int) - 1).toNat = k - 1 := by omega
          have e3 : (0 : Int) ≤ (k : Int) - 1 := by omega
          have e4 : (k : Int) - 1 < n := by omega
          have HS := Lib.hid hs
          have HP := Lib.hid hp
          have hidx := fun W => ha3 W ((k : Int) - 1) e3 e4
          rw [e2] at hidx
          clear hs hp ha4 ha5 e2
          have HM := Lib.hid hm
          clear hm
          by_cases hle : s.t ≤ p.t
          · have hd2 : decide (s.t ≤ p.t) = true := by simpa using hle
            go_wp2
            refine wp_region_quiet_below (by kernel_rfl) (by kernel_rfl) ?_
            repeat (go_big_quiet_step ((go_at_call 72; exact Calls.regrown_of (rmay_is s true HM.out _))))
            refine wpQuiet_nil ?_
            intro _ hw'
            obtain ⟨⟨dq, osq⟩, hw''⟩ := hw'
            subst hw''
            have hb2 := below_regrown wr dq osq
            obtain ⟨w2, hwq⟩ : ∃ x, x = grow (redrawn wr dq) osq := ⟨_, rfl⟩
            rw [← hwq] at hb2 ⊢
            clear hwq
            go_wp2
            go_ret
            refine ⟨false, rfl, ?_, hw.trans (hb2.mono hsz)⟩
            simp only [Bool.false_eq_true, false_iff]
            intro h
            have := (h k s HS.out).2 (by omega) p HP.out
            omega
          · have hd2 : decide (s.t ≤ p.t) = false := by simpa using hle
            go_wp2
            refine wp_region_quiet_below (by kernel_rfl) (by kernel_rfl) ?_
            repeat (go_big_quiet_step ((go_at_call 72; exact Calls.regrown_of (rmay_is s true HM.out _))))
            refine wpQuiet_nil ?_
            intro _ hw'
            obtain ⟨⟨dq, osq⟩, hw''⟩ := hw'
            subst hw''
            have hb2 := below_regrown wr dq osq
            obtain ⟨w2, hwq⟩ : ∃ x, x = grow (redrawn wr dq) osq := ⟨_, rfl⟩
            rw [← hwq] at hb2 ⊢
            clear hwq
            go_wp2
            go_roundw
            case rel =>
              refine ⟨k + 1, by omega, by go_num, hw.trans (hb2.mono hsz), fun i s' hi hs' => ?_⟩
              by_cases hik : i = k
              · subst hik
                have := HS.out
                rw [this] at hs'
                cases hs'
                refine ⟨HSM.out, fun h0 p' hp' => ?_⟩
                rw [HP.out] at hp'
                cases hp'
                omega
              · exact hR.out i s' (by omega) hs'
            case measure => simp [intOf]; omega
      · have hm' : mayB s = false := by simpa using hm
        have HS := Lib.hid hs
        clear hs ha4 ha5 hm
        go_wp2
        have r0 := fun d os => cell_regrown p0 d os
        have r1 := fun d os => cell_regrown p1 d os
        have r2 := fun d os => cell_regrown p2 d os
        refine wp_region_quiet_below (by kernel_rfl) (by kernel_rfl) ?_
        repeat (go_big_quiet_step ((go_at_call 72; exact Calls.regrown_of (rmay_is s false hm' _))))
        refine wpQuiet_nil ?_
        intro _ hw'
        obtain ⟨⟨dq, osq⟩, hw''⟩ := hw'
        subst hw''
        have hb2 := below_regrown wr dq osq
        obtain ⟨w2, hwq⟩ : ∃ x, x = grow (redrawn wr dq) osq := ⟨_, rfl⟩
        rw [← hwq] at hb2 ⊢
        clear hwq
        go_wp2
        go_ret
        refine ⟨false, rfl, ?_, hw.trans (hb2.mono hsz)⟩
        simp only [Bool.false_eq_true, false_iff]
        intro h
        have := (mayB_iff s).2 (h k s HS.out).1
        rw [hm'] at this
        cases this
    · go_wp2
      go_ret
      refine ⟨true, rfl, ?_, hw⟩
      simp only [true_iff]
      intro i s hi
      exact hR.out i s (by have := (List.getElem?_eq_some_iff.1 hi).1; have := HN.out; omega) hi

end Go.Proofs.YtjnbdeopoohnmaaGreatDoor
