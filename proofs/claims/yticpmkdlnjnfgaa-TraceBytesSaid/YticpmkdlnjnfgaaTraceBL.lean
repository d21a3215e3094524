/- The walk of the statement TraceBytes. -/
import Derived.Test.YticpmkdlnjnfgaaTraceR
import Derived.Test.YticpmkdlnjnfgaaTraceA
namespace Go.Proofs.Yticpmkdlnjnfgaa
open Go.RowKit Go.Sort

/-- the two answers are one -/
theorem tput_cases {l : List Smp} {w : World} {e : Ending} {w' : World} (h : TPutPost l w e w') : ∃ v f b, e = .returned (.tuple #[v, .int .i64 f]) ∧ Bs w' v b ∧ b = (if 2048 < l.length then [] else if f = 0 then tbytes l else []) ∧ (2048 < l.length → f = 3) ∧ (¬ 2048 < l.length → (SRight l ∧ f = 0) ∨ (¬ SRight l ∧ f = 2)) ∧ Below w.heap.size w w' := by
  unfold TPutPost at h
  split at h
  · next hb => exact ⟨_, 3, [], h.1, Rd.nil _ _, by rw [if_pos hb], fun _ => rfl, fun h => absurd hb h, h.2⟩
  · next hb =>
    rcases h with ⟨hr, v, rfl, ho, hb2⟩ | ⟨hr, rfl, hb2⟩
    · exact ⟨v, 0, _, rfl, ho.bs, by rw [if_neg hb, if_pos rfl], fun h => absurd h hb, fun _ => .inl ⟨hr, rfl⟩, hb2⟩
    · exact ⟨_, 2, [], rfl, Rd.nil _ _, by rw [if_neg hb, if_neg (by decide)], fun h => absurd h hb, fun _ => .inr ⟨hr, rfl⟩, hb2⟩

set_option maxRecDepth 100000 in
set_option maxHeartbeats 1600000 in
theorem traceBytes_walk (va : Value) (l : List Smp) (vb : Value) (b : List UInt8) (w : World) (ha : Ss w va l) (hb : Bs w vb b) :
    Calls Try.prog 11 #[va, vb] w fun e w' => e = .returned (.bool true) ∧ Below w.heap.size w w' := by
  obtain ⟨a, ca, hs⟩ := ha.shape
  subst hs
  obtain ⟨a2, cb, hs⟩ := hb.shape
  subst hs
  by_cases hl : l.length ≤ 2100
  · have dl : decide ((2100 : Int) < l.length) = false := by simp; omega
    by_cases hlb : b.length ≤ 4000
    · have dlb : decide ((4000 : Int) < b.length) = false := by simp; omega
      have hP := fun w h => ttake_any (.slice a2 b.length cb) b w h (by omega)
      have hR := fun w h => rttake_any (.slice a2 b.length cb) b w h (by omega)
      unfold TTakePost at hP hR
      obtain ⟨out, err, hv⟩ : ∃ o e, ttake b = (o, e) := ⟨_, _, rfl⟩
      rw [hv] at hP hR
      simp only at hP hR
      have HP := Lib.hid hP
      have HR := Lib.hid hR
      clear hP hR hv
      go_enter Try.func11, Try.ntmps11
      go_wp2_with fail
      refine (awake6 _).mono ?_
      rintro e w1 ⟨rfl, hb1⟩
      go_wp2_with fail
      refine (tput_any _ l _ (ha.below hb1)).mono ?_
      rintro e w2 h2
      obtain ⟨v2, f2, b2, rfl, hv2, hbb2, hx2, hy2, hb2⟩ := tput_cases h2
      have hw2 := hb1.trans (hb2.mono hb1.size)
      go_wp2_with fail
      refine (rtput_any _ l _ (ha.below hw2)).mono ?_
      rintro e w3 h3
      obtain ⟨v3, f3, b3, rfl, hv3, hbb3, hx3, hy3, hb3⟩ := tput_cases h3
      have hw3 := hw2.trans (hb3.mono hw2.size)
      have hff : f2 = f3 := by
        by_cases hbig : 2048 < l.length
        · rw [hx2 hbig, hx3 hbig]
        · rcases hy2 hbig with ⟨h, rfl⟩ | ⟨h, rfl⟩ <;> rcases hy3 hbig with ⟨h', rfl⟩ | ⟨h', rfl⟩ <;> first | rfl | exact absurd h h' | exact absurd h' h
      subst hff
      have hbe : b2 = b3 := by rw [hbb2, hbb3]
      subst hbe
      have hv2' := hv2.below hb3
      clear hbb2 hbb3 hx2 hx3 hy2 hy3 h2 h3
      go_wp2_with fail
      refine (HP.out _ (hb.below hw3)).mono ?_
      rintro e w4 ⟨v4, rfl, h4, hb4⟩
      have hw4 := hw3.trans (hb4.mono hw3.size)
      go_wp2_with fail
      refine (HR.out _ (hb.below hw4)).mono ?_
      rintro e w5 ⟨v5, rfl, h5, hb5⟩
      have hw5 := hw4.trans (hb5.mono hw4.size)
      go_wp2_with fail
      refine (same_any _ _ _ _ _ ((hv2'.below hb4).below hb5) ((hv3.below hb4).below hb5)).mono ?_
      rintro e w6 ⟨rfl, hb6⟩
      rw [beq_self_true]
      have hw6 := hw5.trans (hb6.mono hw5.size)
      go_wp2_with fail
      refine (ssame_any _ _ _ _ ((h4.below hb5).below hb6) (h5.below hb6)).mono ?_
      rintro e w7 ⟨rfl, hb7⟩
      go_wp2
      go_ret
      exact ⟨rfl, hw6.trans (hb7.mono hw6.size)⟩
    · have dlb : decide ((4000 : Int) < b.length) = true := by simp; omega
      go_enter Try.func11, Try.ntmps11
      go_wp2_with fail
      refine (awake6 _).mono ?_
      rintro e w1 ⟨rfl, hb1⟩
      go_wp2
      go_ret
      exact ⟨rfl, hb1⟩
  · have dl : decide ((2100 : Int) < l.length) = true := by simp; omega
    go_enter Try.func11, Try.ntmps11
    go_wp2_with fail
    refine (awake6 _).mono ?_
    rintro e w1 ⟨rfl, hb1⟩
    go_wp2
    go_ret
    exact ⟨rfl, hb1⟩

end Go.Proofs.Yticpmkdlnjnfgaa
