/- The walk of the statement SampleTakes. -/
import Derived.Test.YticpmkdlnjnfgaaSampL
import Derived.Test.YticpmkdlnjnfgaaSamp6
import Derived.Test.YticpmkdlnjnfgaaSamp7
namespace Go.Proofs.Yticpmkdlnjnfgaa
open Go.RowKit Go.Sort

set_option maxRecDepth 100000 in
set_option maxHeartbeats 800000 in
theorem sampleTakes_walk (va : Value) (l : List UInt8) (n : Int) (w : World) (ha : Bs w va l) (hn : -9223372036854775808 ≤ n ∧ n ≤ 9223372036854775807) :
    Calls Try.prog 4 #[va, .int .i64 n] w fun e w' => e = .returned (.bool true) ∧ Below w.heap.size w w' := by
  obtain ⟨a, ca, hs⟩ := ha.shape
  subst hs
  by_cases hl : l.length ≤ 3000
  · have dl : decide ((3000 : Int) < l.length) = false := by simp; omega
    have hR := fun w h => rstake_any (.slice a l.length ca) l n hn w h
    have hP := fun w h => stake_any (.slice a l.length ca) l n hn w h (by omega)
    unfold STakePost at hR hP
    obtain ⟨out, used, err, hv⟩ : ∃ o u e, stake l n = (o, u, e) := ⟨_, _, _, rfl⟩
    rw [hv] at hR hP
    simp only at hR hP
    have HR := Lib.hid hR
    have HP := Lib.hid hP
    clear hR hP hv
    go_enter Try.func4, Try.ntmps4
    go_wp2_with fail
    refine (awake5 _).mono ?_
    rintro e w1 ⟨rfl, hb1⟩
    go_wp2_with fail
    refine (HP.out _ (ha.below hb1)).mono ?_
    rintro e w2 ⟨v2, rfl, h2, hb2⟩
    have hw2 := hb1.trans (hb2.mono hb1.size)
    go_wp2_with fail
    refine (HR.out _ (ha.below hw2)).mono ?_
    rintro e w3 ⟨v3, rfl, h3, hb3⟩
    have hw3 := hw2.trans (hb3.mono hw2.size)
    go_wp2_with fail
    refine (ssame_any _ _ _ _ (h2.below hb3) h3).mono ?_
    rintro e w4 ⟨rfl, hb4⟩
    go_wp2
    go_ret
    exact ⟨rfl, hw3.trans (hb4.mono hw3.size)⟩
  · have dl : decide ((3000 : Int) < l.length) = true := by simp; omega
    go_enter Try.func4, Try.ntmps4
    go_wp2_with fail
    refine (awake5 _).mono ?_
    rintro e w1 ⟨rfl, hb1⟩
    go_wp2
    go_ret
    exact ⟨rfl, hb1⟩

end Go.Proofs.Yticpmkdlnjnfgaa
