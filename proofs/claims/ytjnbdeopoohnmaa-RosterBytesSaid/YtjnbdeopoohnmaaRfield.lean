/- Walks of the reference of layer 3 (field): what is written. -/
import Derived.Test.YtjnbdeopoohnmaaBase
import Derived.Test.YtjnbdeopoohnmaaVarint
import Derived.Test.YtjnbdeopoohnmaaVBspec
namespace Go.Proofs.Ytjnbdeopoohnmaa
open Go.RowKit

theorem rnumber_any (n : Int) (h1 : -9223372036854775808 ≤ n) (h2 : n ≤ 9223372036854775807) (w : World) :
    Calls Try.prog 72 #[.int .i64 n] w fun e w' => ∃ v, e = .returned v ∧ Ob w' w.heap.size 5 v (vput n.toNat) ∧ Below w.heap.size w w' := by
  by_cases h0 : n < 0
  · have e0 : n.toNat = (0 : Int).toNat := by omega
    rw [e0]
    go_enter Try.func72, Try.ntmps72
    go_wp2_with fail
    refine (rput_int 0 (by omega) (by omega) _).mono ?_
    rintro e w1 ⟨v, rfl, ho, hb⟩
    go_wp2
    go_ret
    exact ⟨_, rfl, ho, hb⟩
  · go_enter Try.func72, Try.ntmps72
    go_wp2_with fail
    refine (rput_int n (by omega) (by omega) _).mono ?_
    rintro e w1 ⟨v, rfl, ho, hb⟩
    go_wp2
    go_ret
    exact ⟨_, rfl, ho, hb⟩

theorem rsigned_any (n : Int) (h1 : -9223372036854775808 ≤ n) (h2 : n ≤ 9223372036854775807) (w : World) :
    Calls Try.prog 73 #[.int .i64 n] w fun e w' => ∃ v, e = .returned v ∧ Ob w' w.heap.size 5 v (vput (vturn n).toNat) ∧ Below w.heap.size w w' := by
  have hr := vturn_range n h1 h2
  go_enter Try.func73, Try.ntmps73
  go_wp2_with fail
  refine (rturn_any n h1 h2 _).mono ?_
  rintro e w1 ⟨rfl, rfl⟩
  go_wp2_with fail
  refine (rput_int _ hr.1 hr.2 _).mono ?_
  rintro e w2 ⟨v, rfl, ho, hb⟩
  go_wp2
  go_ret
  exact ⟨_, rfl, ho, hb⟩

end Go.Proofs.Ytjnbdeopoohnmaa
