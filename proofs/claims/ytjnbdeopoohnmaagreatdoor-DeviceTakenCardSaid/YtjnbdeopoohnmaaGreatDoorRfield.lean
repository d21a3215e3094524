/- Walks of the reference of layer 3 (field): what is written. -/
import Derived.Test.YtjnbdeopoohnmaaGreatDoorBase
import Derived.Test.YtjnbdeopoohnmaaGreatDoorVarint
import Derived.Test.YtjnbdeopoohnmaaGreatDoorVBspec
namespace Go.Proofs.YtjnbdeopoohnmaaGreatDoor
open Go.RowKit

theorem rnumber_any (n : Int) (h1 : -9223372036854775808 ≤ n) (h2 : n ≤ 9223372036854775807) (w : World) :
    Calls Tryz.prog 36 #[.int .i64 n] w fun e w' => ∃ v, e = .returned v ∧ Ob w' w.heap.size 5 v (vput n.toNat) ∧ Below w.heap.size w w' := by
  by_cases h0 : n < 0
  · have e0 : n.toNat = (0 : Int).toNat := by omega
    rw [e0]
    go_enter Tryz.func36, Tryz.ntmps36
    go_wp2_with fail
    refine (rput_int 0 (by omega) (by omega) _).mono ?_
    rintro e w1 ⟨v, rfl, ho, hb⟩
    go_wp2
    go_ret
    exact ⟨_, rfl, ho, hb⟩
  · go_enter Tryz.func36, Tryz.ntmps36
    go_wp2_with fail
    refine (rput_int n (by omega) (by omega) _).mono ?_
    rintro e w1 ⟨v, rfl, ho, hb⟩
    go_wp2
    go_ret
    exact ⟨_, rfl, ho, hb⟩

theorem rsigned_any (n : Int) (h1 : -9223372036854775808 ≤ n) (h2 : n ≤ 9223372036854775807) (w : World) :
    Calls Tryz.prog 73 #[.int .i64 n] w fun e w' => ∃ v, e = .returned v ∧ Ob w' w.heap.size 5 v (vput (vturn n).toNat) ∧ Below w.heap.size w w' := by
  have hr := vturn_range n h1 h2
  go_enter Tryz.func73, Tryz.ntmps73
  go_wp2_with fail
  refine (rturn_any n h1 h2 _).mono ?_
  rintro e w1 ⟨rfl, rfl⟩
  go_wp2_with fail
  refine (rput_int _ hr.1 hr.2 _).mono ?_
  rintro e w2 ⟨v, rfl, ho, hb⟩
  go_wp2
  go_ret
  exact ⟨_, rfl, ho, hb⟩

theorem rbytes_any (y : Value) (m : List UInt8) (w : World) (hy : Bs w y m) (hm : m.length ≤ 35184372088832) :
    Calls Tryz.prog 37 #[y] w fun e w' => ∃ v, e = .returned v ∧ Ob w' w.heap.size 5 v (vput m.length ++ m) ∧ Below w.heap.size w w' := by
  obtain ⟨a, c, hs⟩ := hy.shape
  subst hs
  have hpn := vput_len10 m.length (by omega)
  go_enter Tryz.func37, Tryz.ntmps37
  go_wp2_with fail
  refine (rnumber_any _ (by omega) (by omega) _).mono ?_
  rintro e w1 ⟨v1, rfl, ho1, hb1⟩
  rw [show ((m.length : Int)).toNat = m.length by omega] at ho1
  have hy1 := hy.below hb1
  have hsz := hb1.size
  go_wp2_with (at_builtin; go_must (refine wpList_append_bytes ho1 hy1 elB (by omega) (by omega) hsz ?_ _ _ rfl rfl rfl rfl); intro v3 w3 ho3 hg3 hb3 _; have HO3 := Lib.hid ho3; clear ho3)
  go_ret
  exact ⟨_, rfl, HO3.out, hb1.trans hb3⟩

end Go.Proofs.YtjnbdeopoohnmaaGreatDoor
