/- Walks of the reference of layer 3 (field): what is written. -/
import Derived.Test.YtjnbdeopoohnmaaDoorBase
import Derived.Test.YtjnbdeopoohnmaaDoorVarint
import Derived.Test.YtjnbdeopoohnmaaDoorVBspec
namespace Go.Proofs.YtjnbdeopoohnmaaDoor
open Go.RowKit

theorem rnumber_any (n : Int) (h1 : -9223372036854775808 ≤ n) (h2 : n ≤ 9223372036854775807) (w : World) :
    Calls Tryd.prog 61 #[.int .i64 n] w fun e w' => ∃ v, e = .returned v ∧ Ob w' w.heap.size 5 v (vput n.toNat) ∧ Below w.heap.size w w' := by
  by_cases h0 : n < 0
  · have e0 : n.toNat = (0 : Int).toNat := by omega
    rw [e0]
    go_enter Tryd.func61, Tryd.ntmps61
    go_wp2_with fail
    refine (rput_int 0 (by omega) (by omega) _).mono ?_
    rintro e w1 ⟨v, rfl, ho, hb⟩
    go_wp2
    go_ret
    exact ⟨_, rfl, ho, hb⟩
  · go_enter Tryd.func61, Tryd.ntmps61
    go_wp2_with fail
    refine (rput_int n (by omega) (by omega) _).mono ?_
    rintro e w1 ⟨v, rfl, ho, hb⟩
    go_wp2
    go_ret
    exact ⟨_, rfl, ho, hb⟩

theorem rbytes_any (y : Value) (m : List UInt8) (w : World) (hy : Bs w y m) (hm : m.length ≤ 35184372088832) :
    Calls Tryd.prog 39 #[y] w fun e w' => ∃ v, e = .returned v ∧ Ob w' w.heap.size 5 v (vput m.length ++ m) ∧ Below w.heap.size w w' := by
  obtain ⟨a, c, hs⟩ := hy.shape
  subst hs
  have hpn := vput_len10 m.length (by omega)
  go_enter Tryd.func39, Tryd.ntmps39
  go_wp2_with fail
  refine (rnumber_any _ (by omega) (by omega) _).mono ?_
  rintro e w1 ⟨v1, rfl, ho1, hb1⟩
  rw [show ((m.length : Int)).toNat = m.length by omega] at ho1
  have hy1 := hy.below hb1
  have hsz := hb1.size
  go_wp2_with (at_builtin; go_must (refine wpList_append_bytes ho1 hy1 elB (by omega) (by omega) hsz ?_ _ _ rfl rfl rfl rfl); intro v3 w3 ho3 hg3 hb3 _; have HO3 := Lib.hid ho3; clear ho3)
  go_ret
  exact ⟨_, rfl, HO3.out, hb1.trans hb3⟩

end Go.Proofs.YtjnbdeopoohnmaaDoor
