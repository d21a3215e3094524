/- The statements of layer 1: numbers as bytes, and back. -/
import Derived.Test.YtkgfcaoeldfbdaaVTake
namespace Go.Proofs.Ytkgfcaoeldfbdaa
open Go.RowKit

theorem vput_300 : vput 300 = [172, 2] := by rw [vput_big (by omega), vput_small (by omega)]; rfl

set_option maxRecDepth 100000 in
theorem awake1 (w : World) : Calls Try.prog 15 #[] w fun e w' => e = .returned (.bool true) ∧ Below w.heap.size w w' := by
  go_enter Try.func15, Try.ntmps15
  go_wp2_with fail
  refine (put_int 300 (by omega) (by omega) _).mono ?_
  rintro e w1 ⟨v, rfl, ho, hb⟩
  have hbs := ho.bs
  rw [show (300 : Int).toNat = 300 from rfl, vput_300] at hbs
  clear ho
  obtain ⟨a, ca, adr, rfl, ha1, ha2, ha3, ha4, ha5⟩ := Bs.open_n elB hbs 2 rfl
  have c0 : w1.cell? (adr 0) = some (.int .u8 172) := ha5 0 172 rfl
  have c1 : w1.cell? (adr 1) = some (.int .u8 2) := ha5 1 2 rfl
  clear hbs ha4 ha5
  go_wp2_with (go_at_call 19; refine (turn_any _ (by omega) (by omega) _).mono ?_; rintro e w2 ⟨rfl, rfl⟩)
  go_ret
  exact ⟨rfl, hb⟩


theorem beq_self_true (l : List UInt8) : (l == l) = true := by simp

set_option maxRecDepth 100000 in
theorem puts (n s : Int) (w : World) (h0 : 0 ≤ n ∧ n < 18446744073709551616) (h1 : -9223372036854775808 ≤ s ∧ s ≤ 9223372036854775807) :
    Calls Try.prog 3 #[.int .u64 n, .int .i64 s] w fun e w' => e = .returned (.bool true) ∧ Below w.heap.size w w' := by
  go_enter Try.func3, Try.ntmps3
  go_wp2_with fail
  refine (awake1 _).mono ?_
  rintro e w1 ⟨rfl, hb1⟩
  go_wp2_with fail
  refine (put_int n h0.1 h0.2 _).mono ?_
  rintro e w2 ⟨v1, rfl, ho1, hb2⟩
  go_wp2_with fail
  refine (rput_int n h0.1 h0.2 _).mono ?_
  rintro e w3 ⟨v2, rfl, ho2, hb3⟩
  go_wp2_with fail
  refine (same_any _ _ _ _ _ (ho1.bs.below hb3) ho2.bs).mono ?_
  rintro e w4 ⟨rfl, hb4⟩
  rw [beq_self_true]
  go_wp2_with (first | (go_at_call 19; refine (turn_any _ h1.1 h1.2 _).mono ?_; rintro e w5 ⟨rfl, rfl⟩) | (go_at_call 20; refine (rturn_any _ h1.1 h1.2 _).mono ?_; rintro e w5 ⟨rfl, rfl⟩))
  go_ret
  exact ⟨rfl, ((hb1.trans (hb2.mono hb1.size)).trans (hb3.mono (by have := hb1.size; have := hb2.size; omega))).trans (hb4.mono (by have := hb1.size; have := hb2.size; have := hb3.size; omega))⟩

set_option maxRecDepth 100000 in
theorem takes (vb : Value) (l : List UInt8) (w : World) (hb : Bs w vb l) :
    Calls Try.prog 4 #[vb] w fun e w' => e = .returned (.bool true) ∧ Below w.heap.size w w' := by
  go_enter Try.func4, Try.ntmps4
  go_wp2_with fail
  refine (awake1 _).mono ?_
  rintro e w1 ⟨rfl, hb1⟩
  go_wp2_with fail
  refine (take_any _ l _ (hb.below hb1)).mono ?_
  rintro e w2 ⟨rfl, hb2⟩
  go_wp2_with fail
  refine (rtake_any _ l _ ((hb.below hb1).below hb2)).mono ?_
  rintro e w3 ⟨rfl, hb3⟩
  go_wp2
  go_ret
  refine ⟨ret_bool (by simp), (hb1.trans (hb2.mono hb1.size)).trans (hb3.mono (by have := hb1.size; have := hb2.size; omega))⟩

end Go.Proofs.Ytkgfcaoeldfbdaa
