/- The walk of the statement VarintBack. -/
import Derived.Test.YtkgfcaoeldfbdaaVBspec
import Derived.Test.YtkgfcaoeldfbdaaVarintLaws
import Derived.Deep.RegionHeld3
namespace Go.Proofs.Ytkgfcaoeldfbdaa
open Go.RowKit

theorem ob_made (w : World) (e : Nat) : Ob (w.alloc (.cells #[] e)) w.heap.size e (.slice (some ⟨w.heap.size, 0, none⟩) 0 0) [] :=
  World.ownsRow_made w #[] 0 (Nat.le_refl _) (by simp [maxLen]) (by simp)

theorem back_int (n : Int) (h : 0 ≤ n ∧ n < 18446744073709551616) (w : World) :
    Calls Try.prog 23 #[.int .u64 n] w fun e w' => e = .returned (.int .i64 (vback n.toNat)) ∧ w = w' := by
  obtain ⟨m, rfl⟩ := Int.eq_ofNat_of_zero_le h.1
  exact back_any m (by omega) w

set_option maxRecDepth 100000 in
set_option maxHeartbeats 400000 in
theorem vback_nat (n : Nat) (s : Int) (vb : Value) (l : List UInt8) (w : World) (h0 : n < 18446744073709551616) (h1 : -9223372036854775808 ≤ s ∧ s ≤ 9223372036854775807) (hb : Bs w vb l) :
    Calls Try.prog 5 #[.int .u64 n, .int .i64 s, vb] w fun e w' => e = .returned (.bool true) ∧ Below w.heap.size w w' := by
  obtain ⟨a, ca, adr, rfl, ha1, ha2, ha3, ha4, ha5⟩ := Bs.open_ elB hb
  clear ha4 ha5 ha3
  by_cases hl : l.length ≤ 2000
  · go_enter Try.func5, Try.ntmps5
    go_wp2_with fail
    refine (awake1 _).mono ?_
    rintro e w1 ⟨rfl, hb1⟩
    go_wp2_with fail
    refine (put_any n h0 _).mono ?_
    rintro e w2 ⟨v1, rfl, ho1, hb2⟩
    have hv1 := ho1.bs
    have hlen : (vput n).length ≤ 10 := vput_len10 _ (by omega)
    clear ho1
    have hb' := (hb.below hb1).below hb2
    obtain ⟨a1, c1, adr1, rfl, _, _, _, _, _⟩ := Bs.open_ elB hv1
    have hw2 := hb1.trans (hb2.mono hb1.size)
    go_wp2_with (first | (at_builtin; refine wpList_append_bytes (ob_made w2 _) (hv1.alloc _) elB (by simp; omega) (by simp; omega) (by simp) ?_ _ _ rfl rfl rfl rfl; intro v3 w3 ho3 hg3 hb3 _; have hbs3 := hb'.below (((Below.refl _ _).alloc (Nat.le_refl _) _).trans hb3); have hsz3 := hb3.size) | (at_builtin; go_must (refine wpList_append_bytes ho3 hbs3 elB (by simp; omega) (by simp; omega) (by simp at hsz3; omega) ?_ _ _ rfl rfl rfl rfl); intro v4 w4 ho4 hg4 hb4 _))
    have hw4 : Below w.heap.size w w4 := hw2.trans ((((Below.refl _ _).alloc (Nat.le_refl _) _).trans (hb3.trans hb4)).mono hw2.size)
    have ht := take_any _ _ _ ho4.bs
    rw [List.nil_append, vtake_vput _ h0] at ht
    refine ht.mono ?_
    rintro e w5 ⟨rfl, hb5⟩
    have hw5 := hw4.trans (hb5.mono hw4.size)
    have hx := vback_vturn s h1.1 h1.2
    have hy := vturn_vback n
    have hr1 := vturn_range s h1.1 h1.2
    have hr2 := vback_range n h0
    have HX := Lib.hid hx
    have HY := Lib.hid hy
    clear hx hy ht
    go_wp2_with fail
    refine (turn_any _ h1.1 h1.2 _).mono ?_
    rintro e w6 ⟨rfl, rfl⟩
    go_wp2_with fail
    refine (back_int _ hr1 _).mono ?_
    rintro e w6 ⟨rfl, rfl⟩
    rw [HX.out]
    go_wp2_with fail
    refine (back_any n h0 _).mono ?_
    rintro e w6 ⟨rfl, rfl⟩
    go_wp2_with fail
    refine (turn_any _ hr2.1 hr2.2 _).mono ?_
    rintro e w6 ⟨rfl, rfl⟩
    rw [HY.out]
    go_wp2_with fail
    obtain ⟨x, k, f, hv⟩ : ∃ x k f, vtake l = (x, k, f) := ⟨_, _, _, rfl⟩
    have ht := take_any _ _ _ (hb.below hw5)
    rw [hv] at ht
    refine ht.mono ?_
    rintro e w6 ⟨rfl, hb6⟩
    have hw6 := hw5.trans (hb6.mono hw5.size)
    have hgood := vtake_good l
    have hbad := vtake_bad l
    rw [hv] at hgood hbad
    have HG := Lib.hid hgood
    have HB := Lib.hid hbad
    clear ht hv hgood hbad
    by_cases hf : f = 0
    · obtain ⟨hx, hk1, hk2, hput⟩ := HG.out hf
      have HP := Lib.hid hput
      clear HG HB hput
      subst hf
      simp only at hx hk1 hk2 HP
      have d1 : decide ((1 : Int) ≤ k) = true := by simp; omega
      have d2 : decide ((k : Int) ≤ l.length) = true := by simp; omega
      have d3 : (k : Int) ≤ ca := by omega
      have d4 : (0 : Int) ≤ k := by omega
      have hb'' := ((hb.take k hk2).below hw6).drew
      go_wp2_with fail
      go_region_held3 (fun _ => True) (exact trivial) (first | (go_at_call 17; refine (put_any x hx _).mono ?_; rintro e w7 ⟨v7, rfl, ho7, hb7⟩) | (go_at_call 16; refine (same_any _ _ _ _ _ ho7.bs (hb''.below hb7)).mono ?_; rintro e w8 ⟨rfl, hb8⟩))
      go_wp2
      go_ret
      have e7 : w6.heap.size ≤ w7.heap.size := hb7.size
      exact ⟨ret_bool (by rw [HP.out]; simp), (hw6.drew.trans (hb7.mono hw6.size)).trans (hb8.mono (by have := hw6.size; omega))⟩
    · have hf' : ((f : Int) != 0) = true := by simp; omega
      have hxk := HB.out hf
      simp only at hxk
      obtain ⟨rfl, rfl⟩ := hxk
      go_wp2
      go_ret
      exact ⟨rfl, hw6⟩
  · have hl' : (2000 : Int) < l.length := by omega
    go_enter Try.func5, Try.ntmps5
    go_wp2_with fail
    refine (awake1 _).mono ?_
    rintro e w1 ⟨rfl, hb1⟩
    go_wp2
    go_ret
    exact ⟨rfl, hb1⟩


theorem vback_walk (n s : Int) (vb : Value) (l : List UInt8) (w : World) (h0 : 0 ≤ n ∧ n < 18446744073709551616) (h1 : -9223372036854775808 ≤ s ∧ s ≤ 9223372036854775807) (hb : Bs w vb l) :
    Calls Try.prog 5 #[.int .u64 n, .int .i64 s, vb] w fun e w' => e = .returned (.bool true) ∧ Below w.heap.size w w' := by
  obtain ⟨m, rfl⟩ := Int.eq_ofNat_of_zero_le h0.1
  exact vback_nat m s vb l w (by omega) h1 hb

end Go.Proofs.Ytkgfcaoeldfbdaa
