/- Replies (layer 39): what they are, their bytes; walks of Right, Same of both, of the writing of both. -/
import Derived.Test.YticpmkdlnjnfgaaFrameWhole
import Derived.Test.YticpmkdlnjnfgaaRfield
import Derived.Lib.QuietBelow
import Derived.Deep.RegionHeld3
set_option linter.unusedSimpArgs false
namespace Go.Proofs.Yticpmkdlnjnfgaa
open Go.RowKit Go.Sort

structure Rep where
  e : Int
  n : Int
  m : Int
  t : List UInt8

/-- a reply's value -/
def Rep.agg (r : Rep) (v : Value) : Value := .agg #[.int .i64 r.e, .int .i64 r.n, .int .i64 r.m, v]
def RepWf (r : Rep) : Prop := (-9223372036854775808 ≤ r.e ∧ r.e ≤ 9223372036854775807) ∧ (-9223372036854775808 ≤ r.n ∧ r.n ≤ 9223372036854775807) ∧ (-9223372036854775808 ≤ r.m ∧ r.m ≤ 9223372036854775807)

def wiR (n : Int) : Bool := decide (-281474976710656 ≤ n) && decide (n ≤ 281474976710656)
theorem wiR_iff (n : Int) : wiR n = true ↔ -281474976710656 ≤ n ∧ n ≤ 281474976710656 := by simp [wiR]
theorem wiR_not (n : Int) : wiR n = false ↔ ¬ (-281474976710656 ≤ n ∧ n ≤ 281474976710656) := by rw [← wiR_iff]; simp
def RepOk (r : Rep) : Prop := 0 ≤ r.e ∧ r.e ≤ 99 ∧ (-281474976710656 ≤ r.n ∧ r.n ≤ 281474976710656) ∧ (-281474976710656 ≤ r.m ∧ r.m ≤ 281474976710656) ∧ r.t.length ≤ 1048576 ∧ (r.e = 0 ∨ (r.n = 0 ∧ r.m = 0 ∧ r.t.length = 0))
instance (r : Rep) : Decidable (RepOk r) := by unfold RepOk; infer_instance
def repOk (r : Rep) : Bool := decide (RepOk r)
theorem repOk_iff (r : Rep) : repOk r = true ↔ RepOk r := by simp [repOk]

theorem wi_any (n : Int) (w : World) : Calls Try.prog 83 #[.int .i64 n] w fun e w' => e = .returned (.bool (wiR n)) ∧ w = w' := by
  go_enter Try.func83, Try.ntmps83
  go_wp2
  all_goals
    go_ret
    refine ⟨ret_bool ?_, rfl⟩
    unfold wiR
    rw [Bool.eq_iff_iff]
    simp only [Bool.and_eq_true, decide_eq_true_eq, Bool.false_eq_true, false_iff]
    omega

theorem rwi_any (n : Int) (w : World) : Calls Try.prog 84 #[.int .i64 n] w fun e w' => e = .returned (.bool (wiR n)) ∧ w = w' := by
  go_enter Try.func84, Try.ntmps84
  go_wp2
  all_goals
    go_ret
    refine ⟨ret_bool ?_, rfl⟩
    unfold wiR
    rw [Bool.eq_iff_iff]
    simp only [Bool.and_eq_true, decide_eq_true_eq, Bool.false_eq_true, false_iff]
    omega

set_option maxHeartbeats 1600000 in
theorem repRight_any (r : Rep) (v : Value) (w : World) (hv : Bs w v r.t) : Calls Try.prog 38 #[r.agg v] w fun e w' => e = .returned (.bool (repOk r)) ∧ Below w.heap.size w w' := by
  obtain ⟨a, c, hs⟩ := hv.shape
  subst hs
  have hrb := Lib.hid (repOk_iff r)
  unfold Rep.agg
  go_enter Try.func38, Try.ntmps38
  go_wp2_with (go_at_call 83; refine (wi_any _ _).mono ?_; rintro e w1 ⟨rfl, rfl⟩)
  all_goals
    go_ret
    refine ⟨ret_bool ?_, (Below.refl _ _).alloc (Nat.le_refl _) _⟩
    rw [Bool.eq_iff_iff, hrb.out]
    unfold RepOk
    simp only [wiR_iff, wiR_not, bne_eq_false_iff_eq, beq_eq_false_iff_ne, bne_iff_ne, ne_eq, beq_iff_eq, decide_eq_true_eq, Bool.false_eq_true, false_iff, true_iff, iff_true, iff_false, Bool.not_eq_true, Bool.and_eq_true, Bool.or_eq_true] at *
    first | omega | (have ht : ∀ l : List UInt8, l = [] ↔ l.length = 0 := fun l => List.length_eq_zero_iff.symm; simp only [ht] at *; omega)

set_option maxHeartbeats 1600000 in
theorem rrepRight_any (r : Rep) (v : Value) (w : World) (hv : Bs w v r.t) : Calls Try.prog 39 #[r.agg v] w fun e w' => e = .returned (.bool (repOk r)) ∧ Below w.heap.size w w' := by
  obtain ⟨a, c, hs⟩ := hv.shape
  subst hs
  have hrb := Lib.hid (repOk_iff r)
  unfold Rep.agg
  go_enter Try.func39, Try.ntmps39
  go_wp2_with (go_at_call 84; refine (rwi_any _ _).mono ?_; rintro e w1 ⟨rfl, rfl⟩)
  all_goals
    go_ret
    refine ⟨ret_bool ?_, (Below.refl _ _).alloc (Nat.le_refl _) _⟩
    rw [Bool.eq_iff_iff, hrb.out]
    unfold RepOk
    simp only [wiR_iff, wiR_not, bne_eq_false_iff_eq, beq_eq_false_iff_ne, bne_iff_ne, ne_eq, beq_iff_eq, decide_eq_true_eq, Bool.false_eq_true, false_iff, true_iff, iff_true, iff_false, Bool.not_eq_true, Bool.and_eq_true, Bool.or_eq_true] at *
    first | omega | (have ht : ∀ l : List UInt8, l = [] ↔ l.length = 0 := fun l => List.length_eq_zero_iff.symm; simp only [ht] at *; omega)

def repSame (a b : Rep) : Bool := (a.e == b.e) && (a.n == b.n) && (a.m == b.m) && (a.t == b.t)

set_option maxHeartbeats 800000 in
theorem repSame_any (a b : Rep) (va vb : Value) (w : World) (ha : Bs w va a.t) (hb : Bs w vb b.t) : Calls Try.prog 43 #[a.agg va, b.agg vb] w fun e w' => e = .returned (.bool (repSame a b)) ∧ Below w.heap.size w w' := by
  obtain ⟨x, c, hs⟩ := ha.shape
  subst hs
  obtain ⟨y, d, hs⟩ := hb.shape
  subst hs
  obtain ⟨b0, h0⟩ : ∃ z, (a.e == b.e) = z := ⟨_, rfl⟩
  obtain ⟨b1, h1⟩ : ∃ z, (a.n == b.n) = z := ⟨_, rfl⟩
  obtain ⟨b2, h2⟩ : ∃ z, (a.m == b.m) = z := ⟨_, rfl⟩
  have HS : Hid (repSame a b = (b0 && b1 && b2 && (a.t == b.t))) := by show _ = _; unfold repSame; rw [h0, h1, h2]
  have hbl : Below w.heap.size w ((w.alloc (.cells #[.int .i64 a.e, .int .i64 a.n, .int .i64 a.m, .slice x a.t.length c] 59)).alloc (.cells #[.int .i64 b.e, .int .i64 b.n, .int .i64 b.m, .slice y b.t.length d] 59)) := ((Below.refl _ _).alloc (Nat.le_refl _) _).alloc (by simp) _
  unfold Rep.agg
  cases b0 <;> cases b1 <;> cases b2
  all_goals
    go_enter Try.func43, Try.ntmps43
    go_wp2_with fail
    first
      | (go_ret; exact ⟨ret_bool (by rw [HS.out]; rfl), hbl⟩)
      | (refine (equal_any _ _ _ _ _ (ha.below hbl) (hb.below hbl)).mono ?_
         rintro e w1 ⟨rfl, rfl⟩
         go_wp2
         go_ret
         exact ⟨ret_bool (by rw [HS.out]; simp), hbl⟩)

set_option maxHeartbeats 800000 in
theorem rrepSame_any (a b : Rep) (va vb : Value) (w : World) (ha : Bs w va a.t) (hb : Bs w vb b.t) : Calls Try.prog 42 #[a.agg va, b.agg vb] w fun e w' => e = .returned (.bool (repSame a b)) ∧ Below w.heap.size w w' := by
  obtain ⟨x, c, hs⟩ := ha.shape
  subst hs
  obtain ⟨y, d, hs⟩ := hb.shape
  subst hs
  obtain ⟨b0, h0⟩ : ∃ z, (a.e == b.e) = z := ⟨_, rfl⟩
  obtain ⟨b1, h1⟩ : ∃ z, (a.n == b.n) = z := ⟨_, rfl⟩
  obtain ⟨b2, h2⟩ : ∃ z, (a.m == b.m) = z := ⟨_, rfl⟩
  have HS : Hid (repSame a b = (b0 && b1 && b2 && (a.t == b.t))) := by show _ = _; unfold repSame; rw [h0, h1, h2]
  have hbl : Below w.heap.size w ((w.alloc (.cells #[.int .i64 a.e, .int .i64 a.n, .int .i64 a.m, .slice x a.t.length c] 59)).alloc (.cells #[.int .i64 b.e, .int .i64 b.n, .int .i64 b.m, .slice y b.t.length d] 59)) := ((Below.refl _ _).alloc (Nat.le_refl _) _).alloc (by simp) _
  unfold Rep.agg
  cases b0 <;> cases b1 <;> cases b2
  all_goals
    go_enter Try.func42, Try.ntmps42
    go_wp2_with fail
    first
      | (go_ret; exact ⟨ret_bool (by rw [HS.out]; rfl), hbl⟩)
      | (refine (same_any _ _ _ _ _ (ha.below hbl) (hb.below hbl)).mono ?_
         rintro e w1 ⟨rfl, hb1⟩
         go_wp2
         go_ret
         exact ⟨ret_bool (by rw [HS.out]; simp), hbl.trans (hb1.mono hbl.size)⟩)

end Go.Proofs.Yticpmkdlnjnfgaa
