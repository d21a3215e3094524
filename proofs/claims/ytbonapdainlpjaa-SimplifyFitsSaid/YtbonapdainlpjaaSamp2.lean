/- Walks of May and of the iterator of layer 5 (sample). -/
import Derived.Test.YtbonapdainlpjaaSamp0
import Derived.Test.YtbonapdainlpjaaSmp0
import Derived.Test.YtbonapdainlpjaaBase
import Derived.RangeFuncNested
import Derived.RangeFuncBound
import Derived.RangeFuncCalls
import Derived.RangeFuncLeaves
import Derived.Shelf.Abstract
import Derived.Shelf.RegionOpen
import Derived.OwnWalkIn
import Derived.TacticsInMore
import Derived.LoopNIn
import Derived.LoopIn
namespace Go.Proofs.Ytbonapdainlpjaa
open Go.RowKit Go.Shelf
attribute [local go_sem] Oper.semAt_some

def withinB (n m : Int) : Bool := decide (0 ≤ n) && decide (n ≤ m)

theorem within_any (n m : Int) (w : World) : Calls Try.prog 113 #[.int .i64 n, .int .i64 m] w fun e w' => e = .returned (.bool (withinB n m)) ∧ w = w' := by
  go_enter Try.func113, Try.ntmps113
  go_wp2
  all_goals
    go_ret
    refine ⟨ret_bool ?_, rfl⟩
    unfold withinB
    rw [Bool.eq_iff_iff]
    simp only [Bool.and_eq_true, decide_eq_true_eq, Bool.false_eq_true, false_iff]
    omega

theorem within_is (n m : Int) (b : Bool) (h : withinB n m = b) (w : World) : Calls Try.prog 113 #[.int .i64 n, .int .i64 m] w fun e w' => e = .returned (.bool b) ∧ w = w' := by
  subst h
  exact within_any n m w

theorem smay_any (s : Smp) (w : World) : Calls Try.prog 84 #[.agg #[.int .i64 s.t, .int .i64 s.x, .int .i64 s.y]] w fun e w' => e = .returned (.bool (mayB s)) ∧ Below w.heap.size w w' := by
  obtain ⟨t, x, y⟩ := s
  obtain ⟨b1, h1⟩ : ∃ b, withinB t 1099511627776 = b := ⟨_, rfl⟩
  obtain ⟨b2, h2⟩ : ∃ b, withinB x 67108863 = b := ⟨_, rfl⟩
  obtain ⟨b3, h3⟩ : ∃ b, withinB y 67108863 = b := ⟨_, rfl⟩
  have hm : mayB ⟨t, x, y⟩ = (b1 && b2 && b3) := by
    subst h1 h2 h3
    rw [Bool.eq_iff_iff, mayB_iff]
    unfold SMay withinB
    simp only [Bool.and_eq_true, decide_eq_true_eq]
    omega
  have HM := Lib.hid hm
  have H1 := Lib.hid h1
  have H2 := Lib.hid h2
  have H3 := Lib.hid h3
  clear hm h1 h2 h3
  cases b1
  · go_enter Try.func84, Try.ntmps84
    go_wp2_with fail
    refine (within_is _ _ _ H1.out _).mono ?_
    rintro e w1 ⟨rfl, rfl⟩
    go_wp2
    go_ret
    exact ⟨ret_bool (by rw [HM.out]; rfl), (Below.refl _ _).alloc (Nat.le_refl _) _⟩
  · cases b2
    · go_enter Try.func84, Try.ntmps84
      go_wp2_with fail
      refine (within_is _ _ _ H1.out _).mono ?_
      rintro e w1 ⟨rfl, rfl⟩
      go_wp2_with fail
      refine (within_is _ _ _ H2.out _).mono ?_
      rintro e w1 ⟨rfl, rfl⟩
      go_wp2
      go_ret
      exact ⟨ret_bool (by rw [HM.out]; rfl), (Below.refl _ _).alloc (Nat.le_refl _) _⟩
    · go_enter Try.func84, Try.ntmps84
      go_wp2_with fail
      refine (within_is _ _ _ H1.out _).mono ?_
      rintro e w1 ⟨rfl, rfl⟩
      go_wp2_with fail
      refine (within_is _ _ _ H2.out _).mono ?_
      rintro e w1 ⟨rfl, rfl⟩
      go_wp2_with fail
      refine (within_is _ _ _ H3.out _).mono ?_
      rintro e w1 ⟨rfl, rfl⟩
      go_wp2
      go_ret
      exact ⟨ret_bool (by rw [HM.out]; rfl), (Below.refl _ _).alloc (Nat.le_refl _) _⟩

theorem smay_is (s : Smp) (b : Bool) (h : mayB s = b) (w : World) : Calls Try.prog 84 #[.agg #[.int .i64 s.t, .int .i64 s.x, .int .i64 s.y]] w fun e w' => e = .returned (.bool b) ∧ Below w.heap.size w w' := by
  subst h
  exact smay_any s w

def Smp.agg (s : Smp) : Value := .agg #[.int .i64 s.t, .int .i64 s.x, .int .i64 s.y]

end Go.Proofs.Ytbonapdainlpjaa
