/- Layer 6 (trace): the chapter's example. -/
import Derived.Test.YticpmkdlnjnfgaaTrace2
namespace Go.Proofs.Yticpmkdlnjnfgaa
open Go.RowKit Go.Sort

def exL : List Smp := [⟨0, 0, 0⟩, ⟨1, 3, 1⟩, ⟨2, 3, 9⟩]
theorem exL_right : SRight exL := by
  intro i s hi
  match i, hi with
  | 0, hi => simp [exL] at hi; subst hi; exact ⟨by unfold SMay; decide, fun h => by omega⟩
  | 1, hi => simp [exL] at hi; subst hi; exact ⟨by unfold SMay; decide, fun _ p hp => by simp [exL] at hp; subst hp; decide⟩
  | 2, hi => simp [exL] at hi; subst hi; exact ⟨by unfold SMay; decide, fun _ p hp => by simp [exL] at hp; subst hp; decide⟩
  | i + 3, hi => simp [exL] at hi

theorem exL_len : slen 0 exL = 11 := by decide

set_option maxRecDepth 100000 in
theorem awake6 (w : World) : Calls Try.prog 44 #[] w fun e w' => e = .returned (.bool true) ∧ Below w.heap.size w w' := by
  have hl := Lib.hid (length_any _ exL _ (ss_lit w 32 #[.int .i64 0, .int .i64 0, .int .i64 0, .int .i64 1, .int .i64 3, .int .i64 1, .int .i64 2, .int .i64 3, .int .i64 9] exL 3 rfl (by simp [maxLen]) rfl) exL_right (by simp [exL]))
  rw [exL_len] at hl
  go_enter Try.func44, Try.ntmps44
  go_wp2_with fail
  refine hl.out.mono ?_
  rintro e w1 ⟨rfl, hb1⟩
  go_wp2
  go_ret
  exact ⟨rfl, ((Below.refl _ _).alloc (Nat.le_refl _) _).trans (hb1.mono (by simp))⟩

end Go.Proofs.Yticpmkdlnjnfgaa
