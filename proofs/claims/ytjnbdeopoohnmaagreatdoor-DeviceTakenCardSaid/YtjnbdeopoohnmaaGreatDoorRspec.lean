/- The plain law of reading fields: no program stands here. -/
import Derived.Test.YtjnbdeopoohnmaaGreatDoorVBspec
namespace Go.Proofs.YtjnbdeopoohnmaaGreatDoor

/-- what layer 1 has, if 'may' lets it: the value, how far, what was wrong first -/
def rraw (may : Nat → Bool) (l : List UInt8) (pos bad : Nat) : Nat × Nat × Nat :=
  if bad ≠ 0 then (0, pos, bad)
  else if (vtake (l.drop pos)).2.2 ≠ 0 then (0, pos, (vtake (l.drop pos)).2.2)
  else if may (vtake (l.drop pos)).1 then ((vtake (l.drop pos)).1, pos + (vtake (l.drop pos)).2.1, 0)
  else (0, pos, 3)

def mayN (most : Int) (n : Nat) : Bool := decide (n ≤ 4611686018427387904) && decide ((n : Int) ≤ most)
def mayS (most : Int) (n : Nat) : Bool := decide (-4611686018427387904 ≤ vback n) && decide (vback n ≤ 4611686018427387904) && decide (vback n ≤ most) && decide (-vback n ≤ most)
def rnum (most : Int) := rraw (mayN most)
def rsig (most : Int) := rraw (mayS most)
def rbyte (l : List UInt8) (pos bad : Nat) : UInt8 × Nat × Nat := if bad ≠ 0 then (0, pos, bad) else if pos = l.length then (0, pos, 10) else (l[pos]?.getD 0, pos + 1, 0)
def rbytes (most : Int) (l : List UInt8) (pos bad : Nat) : List UInt8 × Nat × Nat :=
  if (rnum most l pos bad).2.2 ≠ 0 then ([], (rnum most l pos bad).2)
  else if l.length - (rnum most l pos bad).2.1 < (rnum most l pos bad).1 then ([], (rnum most l pos bad).2.1, 10)
  else ((l.drop (rnum most l pos bad).2.1).take (rnum most l pos bad).1, (rnum most l pos bad).2.1 + (rnum most l pos bad).1, 0)
def rdone (l : List UInt8) (pos bad : Nat) : Nat := if bad = 0 ∧ pos < l.length then 13 else bad

theorem rraw_le (may : Nat → Bool) (l : List UInt8) (pos bad : Nat) (h : pos ≤ l.length) : (rraw may l pos bad).2.1 ≤ l.length ∧ (rraw may l pos bad).1 < 18446744073709551616 := by
  unfold rraw
  split
  · exact ⟨h, by simp⟩
  · split
    · exact ⟨h, by simp⟩
    · next hb hf =>
      split
      · obtain ⟨h1, h2, h3, _⟩ := vtake_good (l.drop pos) (by omega)
        simp only [List.length_drop] at *
        exact ⟨by omega, h1⟩
      · exact ⟨h, by simp⟩

theorem rraw_bad (may : Nat → Bool) (l : List UInt8) (pos bad : Nat) (h : (rraw may l pos bad).2.2 ≠ 0) : (rraw may l pos bad).1 = 0 ∧ (rraw may l pos bad).2.1 = pos := by
  unfold rraw at *
  split
  · simp
  · split
    · simp
    · next hb hf =>
      rw [if_neg hb, if_neg hf] at h
      split
      · next hm => rw [if_pos hm] at h; simp at h
      · simp

theorem rbytes_le (most : Int) (l : List UInt8) (pos bad : Nat) (h : pos ≤ l.length) : (rbytes most l pos bad).2.1 ≤ l.length := by
  have h1 := (rraw_le (mayN most) l pos bad h).1
  unfold rbytes
  split
  · exact h1
  · split
    · exact h1
    · next hb hf => unfold rnum at *; simp only at *; omega

theorem mayS_iff (most : Int) (n : Nat) : mayS most n = true ↔ -4611686018427387904 ≤ vback n ∧ vback n ≤ 4611686018427387904 ∧ vback n ≤ most ∧ -vback n ≤ most := by
  unfold mayS
  simp only [Bool.and_eq_true, decide_eq_true_eq, and_assoc]

theorem rnum_most (most : Int) (l : List UInt8) (pos bad : Nat) : (rnum most l pos bad).1 ≤ 4611686018427387904 ∧ ((rnum most l pos bad).2.2 = 0 → bad = 0 ∧ ((rnum most l pos bad).1 : Int) ≤ most) := by
  unfold rnum rraw
  split
  · next h => exact ⟨by simp, fun h2 => absurd h2 h⟩
  · next h =>
    split
    · next h3 => exact ⟨by simp, fun h2 => absurd h2 h3⟩
    · split
      · next h3 =>
        unfold mayN at h3
        simp only [Bool.and_eq_true, decide_eq_true_eq] at h3
        exact ⟨h3.1, fun _ => ⟨by omega, h3.2⟩⟩
      · exact ⟨by simp, fun h2 => by simp at h2⟩

theorem rsig_most (most : Int) (l : List UInt8) (pos bad : Nat) : (-4611686018427387904 ≤ vback (rsig most l pos bad).1 ∧ vback (rsig most l pos bad).1 ≤ 4611686018427387904) ∧ ((rsig most l pos bad).2.2 = 0 → bad = 0 ∧ -most ≤ vback (rsig most l pos bad).1 ∧ vback (rsig most l pos bad).1 ≤ most) := by
  have h0 : vback 0 = 0 := rfl
  unfold rsig rraw
  split
  · next h => exact ⟨by simp [h0], fun h2 => absurd h2 h⟩
  · next h =>
    split
    · next h3 => exact ⟨by simp [h0], fun h2 => absurd h2 h3⟩
    · split
      · next h3 =>
        unfold mayS at h3
        simp only [Bool.and_eq_true, decide_eq_true_eq] at h3
        dsimp only
        exact ⟨by omega, fun _ => ⟨by omega, by omega, by omega⟩⟩
      · exact ⟨by simp [h0], fun h2 => by simp at h2⟩

theorem drop_more {l a b : List UInt8} {pos : Nat} (h : l.drop pos = a ++ b) : l.drop (pos + a.length) = b := by
  rw [← List.drop_drop, h, List.drop_left]

theorem rnum_vput {most : Int} {l r : List UInt8} {pos n : Nat} (h : l.drop pos = vput n ++ r) (h1 : n ≤ 4611686018427387904) (h2 : (n : Int) ≤ most) : rnum most l pos 0 = (n, pos + (vput n).length, 0) := by
  unfold rnum rraw
  rw [if_neg (by simp), h, vtake_vput n (by omega), if_neg (by simp), if_pos (by unfold mayN; simp; omega)]

theorem rsig_vput {most : Int} {l r : List UInt8} {pos : Nat} {s : Int} (h : l.drop pos = vput (vturn s).toNat ++ r) (h1 : -4611686018427387904 ≤ s ∧ s ≤ 4611686018427387904) (h2 : -most ≤ s ∧ s ≤ most) : rsig most l pos 0 = ((vturn s).toNat, pos + (vput (vturn s).toNat).length, 0) := by
  have hb := vback_vturn s (by omega) (by omega)
  unfold rsig rraw
  rw [if_neg (by simp), h, vtake_vput _ (vturn_bound s (by omega) (by omega)), if_neg (by simp), if_pos ((mayS_iff _ _).2 (by simp only; rw [hb]; omega))]

end Go.Proofs.YtjnbdeopoohnmaaGreatDoor
