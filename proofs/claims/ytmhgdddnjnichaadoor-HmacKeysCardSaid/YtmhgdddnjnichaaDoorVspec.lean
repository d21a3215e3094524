/- The plain law of numbers as bytes: no program stands here. -/
namespace Go.Proofs.YtmhgdddnjnichaaDoor

def vput (n : Nat) : List UInt8 := if n < 128 then [UInt8.ofNat n] else UInt8.ofNat (128 + n % 128) :: vput (n / 128)
termination_by n
decreasing_by omega

theorem vput_small {n : Nat} (h : n < 128) : vput n = [UInt8.ofNat n] := by rw [vput, if_pos h]
theorem vput_big {n : Nat} (h : ¬ n < 128) : vput n = UInt8.ofNat (128 + n % 128) :: vput (n / 128) := by rw [vput, if_neg h]

theorem vput_len (k : Nat) : ∀ n : Nat, n < 128 ^ (k + 1) → (vput n).length ≤ k + 1 := by
  induction k with
  | zero => intro n h; rw [vput_small (by omega)]; simp
  | succ k ih =>
    intro n h
    by_cases hn : n < 128
    · rw [vput_small hn]; simp
    · rw [vput_big hn]
      have := ih (n / 128) (by rw [Nat.div_lt_iff_lt_mul (by omega)]; rw [Nat.pow_succ] at h; exact h)
      simp; omega

theorem vput_len10 (n : Nat) (h : n < 18446744073709551616) : (vput n).length ≤ 10 := vput_len 9 n (by omega)
theorem vput_pos (n : Nat) : 1 ≤ (vput n).length := by
  by_cases h : n < 128
  · rw [vput_small h]; simp
  · rw [vput_big h]; simp


def vgo : List UInt8 → Nat → Nat → Nat × Nat × Nat
  | [], _, _ => (0, 0, 10)
  | c :: r, i, n =>
    if i = 9 ∧ 1 < c.toNat then (0, 0, 11)
    else if c.toNat < 128 then (if c.toNat = 0 ∧ 0 < i then (0, 0, 11) else (n + c.toNat % 128 * 128 ^ i, i + 1, 0))
    else vgo r (i + 1) (n + c.toNat % 128 * 128 ^ i)

/-- The number that bytes begin with, how many bytes it has, the error's number. -/
def vtake (l : List UInt8) : Nat × Nat × Nat := vgo l 0 0

theorem pow128_le (k : Nat) (h : k ≤ 9) : 1 ≤ 128 ^ k ∧ 128 ^ k ≤ 9223372036854775808 := by
  refine ⟨Nat.one_le_pow _ _ (by omega), ?_⟩
  calc 128 ^ k ≤ 128 ^ 9 := Nat.pow_le_pow_right (by omega) h
    _ = 9223372036854775808 := by decide

theorem mul128_le (c k : Nat) (h : k ≤ 9) (h9 : k = 9 → c ≤ 1) : c % 128 * 128 ^ k ≤ 9223372036854775808 ∧ (k < 9 → c % 128 * 128 ^ k + 128 ^ k ≤ 128 ^ (k + 1)) := by
  have h1 := pow128_le k h
  by_cases h8 : k = 9
  · subst h8
    have := h9 rfl
    refine ⟨?_, fun h => by omega⟩
    have : c % 128 ≤ 1 := by omega
    calc c % 128 * 128 ^ 9 ≤ 1 * 128 ^ 9 := Nat.mul_le_mul_right _ this
      _ = 9223372036854775808 := by decide
  · have h2 := pow128_le (k + 1) (by omega)
    have h3 : c % 128 * 128 ^ k + 128 ^ k ≤ 128 ^ (k + 1) := by
      have : c % 128 + 1 ≤ 128 := by omega
      calc c % 128 * 128 ^ k + 128 ^ k = (c % 128 + 1) * 128 ^ k := by rw [Nat.succ_mul]
        _ ≤ 128 * 128 ^ k := Nat.mul_le_mul_right _ this
        _ = 128 ^ (k + 1) := by rw [Nat.pow_succ, Nat.mul_comm]
    exact ⟨by omega, fun _ => h3⟩

end Go.Proofs.YtmhgdddnjnichaaDoor
