/- The plain law: what is put is taken, what is taken is put so, turns go back. No program stands here. -/
import Derived.Test.YtjnbdeopoohnmaaGreatDoorVarint
namespace Go.Proofs.YtjnbdeopoohnmaaGreatDoor

theorem vgo_vput (n : Nat) : ∀ (i m : Nat) (r : List UInt8), n * 128 ^ i < 18446744073709551616 → i ≤ 9 → (0 < n ∨ i = 0) →
    vgo (vput n ++ r) i m = (m + n * 128 ^ i, i + (vput n).length, 0) := by
  induction n using Nat.strongRecOn with
  | _ n ih =>
    intro i m r hb hi hz
    have h9 : i = 9 → n ≤ 1 := by
      rintro rfl
      have : (128 : Nat) ^ 9 = 9223372036854775808 := by decide
      rw [this] at hb
      omega
    by_cases hn : n < 128
    · rw [vput_small hn, List.singleton_append, vgo]
      have hc : (UInt8.ofNat n).toNat = n := by simp; omega
      rw [hc, if_neg (by omega), if_pos hn, if_neg (by omega), Nat.mod_eq_of_lt hn]
      rfl
    · rw [vput_big hn, List.cons_append, vgo]
      have hc : (UInt8.ofNat (128 + n % 128)).toNat = 128 + n % 128 := by simp; omega
      rw [hc, if_neg (by omega), if_neg (by omega), show (128 + n % 128) % 128 = n % 128 by omega]
      have hd : n / 128 * 128 ^ (i + 1) + n % 128 * 128 ^ i = n * 128 ^ i := by
        rw [Nat.pow_succ, Nat.mul_comm (128 ^ i) 128, ← Nat.mul_assoc, ← Nat.add_mul]
        congr 1
        omega
      rw [ih (n / 128) (by omega) (i + 1) _ r (by omega) (by omega) (by left; omega)]
      simp only [List.length_cons]
      refine Prod.ext ?_ (Prod.ext ?_ rfl)
      · show m + n % 128 * 128 ^ i + n / 128 * 128 ^ (i + 1) = m + n * 128 ^ i; omega
      · show i + 1 + (vput (n / 128)).length = i + ((vput (n / 128)).length + 1); omega

theorem vtake_vput (n : Nat) (h : n < 18446744073709551616) (r : List UInt8) : vtake (vput n ++ r) = (n, (vput n).length, 0) := by
  have := vgo_vput n 0 0 r (by simpa using h) (by omega) (.inr rfl)
  simpa [vtake] using this

theorem vgo_bad (l : List UInt8) : ∀ (i m : Nat), (vgo l i m).2.2 = 0 ∨ ((vgo l i m).1 = 0 ∧ (vgo l i m).2.1 = 0) := by
  induction l with
  | nil => intro i m; right; simp [vgo]
  | cons c r ih =>
    intro i m
    rw [vgo]
    by_cases h1 : i = 9 ∧ 1 < c.toNat
    · rw [if_pos h1]; right; simp
    · rw [if_neg h1]
      by_cases h2 : c.toNat < 128
      · rw [if_pos h2]
        by_cases h3 : c.toNat = 0 ∧ 0 < i
        · rw [if_pos h3]; right; simp
        · rw [if_neg h3]; left; rfl
      · rw [if_neg h2]; exact ih _ _

theorem vgo_good (l : List UInt8) : ∀ (i m : Nat), i ≤ 9 → (vgo l i m).2.2 = 0 →
    ∃ y, (vgo l i m).1 = m + y * 128 ^ i ∧ i < (vgo l i m).2.1 ∧ (vgo l i m).2.1 ≤ i + l.length ∧ vput y = l.take ((vgo l i m).2.1 - i) ∧ (y + 1) * 128 ^ i ≤ 18446744073709551616 ∧ (0 < y ∨ i = 0) := by
  induction l with
  | nil => intro i m _ h; simp [vgo] at h
  | cons c r ih =>
    intro i m hi
    rw [vgo]
    have hc := c.toNat_lt
    by_cases h1 : i = 9 ∧ 1 < c.toNat
    · rw [if_pos h1]; intro h; simp at h
    · rw [if_neg h1]
      by_cases h2 : c.toNat < 128
      · rw [if_pos h2]
        by_cases h3 : c.toNat = 0 ∧ 0 < i
        · rw [if_pos h3]; intro h; simp at h
        · rw [if_neg h3]
          intro _
          refine ⟨c.toNat, ?_, by show i < i + 1; omega, by simp, ?_, ?_, by omega⟩
          · show m + c.toNat % 128 * 128 ^ i = _
            rw [Nat.mod_eq_of_lt h2]
          · show _ = (c :: r).take (i + 1 - i)
            rw [show i + 1 - i = 1 by omega, vput_small h2]
            simp
          · have h4 := mul128_le c.toNat i hi (by omega)
            have h5 := pow128_le i hi
            rw [Nat.mod_eq_of_lt h2] at h4
            rw [Nat.succ_mul]
            omega
      · rw [if_neg h2]
        intro h
        have hi9 : i ≠ 9 := by omega
        obtain ⟨y, h3, h4, h5, h6, h7, h8⟩ := ih (i + 1) _ (by omega) h
        have hd : (c.toNat % 128 + 128 * y) * 128 ^ i = c.toNat % 128 * 128 ^ i + y * 128 ^ (i + 1) := by
          rw [Nat.add_mul, Nat.pow_succ, Nat.mul_comm 128 y, Nat.mul_assoc y 128, Nat.mul_comm (128 ^ i) 128]
        refine ⟨c.toNat % 128 + 128 * y, ?_, by omega, by simp only [List.length_cons]; omega, ?_, ?_, by omega⟩
        · rw [h3, hd]; omega
        · rw [vput_big (by omega), show (c.toNat % 128 + 128 * y) / 128 = y by omega, h6]
          have e : UInt8.ofNat (128 + (c.toNat % 128 + 128 * y) % 128) = c := by
            apply UInt8.toNat_inj.1
            simp
            omega
          rw [e]
          generalize (vgo r (i + 1) (m + c.toNat % 128 * 128 ^ i)).2.1 = k at *
          obtain ⟨j, rfl⟩ : ∃ j, k = i + 1 + j := ⟨k - (i + 1), by omega⟩
          rw [show i + 1 + j - (i + 1) = j by omega, show i + 1 + j - i = j + 1 by omega]
          simp
        · calc (c.toNat % 128 + 128 * y + 1) * 128 ^ i ≤ (128 * (y + 1)) * 128 ^ i := Nat.mul_le_mul_right _ (by omega)
            _ = (y + 1) * 128 ^ (i + 1) := by rw [Nat.pow_succ, Nat.mul_comm 128, Nat.mul_assoc, Nat.mul_comm 128]
            _ ≤ _ := h7

theorem vtake_good (l : List UInt8) (h : (vtake l).2.2 = 0) :
    (vtake l).1 < 18446744073709551616 ∧ 1 ≤ (vtake l).2.1 ∧ (vtake l).2.1 ≤ l.length ∧ vput (vtake l).1 = l.take (vtake l).2.1 := by
  obtain ⟨y, h1, h2, h3, h4, h5, _⟩ := vgo_good l 0 0 (by omega) h
  have e : (vtake l).1 = y := by unfold vtake; rw [h1]; simp
  rw [e]
  simp only [vtake, Nat.sub_zero, Nat.zero_add, Nat.pow_zero, Nat.mul_one] at *
  exact ⟨by omega, by omega, h3, h4⟩

theorem vtake_bad (l : List UInt8) (h : (vtake l).2.2 ≠ 0) : (vtake l).1 = 0 ∧ (vtake l).2.1 = 0 := (vgo_bad l 0 0).resolve_left h

theorem vback_vturn (s : Int) (_h1 : -9223372036854775808 ≤ s) (_h2 : s ≤ 9223372036854775807) : vback (vturn s).toNat = s := by
  unfold vback vturn
  split <;> split <;> omega

theorem vturn_vback (n : Nat) : vturn (vback n) = n := by
  unfold vback vturn
  split <;> split <;> omega

theorem vturn_range (s : Int) (h1 : -9223372036854775808 ≤ s) (h2 : s ≤ 9223372036854775807) : 0 ≤ vturn s ∧ vturn s < 18446744073709551616 := by
  unfold vturn
  split <;> omega

theorem vback_range (n : Nat) (h : n < 18446744073709551616) : -9223372036854775808 ≤ vback n ∧ vback n ≤ 9223372036854775807 := by
  unfold vback
  split <;> omega

theorem vturn_bound (n : Int) (h1 : -9223372036854775808 ≤ n) (h2 : n ≤ 9223372036854775807) : (vturn n).toNat < 18446744073709551616 := by
  unfold vturn
  split <;> omega

theorem back_int (n : Int) (h : 0 ≤ n ∧ n < 18446744073709551616) (w : World) :
    Calls Tryz.prog 106 #[.int .u64 n] w fun e w' => e = .returned (.int .i64 (vback n.toNat)) ∧ w = w' := by
  obtain ⟨m, rfl⟩ := Int.eq_ofNat_of_zero_le h.1
  exact back_any m (by omega) w

end Go.Proofs.YtjnbdeopoohnmaaGreatDoor
