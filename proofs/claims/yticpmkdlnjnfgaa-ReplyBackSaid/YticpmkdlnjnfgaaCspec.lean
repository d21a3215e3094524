/- The plain law of the checksum (layer 2). No program stands here. -/
namespace Go.Proofs.Yticpmkdlnjnfgaa

def cpoly : Nat := 3988292384

/-- one bit of the register, without an input -/
def cstep (n : Nat) : Nat := if n % 2 = 1 then n / 2 ^^^ cpoly else n / 2

theorem nxor_comm4 (a b c d : Nat) : (a ^^^ b) ^^^ (c ^^^ d) = (a ^^^ c) ^^^ (b ^^^ d) := by
  rw [Nat.xor_assoc, Nat.xor_assoc, ← Nat.xor_assoc b c d, Nat.xor_comm b c, Nat.xor_assoc c b d]

theorem cstep_xor (a b : Nat) : cstep (a ^^^ b) = cstep a ^^^ cstep b := by
  have h := @Nat.xor_mod_two_eq_one a b
  unfold cstep
  rw [Nat.xor_div_two]
  by_cases ha : a % 2 = 1 <;> by_cases hb : b % 2 = 1
  · rw [if_neg (by rw [h]; simp [ha, hb]), if_pos ha, if_pos hb, nxor_comm4, Nat.xor_self, Nat.xor_zero]
  · rw [if_pos (by rw [h]; simp [ha, hb]), if_pos ha, if_neg hb, Nat.xor_assoc, Nat.xor_assoc, Nat.xor_comm (b / 2)]
  · rw [if_pos (by rw [h]; simp [ha, hb]), if_neg ha, if_pos hb, Nat.xor_assoc]
  · rw [if_neg (by rw [h]; simp [ha, hb]), if_neg ha, if_neg hb]

theorem cstep_even (a : Nat) (h : a % 2 = 0) : cstep a = a / 2 := by unfold cstep; rw [if_neg (by omega)]

theorem xor_lt32 {a b : Nat} (ha : a < 4294967296) (hb : b < 4294967296) : a ^^^ b < 4294967296 := Nat.xor_lt_two_pow (n := 32) ha hb

theorem cstep_lt (a : Nat) (h : a < 4294967296) : cstep a < 4294967296 := by
  unfold cstep
  split
  · exact xor_lt32 (by omega) (by decide)
  · omega

theorem cstep_zero (d : Nat) (hd : d < 4294967296) (h : cstep d = 0) : d = 0 := by
  unfold cstep at h
  split at h
  · have e : d / 2 = cpoly := by
      have h1 : (d / 2 ^^^ cpoly) ^^^ cpoly = 0 ^^^ cpoly := by rw [h]
      rw [Nat.xor_assoc, Nat.xor_self, Nat.xor_zero, Nat.zero_xor] at h1
      exact h1
    unfold cpoly at e
    omega
  · omega

theorem xor_eq_zero {a b : Nat} (h : a ^^^ b = 0) : a = b := by
  have h1 : (a ^^^ b) ^^^ b = 0 ^^^ b := by rw [h]
  rwa [Nat.xor_assoc, Nat.xor_self, Nat.xor_zero, Nat.zero_xor] at h1

theorem cstep_inj (a b : Nat) (ha : a < 4294967296) (hb : b < 4294967296) (h : cstep a = cstep b) : a = b := by
  apply xor_eq_zero
  apply cstep_zero _ (xor_lt32 ha hb)
  rw [cstep_xor, h, Nat.xor_self]

def citer : Nat → Nat → Nat
  | 0, n => n
  | k + 1, n => citer k (cstep n)

theorem citer_xor (k : Nat) : ∀ a b, citer k (a ^^^ b) = citer k a ^^^ citer k b := by
  induction k with
  | zero => intro a b; rfl
  | succ k ih => intro a b; simp only [citer]; rw [cstep_xor, ih]

theorem citer_lt (k : Nat) : ∀ a, a < 4294967296 → citer k a < 4294967296 := by
  induction k with
  | zero => intro a h; exact h
  | succ k ih => intro a h; exact ih _ (cstep_lt a h)

theorem citer_inj (k : Nat) : ∀ a b, a < 4294967296 → b < 4294967296 → citer k a = citer k b → a = b := by
  induction k with
  | zero => intro a b _ _ h; exact h
  | succ k ih => intro a b ha hb h; exact cstep_inj a b ha hb (ih _ _ (cstep_lt a ha) (cstep_lt b hb) h)

theorem citer_add (j k : Nat) : ∀ a, citer (j + k) a = citer k (citer j a) := by
  induction j with
  | zero => intro a; rw [Nat.zero_add]; rfl
  | succ j ih => intro a; rw [Nat.succ_add]; exact ih _

theorem citer_mul (k : Nat) : ∀ q, citer k (2 ^ k * q) = q := by
  induction k with
  | zero => intro q; simp [citer]
  | succ k ih =>
    intro q
    have h1 : (2 ^ (k + 1) * q) % 2 = 0 := by
      rw [Nat.pow_succ, Nat.mul_comm (2 ^ k) 2, Nat.mul_assoc]; omega
    have h2 : 2 ^ (k + 1) * q / 2 = 2 ^ k * q := by
      rw [Nat.pow_succ, Nat.mul_comm (2 ^ k) 2, Nat.mul_assoc]; omega
    simp only [citer]
    rw [cstep_even _ h1, h2, ih]

/-- the table's entry -/
def ctab (i : Nat) : Nat := citer 4 i

theorem split_xor (k c : Nat) : c = (2 ^ k * (c / 2 ^ k)) ^^^ (c % 2 ^ k) := by
  have h : 2 ^ k * (c / 2 ^ k) ||| c % 2 ^ k = 2 ^ k * (c / 2 ^ k) + c % 2 ^ k := by
    have := Nat.two_pow_add_eq_or_of_lt (Nat.mod_lt c (Nat.two_pow_pos k)) (c / 2 ^ k)
    omega
  have h2 : 2 ^ k * (c / 2 ^ k) ^^^ c % 2 ^ k = 2 ^ k * (c / 2 ^ k) ||| c % 2 ^ k := by
    apply Nat.eq_of_testBit_eq
    intro i
    rw [Nat.testBit_xor, Nat.testBit_or, Nat.testBit_mod_two_pow, Nat.testBit_two_pow_mul]
    by_cases h : i < k
    · simp [h, show ¬ k ≤ i by omega]
    · simp [h]
  rw [h2, h]
  exact (Nat.div_add_mod c (2 ^ k)).symm

/-- one step of the program: four bits at once -/
theorem nibble (c : Nat) : c / 16 ^^^ ctab (c % 16) = citer 4 c := by
  have h := split_xor 4 c
  have e : citer 4 c = citer 4 (2 ^ 4 * (c / 2 ^ 4) ^^^ (c % 2 ^ 4)) := by rw [← h]
  rw [e, citer_xor, citer_mul]
  rfl

/-- a byte -/
def cbyte (r x : Nat) : Nat := citer 8 (r ^^^ x)

theorem cbyte_eq (r x : Nat) : (r ^^^ x) / 16 ^^^ ctab ((r ^^^ x) % 16) = citer 4 (r ^^^ x) := nibble _
theorem cbyte_two (r x : Nat) : citer 4 (citer 4 (r ^^^ x)) = cbyte r x := (citer_add 4 4 _).symm

/-- the reference's bits -/
def rbit (r b : Nat) : Nat := if r % 2 = b then r / 2 else r / 2 ^^^ cpoly

def riter : Nat → Nat → Nat → Nat
  | 0, r, _ => r
  | k + 1, r, x => riter k (rbit r (x % 2)) (x / 2)

theorem rbit_eq (r b : Nat) (hb : b < 2) : rbit r b = cstep (r ^^^ b) := by
  have h := @Nat.xor_mod_two_eq_one r b
  unfold rbit cstep
  rw [Nat.xor_div_two, show b / 2 = 0 by omega, Nat.xor_zero]
  by_cases e : r % 2 = b
  · rw [if_pos e, if_neg (by rw [h]; omega)]
  · rw [if_neg e, if_pos (by rw [h]; omega)]

theorem riter_eq (k : Nat) : ∀ r x, riter k r x = citer k (r ^^^ (x % 2 ^ k)) := by
  induction k with
  | zero => intro r x; simp [riter, citer, Nat.mod_one]
  | succ k ih =>
    intro r x
    simp only [riter, citer]
    rw [ih, rbit_eq _ _ (by omega)]
    congr 1
    have h1 : x % 2 ^ (k + 1) = (x % 2) ^^^ (2 * (x / 2 % 2 ^ k)) := by
      have h2 := split_xor 1 (x % 2 ^ (k + 1))
      have ha : x % 2 ^ (k + 1) % 2 = x % 2 := by rw [Nat.pow_succ, Nat.mul_comm]; exact Nat.mod_mul_right_mod x 2 (2 ^ k)
      have hb : x % 2 ^ (k + 1) / 2 = x / 2 % 2 ^ k := by rw [Nat.pow_succ, Nat.mul_comm (2 ^ k) 2, Nat.mod_mul_right_div_self]
      rw [Nat.xor_comm, Nat.pow_one, ha, hb] at h2
      exact h2
    rw [h1, ← Nat.xor_assoc, cstep_xor (r ^^^ x % 2), cstep_even (2 * _) (by omega)]
    congr 1
    omega

theorem riter_cbyte (r x : Nat) (hx : x < 256) : riter 8 r x = cbyte r x := by
  rw [riter_eq, Nat.mod_eq_of_lt (by simpa using hx)]
  rfl

/-- the register over bytes -/
def creg (r : Nat) (l : List UInt8) : Nat := l.foldl (fun r x => cbyte r x.toNat) r
/-- the checksum that goes on, and the checksum -/
def cmore (sum : Nat) (l : List UInt8) : Nat := 4294967295 - creg (4294967295 - sum) l
def csum (l : List UInt8) : Nat := cmore 0 l

theorem cbyte_lt (r x : Nat) (hr : r < 4294967296) (hx : x < 4294967296) : cbyte r x < 4294967296 := citer_lt 8 _ (xor_lt32 hr hx)
theorem creg_lt (l : List UInt8) : ∀ r, r < 4294967296 → creg r l < 4294967296 := by
  induction l with
  | nil => intro r h; exact h
  | cons x l ih => intro r h; exact ih _ (cbyte_lt r _ h (by have := x.toNat_lt; omega))

theorem creg_append (r : Nat) (a b : List UInt8) : creg r (a ++ b) = creg (creg r a) b := by simp [creg]
theorem cmore_lt (s : Nat) (l : List UInt8) : cmore s l < 4294967296 := by unfold cmore; omega

theorem cmore_csum (a b : List UInt8) : cmore (csum a) b = csum (a ++ b) := by
  have := creg_lt a (4294967295 - 0) (by omega)
  unfold csum cmore
  rw [creg_append]
  congr 2
  omega

theorem creg_inj (l : List UInt8) : ∀ a b, a < 4294967296 → b < 4294967296 → creg a l = creg b l → a = b := by
  induction l with
  | nil => intro a b _ _ h; exact h
  | cons x l ih =>
    intro a b ha hb h
    have hx : x.toNat < 4294967296 := by have := x.toNat_lt; omega
    have h1 := ih _ _ (cbyte_lt a _ ha hx) (cbyte_lt b _ hb hx) h
    have h2 := citer_inj 8 _ _ (xor_lt32 ha hx) (xor_lt32 hb hx) h1
    have h3 : (a ^^^ x.toNat) ^^^ x.toNat = (b ^^^ x.toNat) ^^^ x.toNat := by rw [h2]
    rwa [Nat.xor_assoc, Nat.xor_self, Nat.xor_zero, Nat.xor_assoc, Nat.xor_self, Nat.xor_zero] at h3

/-- one byte turned makes another checksum -/
theorem csum_turned (p q : List UInt8) (x y : UInt8) (h : csum (p ++ x :: q) = csum (p ++ y :: q)) : x = y := by
  unfold csum cmore at h
  have h1 := creg_lt (p ++ x :: q) (4294967295 - 0) (by omega)
  have h2 := creg_lt (p ++ y :: q) (4294967295 - 0) (by omega)
  have h3 : creg (4294967295 - 0) (p ++ x :: q) = creg (4294967295 - 0) (p ++ y :: q) := by omega
  rw [creg_append, creg_append] at h3
  have hp := creg_lt p (4294967295 - 0) (by omega)
  have hx : x.toNat < 4294967296 := by have := x.toNat_lt; omega
  have hy : y.toNat < 4294967296 := by have := y.toNat_lt; omega
  have h4 := creg_inj q _ _ (cbyte_lt _ _ hp hx) (cbyte_lt _ _ hp hy) h3
  have h5 := citer_inj 8 _ _ (xor_lt32 hp hx) (xor_lt32 hp hy) h4
  apply UInt8.toNat_inj.1
  rw [Nat.xor_comm _ x.toNat, Nat.xor_comm _ y.toNat] at h5
  have h6 : (x.toNat ^^^ creg (4294967295 - 0) p) ^^^ creg (4294967295 - 0) p = (y.toNat ^^^ creg (4294967295 - 0) p) ^^^ creg (4294967295 - 0) p := by rw [h5]
  rwa [Nat.xor_assoc, Nat.xor_self, Nat.xor_zero, Nat.xor_assoc, Nat.xor_self, Nat.xor_zero] at h6


/-- a checksum's bytes, the lowest first -/
def cbytes (n : Nat) : List UInt8 := [UInt8.ofNat n, UInt8.ofNat (n / 256), UInt8.ofNat (n / 65536), UInt8.ofNat (n / 16777216)]

end Go.Proofs.Yticpmkdlnjnfgaa
