/- Layer 7 (sha): 32-bit words as numbers of the model; turning. -/
import Derived.Test.YtmhgdddnjnichaaDoorVarint
namespace Go.Proofs.YtmhgdddnjnichaaDoor
open Go.RowKit

/-- a word as the model's number -/
def wn (x : UInt32) : Int := (x.toNat : Int)
theorem wn_lt (x : UInt32) : 0 ≤ wn x ∧ wn x < 4294967296 := ⟨by unfold wn; omega, by unfold wn; have := x.toNat_lt; omega⟩

theorem w_or (a b : UInt32) : bits BinOp.or IntKind.u32 (wn a) (wn b) = wn (a ||| b) := by
  unfold wn
  rw [u32_or _ _ (by omega) (by have := a.toNat_lt; omega) (by omega) (by have := b.toNat_lt; omega), UInt32.toNat_or]
  rfl
theorem w_xor (a b : UInt32) : bits BinOp.xor IntKind.u32 (wn a) (wn b) = wn (a ^^^ b) := by
  unfold wn
  rw [u32_xor _ _ (by omega) (by have := a.toNat_lt; omega) (by omega) (by have := b.toNat_lt; omega), UInt32.toNat_xor]
  rfl
theorem w_and (a b : UInt32) : bits BinOp.and IntKind.u32 (wn a) (wn b) = wn (a &&& b) := by
  unfold wn
  rw [u32_and _ _ (by omega) (by have := a.toNat_lt; omega) (by omega) (by have := b.toNat_lt; omega), UInt32.toNat_and]
  rfl
theorem w_add (a b : UInt32) : (wn a + wn b) % 4294967296 = wn (a + b) := by
  unfold wn
  rw [UInt32.toNat_add]
  omega
theorem w_nat (n : Nat) (h : n < 32) : (UInt32.ofNat n).toNat % 32 = n := by
  have : (UInt32.ofNat n).toNat = n % 2 ^ 32 := UInt32.toNat_ofNat'
  omega
theorem w_shl (x : UInt32) (n : Nat) (h : n < 32) : wn x * 2 ^ n % 4294967296 = wn (x <<< UInt32.ofNat n) := by
  unfold wn
  rw [UInt32.toNat_shiftLeft, w_nat n h, Nat.shiftLeft_eq, Int.natCast_emod, Int.natCast_mul, Int.natCast_pow]
  rfl
theorem w_shr (x : UInt32) (n : Nat) (h : n < 32) : wn x / 2 ^ n = wn (x >>> UInt32.ofNat n) := by
  unfold wn
  rw [UInt32.toNat_shiftRight, w_nat n h, Nat.shiftRight_eq_div_pow, Int.natCast_ediv, Int.natCast_pow]
  rfl
theorem w_addw (a b : UInt32) : IntKind.u32.wrap (wn a + wn b) = wn (a + b) := by rw [IntKind.wrap_u32, w_add]
theorem w_modw (a : UInt32) : IntKind.u32.wrap (wn a) = wn a := by rw [IntKind.wrap_u32]; have := wn_lt a; omega
theorem w_mod (a : UInt32) : wn a % 4294967296 = wn a := by have := wn_lt a; omega
theorem w_shlw (x : UInt32) (n : Nat) (h : n < 32) : IntKind.u32.wrap (wn x * 2 ^ n) = wn (x <<< UInt32.ofNat n) := by rw [IntKind.wrap_u32, w_shl x n h]
theorem u64_and31 (n : Nat) (h : n < 32) : bits BinOp.and IntKind.u64 (n : Int) 31 = (n : Int) := by
  have h1 := bits_and_u64_nat n 31 (by omega) (by omega)
  have h2 : n &&& 31 = n := by
    rw [show (31 : Nat) = 2 ^ 5 - 1 from rfl, Nat.and_two_pow_sub_one_eq_mod]
    omega
  rw [h2] at h1
  exact h1

theorem rotl_any (x : UInt32) (n : Nat) (h0 : 0 < n) (h : n < 32) (w : World) :
    Calls Tryd.prog 113 #[.int .u32 (wn x), .int .i64 (n : Int)] w fun e w' => e = .returned (.int .u32 (wn (x <<< UInt32.ofNat n ||| x >>> UInt32.ofNat (32 - n)))) ∧ w = w' := by
  have hb := u64_and31 n h
  have h1 : (0 : Int) ≤ n ∧ (n : Int) ≤ 32 := by omega
  have h2 : (32 - (n : Int)) % 18446744073709551616 = 32 - (n : Int) := by omega
  have h3 : (0 : Int) ≤ 32 - (n : Int) ∧ 32 - (n : Int) ≤ 32 := by omega
  have h4 : (32 - (n : Int)).toNat = 32 - n := by omega
  have h5 := w_shl x n h
  have h6 := w_shr x (32 - n) (by omega)
  have h7 := w_or (x <<< UInt32.ofNat n) (x >>> UInt32.ofNat (32 - n))
  go_enter Tryd.func113, Tryd.ntmps113
  go_wp2
  go_ret
  exact ⟨ret_int rfl, rfl⟩

/-- turned to the right -/
def rotr (x : UInt32) (n : Nat) : UInt32 := x >>> UInt32.ofNat n ||| x <<< UInt32.ofNat (32 - n)

theorem down_any (x : UInt32) (n : Nat) (h0 : 0 < n) (h : n < 32) (w : World) :
    Calls Tryd.prog 98 #[.int .u32 (wn x), .int .i64 (n : Int)] w fun e w' => e = .returned (.int .u32 (wn (rotr x n))) ∧ w = w' := by
  have hr := rotl_any x (32 - n) (by omega) (by omega)
  rw [show 32 - (32 - n) = n by omega, show ((32 - n : Nat) : Int) = 32 - (n : Int) by omega, UInt32.or_comm] at hr
  have HR := Lib.hid hr
  clear hr
  go_enter Tryd.func98, Tryd.ntmps98
  go_wp2_with fail
  refine (HR.out _).mono ?_
  rintro e w1 ⟨rfl, rfl⟩
  go_wp2
  go_ret
  exact ⟨rfl, rfl⟩

theorem turned_any (x : UInt32) (n : Nat) (h0 : 0 < n) (h : n < 32) (w : World) :
    Calls Tryd.prog 66 #[.int .u32 (wn x), .int .i64 (n : Int)] w fun e w' => e = .returned (.int .u32 (wn (rotr x n))) ∧ Below w.heap.size w w' := by
  have h1 : (0 : Int) ≤ n ∧ (n : Int) ≤ 32 := by omega
  have h3 : (0 : Int) ≤ 32 - (n : Int) ∧ 32 - (n : Int) ≤ 32 := by omega
  have h4 : (32 - (n : Int)).toNat = 32 - n := by omega
  have h5 := w_shr x n h
  have h6 := w_shl x (32 - n) (by omega)
  have h7 := w_or (x >>> UInt32.ofNat n) (x <<< UInt32.ofNat (32 - n))
  go_enter Tryd.func66, Tryd.ntmps66
  go_wp2
  go_quiet (fail)
  go_wp2
  go_ret
  exact ⟨ret_int rfl, below_drewN (Below.refl _ _) _⟩

end Go.Proofs.YtmhgdddnjnichaaDoor
