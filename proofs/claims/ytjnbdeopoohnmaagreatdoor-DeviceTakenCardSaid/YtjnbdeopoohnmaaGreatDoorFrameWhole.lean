/- FrameWhole: Crc, VTake, FrameWhole as one text. -/
import Derived.Test.YtjnbdeopoohnmaaGreatDoorVarint
import Derived.Test.YtjnbdeopoohnmaaGreatDoorVBspec
import Derived.Test.YtjnbdeopoohnmaaGreatDoorBase
import Derived.Test.YtjnbdeopoohnmaaGreatDoorWriter
import Derived.Deep.RegionHeld3
/- Crc: Cspec, CTable, Crc as one text. -/
/- The plain law of the checksum (layer 2). No program stands here. -/
namespace Go.Proofs.YtjnbdeopoohnmaaGreatDoor

def cpoly : Nat := 3988292384

/-- one bit of the register, without an input -/
def cstep (n : Nat) : Nat := if n % 2 = 1 then n / 2 ^^^ cpoly else n / 2

theorem nxor_comm4 (a b c d : Nat) : (a ^^^ b) ^^^ (c ^^^ d) = (a ^^^ c) ^^^ (b ^^^ d) := by
  rw [Nat.xor_assoc, Nat.xor_assoc, ← Nat.xor_assoc b c d, Nat.xor_comm b c, Nat.xor_assoc c b d]

theorem cstep_xor (a b : Nat) : cstep (a ^^^ b) = cstep a ^^^ cstep b := by
  have h := @Nat.xor_mod_two_eq_one a b
  unfold cstep
  rw [Nat.xor_div_two]
  by_cases ha : a % 2 = 1 <;> by_cases hb : b % 2 = 1
  · rw [if_neg (by rw [h]; simp [ha, hb]), if_pos ha, if_pos hb, nxor_comm4, Nat.xor_self, Nat.xor_zero]
  · rw [if_pos (by rw [h]; simp [ha, hb]), if_pos ha, if_neg hb, Nat.xor_assoc, Nat.xor_assoc, Nat.xor_comm (b / 2)]
  · rw [if_pos (by rw [h]; simp [ha, hb]), if_neg ha, if_pos hb, Nat.xor_assoc]
  · rw [if_neg (by rw [h]; simp [ha, hb]), if_neg ha, if_neg hb]

theorem cstep_even (a : Nat) (h : a % 2 = 0) : cstep a = a / 2 := by unfold cstep; rw [if_neg (by omega)]

theorem xor_lt32 {a b : Nat} (ha : a < 4294967296) (hb : b < 4294967296) : a ^^^ b < 4294967296 := Nat.xor_lt_two_pow (n := 32) ha hb

theorem cstep_lt (a : Nat) (h : a < 4294967296) : cstep a < 4294967296 := by
  unfold cstep
  split
  · exact xor_lt32 (by omega) (by decide)
  · omega

theorem cstep_zero (d : Nat) (hd : d < 4294967296) (h : cstep d = 0) : d = 0 := by
  unfold cstep at h
  split at h
  · have e : d / 2 = cpoly := by
      have h1 : (d / 2 ^^^ cpoly) ^^^ cpoly = 0 ^^^ cpoly := by rw [h]
      rw [Nat.xor_assoc, Nat.xor_self, Nat.xor_zero, Nat.zero_xor] at h1
      exact h1
    unfold cpoly at e
    omega
  · omega

theorem xor_eq_zero {a b : Nat} (h : a ^^^ b = 0) : a = b := by
  have h1 : (a ^^^ b) ^^^ b = 0 ^^^ b := by rw [h]
  rwa [Nat.xor_assoc, Nat.xor_self, Nat.xor_zero, Nat.zero_xor] at h1

theorem cstep_inj (a b : Nat) (ha : a < 4294967296) (hb : b < 4294967296) (h : cstep a = cstep b) : a = b := by
  apply xor_eq_zero
  apply cstep_zero _ (xor_lt32 ha hb)
  rw [cstep_xor, h, Nat.xor_self]

def citer : Nat → Nat → Nat
  | 0, n => n
  | k + 1, n => citer k (cstep n)

theorem citer_xor (k : Nat) : ∀ a b, citer k (a ^^^ b) = citer k a ^^^ citer k b := by
  induction k with
  | zero => intro a b; rfl
  | succ k ih => intro a b; simp only [citer]; rw [cstep_xor, ih]

theorem citer_lt (k : Nat) : ∀ a, a < 4294967296 → citer k a < 4294967296 := by
  induction k with
  | zero => intro a h; exact h
  | succ k ih => intro a h; exact ih _ (cstep_lt a h)

theorem citer_inj (k : Nat) : ∀ a b, a < 4294967296 → b < 4294967296 → citer k a = citer k b → a = b := by
  induction k with
  | zero => intro a b _ _ h; exact h
  | succ k ih => intro a b ha hb h; exact cstep_inj a b ha hb (ih _ _ (cstep_lt a ha) (cstep_lt b hb) h)

theorem citer_add (j k : Nat) : ∀ a, citer (j + k) a = citer k (citer j a) := by
  induction j with
  | zero => intro a; rw [Nat.zero_add]; rfl
  | succ j ih => intro a; rw [Nat.succ_add]; exact ih _

theorem citer_mul (k : Nat) : ∀ q, citer k (2 ^ k * q) = q := by
  induction k with
  | zero => intro q; simp [citer]
  | succ k ih =>
    intro q
    have h1 : (2 ^ (k + 1) * q) % 2 = 0 := by
      rw [Nat.pow_succ, Nat.mul_comm (2 ^ k) 2, Nat.mul_assoc]; omega
    have h2 : 2 ^ (k + 1) * q / 2 = 2 ^ k * q := by
      rw [Nat.pow_succ, Nat.mul_comm (2 ^ k) 2, Nat.mul_assoc]; omega
    simp only [citer]
    rw [cstep_even _ h1, h2, ih]

/-- the table's entry -/
def ctab (i : Nat) : Nat := citer 4 i

theorem split_xor (k c : Nat) : c = (2 ^ k * (c / 2 ^ k)) ^^^ (c % 2 ^ k) := by
  have h : 2 ^ k * (c / 2 ^ k) ||| c % 2 ^ k = 2 ^ k * (c / 2 ^ k) + c % 2 ^ k := by
    have := Nat.two_pow_add_eq_or_of_lt (Nat.mod_lt c (Nat.two_pow_pos k)) (c / 2 ^ k)
    omega
  have h2 : 2 ^ k * (c / 2 ^ k) ^^^ c % 2 ^ k = 2 ^ k * (c / 2 ^ k) ||| c % 2 ^ k := by
    apply Nat.eq_of_testBit_eq
    intro i
    rw [Nat.testBit_xor, Nat.testBit_or, Nat.testBit_mod_two_pow, Nat.testBit_two_pow_mul]
    by_cases h : i < k
    · simp [h, show ¬ k ≤ i by omega]
    · simp [h]
  rw [h2, h]
  exact (Nat.div_add_mod c (2 ^ k)).symm

/-- one step of the program: four bits at once -/
theorem nibble (c : Nat) : c / 16 ^^^ ctab (c % 16) = citer 4 c := by
  have h := split_xor 4 c
  have e : citer 4 c = citer 4 (2 ^ 4 * (c / 2 ^ 4) ^^^ (c % 2 ^ 4)) := by rw [← h]
  rw [e, citer_xor, citer_mul]
  rfl

/-- a byte -/
def cbyte (r x : Nat) : Nat := citer 8 (r ^^^ x)

theorem cbyte_eq (r x : Nat) : (r ^^^ x) / 16 ^^^ ctab ((r ^^^ x) % 16) = citer 4 (r ^^^ x) := nibble _
theorem cbyte_two (r x : Nat) : citer 4 (citer 4 (r ^^^ x)) = cbyte r x := (citer_add 4 4 _).symm

/-- the reference's bits -/
def rbit (r b : Nat) : Nat := if r % 2 = b then r / 2 else r / 2 ^^^ cpoly

def riter : Nat → Nat → Nat → Nat
  | 0, r, _ => r
  | k + 1, r, x => riter k (rbit r (x % 2)) (x / 2)

theorem rbit_eq (r b : Nat) (hb : b < 2) : rbit r b = cstep (r ^^^ b) := by
  have h := @Nat.xor_mod_two_eq_one r b
  unfold rbit cstep
  rw [Nat.xor_div_two, show b / 2 = 0 by omega, Nat.xor_zero]
  by_cases e : r % 2 = b
  · rw [if_pos e, if_neg (by rw [h]; omega)]
  · rw [if_neg e, if_pos (by rw [h]; omega)]

theorem riter_eq (k : Nat) : ∀ r x, riter k r x = citer k (r ^^^ (x % 2 ^ k)) := by
  induction k with
  | zero => intro r x; simp [riter, citer, Nat.mod_one]
  | succ k ih =>
    intro r x
    simp only [riter, citer]
    rw [ih, rbit_eq _ _ (by omega)]
    congr 1
    have h1 : x % 2 ^ (k + 1) = (x % 2) ^^^ (2 * (x / 2 % 2 ^ k)) := by
      have h2 := split_xor 1 (x % 2 ^ (k + 1))
      have ha : x % 2 ^ (k + 1) % 2 = x % 2 := by rw [Nat.pow_succ, Nat.mul_comm]; exact Nat.mod_mul_right_mod x 2 (2 ^ k)
      have hb : x % 2 ^ (k + 1) / 2 = x / 2 % 2 ^ k := by rw [Nat.pow_succ, Nat.mul_comm (2 ^ k) 2, Nat.mod_mul_right_div_self]
      rw [Nat.xor_comm, Nat.pow_one, ha, hb] at h2
      exact h2
    rw [h1, ← Nat.xor_assoc, cstep_xor (r ^^^ x % 2), cstep_even (2 * _) (by omega)]
    congr 1
    omega

theorem riter_cbyte (r x : Nat) (hx : x < 256) : riter 8 r x = cbyte r x := by
  rw [riter_eq, Nat.mod_eq_of_lt (by simpa using hx)]
  rfl

/-- the register over bytes -/
def creg (r : Nat) (l : List UInt8) : Nat := l.foldl (fun r x => cbyte r x.toNat) r
/-- the checksum that goes on, and the checksum -/
def cmore (sum : Nat) (l : List UInt8) : Nat := 4294967295 - creg (4294967295 - sum) l
def csum (l : List UInt8) : Nat := cmore 0 l

theorem cbyte_lt (r x : Nat) (hr : r < 4294967296) (hx : x < 4294967296) : cbyte r x < 4294967296 := citer_lt 8 _ (xor_lt32 hr hx)
theorem creg_lt (l : List UInt8) : ∀ r, r < 4294967296 → creg r l < 4294967296 := by
  induction l with
  | nil => intro r h; exact h
  | cons x l ih => intro r h; exact ih _ (cbyte_lt r _ h (by have := x.toNat_lt; omega))

theorem creg_append (r : Nat) (a b : List UInt8) : creg r (a ++ b) = creg (creg r a) b := by simp [creg]
theorem cmore_lt (s : Nat) (l : List UInt8) : cmore s l < 4294967296 := by unfold cmore; omega

theorem cmore_csum (a b : List UInt8) : cmore (csum a) b = csum (a ++ b) := by
  have := creg_lt a (4294967295 - 0) (by omega)
  unfold csum cmore
  rw [creg_append]
  congr 2
  omega

theorem creg_inj (l : List UInt8) : ∀ a b, a < 4294967296 → b < 4294967296 → creg a l = creg b l → a = b := by
  induction l with
  | nil => intro a b _ _ h; exact h
  | cons x l ih =>
    intro a b ha hb h
    have hx : x.toNat < 4294967296 := by have := x.toNat_lt; omega
    have h1 := ih _ _ (cbyte_lt a _ ha hx) (cbyte_lt b _ hb hx) h
    have h2 := citer_inj 8 _ _ (xor_lt32 ha hx) (xor_lt32 hb hx) h1
    have h3 : (a ^^^ x.toNat) ^^^ x.toNat = (b ^^^ x.toNat) ^^^ x.toNat := by rw [h2]
    rwa [Nat.xor_assoc, Nat.xor_self, Nat.xor_zero, Nat.xor_assoc, Nat.xor_self, Nat.xor_zero] at h3

/-- one byte turned makes another checksum -/
theorem csum_turned (p q : List UInt8) (x y : UInt8) (h : csum (p ++ x :: q) = csum (p ++ y :: q)) : x = y := by
  unfold csum cmore at h
  have h1 := creg_lt (p ++ x :: q) (4294967295 - 0) (by omega)
  have h2 := creg_lt (p ++ y :: q) (4294967295 - 0) (by omega)
  have h3 : creg (4294967295 - 0) (p ++ x :: q) = creg (4294967295 - 0) (p ++ y :: q) := by omega
  rw [creg_append, creg_append] at h3
  have hp := creg_lt p (4294967295 - 0) (by omega)
  have hx : x.toNat < 4294967296 := by have := x.toNat_lt; omega
  have hy : y.toNat < 4294967296 := by have := y.toNat_lt; omega
  have h4 := creg_inj q _ _ (cbyte_lt _ _ hp hx) (cbyte_lt _ _ hp hy) h3
  have h5 := citer_inj 8 _ _ (xor_lt32 hp hx) (xor_lt32 hp hy) h4
  apply UInt8.toNat_inj.1
  rw [Nat.xor_comm _ x.toNat, Nat.xor_comm _ y.toNat] at h5
  have h6 : (x.toNat ^^^ creg (4294967295 - 0) p) ^^^ creg (4294967295 - 0) p = (y.toNat ^^^ creg (4294967295 - 0) p) ^^^ creg (4294967295 - 0) p := by rw [h5]
  rwa [Nat.xor_assoc, Nat.xor_self, Nat.xor_zero, Nat.xor_assoc, Nat.xor_self, Nat.xor_zero] at h6


/-- a checksum's bytes, the lowest first -/
def cbytes (n : Nat) : List UInt8 := [UInt8.ofNat n, UInt8.ofNat (n / 256), UInt8.ofNat (n / 65536), UInt8.ofNat (n / 16777216)]

end Go.Proofs.YtjnbdeopoohnmaaGreatDoor
/- Layer 2 (crc): the walk of the table. -/
namespace Go.Proofs.YtjnbdeopoohnmaaGreatDoor
open Go.RowKit

def tcell (k i : Nat) : Value := .int .u32 ((if i < k then ctab i else 0 : Nat) : Int)
def tcells (k : Nat) : Array Value := ((List.range 16).map (tcell k)).toArray

theorem tcells_zero : tcells 0 = #[.int .u32 0, .int .u32 0, .int .u32 0, .int .u32 0, .int .u32 0, .int .u32 0, .int .u32 0, .int .u32 0, .int .u32 0, .int .u32 0, .int .u32 0, .int .u32 0, .int .u32 0, .int .u32 0, .int .u32 0, .int .u32 0] := by rfl

theorem tcells_lit : tcells 16 = #[.int .u32 ((ctab 0 : Nat) : Int), .int .u32 ((ctab 1 : Nat) : Int), .int .u32 ((ctab 2 : Nat) : Int), .int .u32 ((ctab 3 : Nat) : Int), .int .u32 ((ctab 4 : Nat) : Int), .int .u32 ((ctab 5 : Nat) : Int), .int .u32 ((ctab 6 : Nat) : Int), .int .u32 ((ctab 7 : Nat) : Int), .int .u32 ((ctab 8 : Nat) : Int), .int .u32 ((ctab 9 : Nat) : Int), .int .u32 ((ctab 10 : Nat) : Int), .int .u32 ((ctab 11 : Nat) : Int), .int .u32 ((ctab 12 : Nat) : Int), .int .u32 ((ctab 13 : Nat) : Int), .int .u32 ((ctab 14 : Nat) : Int), .int .u32 ((ctab 15 : Nat) : Int)] := by rfl
theorem tcells_size (k : Nat) : (tcells k).size = 16 := by simp [tcells]
theorem tcells_get (k i : Nat) (h : i < 16) : (tcells k)[i]? = some (tcell k i) := by simp [tcells, h]
theorem tcells_set (k : Nat) : (tcells k).setIfInBounds k (.int .u32 (ctab k : Nat)) = tcells (k + 1) := by
  apply Array.ext_getElem?
  intro i
  rw [Array.getElem?_setIfInBounds, tcells_size]
  by_cases hi : i < 16
  · rw [tcells_get (k + 1) i hi, tcells_get k i hi]
    by_cases e : k = i
    · subst e; simp [hi, tcell]
    · rw [if_neg e]
      unfold tcell
      by_cases h : i < k
      · simp [h, show i < k + 1 by omega]
      · simp [h, show ¬ i < k + 1 by omega]
  · have h1 : (tcells (k + 1))[i]? = none := Array.getElem?_eq_none (by rw [tcells_size]; omega)
    have h2 : (tcells k)[i]? = none := Array.getElem?_eq_none (by rw [tcells_size]; omega)
    rw [h1, h2]
    split
    · rw [if_neg (by omega)]
    · rfl

theorem u32_and1 (n : Nat) (h : n < 4294967296) : bits BinOp.and IntKind.u32 (n : Int) 1 = ((n % 2 : Nat) : Int) := by
  rw [u32_and _ _ (by omega) (by omega) (by omega) (by omega), show (1 : Int).toNat = 1 from rfl, nat_mask1, show (n : Int).toNat = n by omega]
theorem u32_and15 (n : Nat) (h : n < 4294967296) : bits BinOp.and IntKind.u32 (n : Int) 15 = ((n % 16 : Nat) : Int) := by
  rw [u32_and _ _ (by omega) (by omega) (by omega) (by omega), show (15 : Int).toNat = 15 from rfl, nat_mask4, show (n : Int).toNat = n by omega]
theorem u32_xorn (a b : Int) (h1 : 0 ≤ a) (h2 : a < 4294967296) (h3 : 0 ≤ b) (h4 : b < 4294967296) : bits BinOp.xor IntKind.u32 a b = ((a.toNat ^^^ b.toNat : Nat) : Int) := u32_xor a b h1 h2 h3 h4

set_option maxRecDepth 100000 in
set_option maxHeartbeats 400000 in
theorem table_any (w : World) : Calls Tryz.prog 121 #[] w fun e w' => e = .returned (.agg (tcells 16)) ∧ Below w.heap.size w w' := by
  obtain ⟨Z, hZ⟩ : ∃ Z, Z = tcells 0 := ⟨_, rfl⟩
  have hZ' := hZ
  rw [tcells_zero] at hZ'
  have HZ := Lib.hid hZ
  clear hZ
  go_enter Tryz.func121, Tryz.ntmps121
  go_wp2
  rw [← hZ']
  clear hZ'
  go_loopw [4] (fun i wr => ∃ k : Nat, k ≤ 16 ∧ i = .int .i64 k ∧ wr = (w.alloc (.cells Z 162)).alloc (.cells (tcells k) 162)) (fun i _ => 16 - (intOf i).toNat)
  case atStart => exact ⟨0, by omega, rfl, by rw [← HZ.out]⟩
  case round =>
    obtain ⟨k, hk, rfl, rfl⟩ := hrel
    obtain ⟨C, hC⟩ : ∃ C, C = tcells k := ⟨_, rfl⟩
    rw [← hC]
    have hsz : C.size = 16 := by rw [hC]; exact tcells_size k
    by_cases hlt : k < 16
    · have hg : C[k]? = some (.int .u32 0) := by rw [hC, tcells_get k k hlt]; simp [tcell]
      have hset := tcells_set k
      rw [← hC] at hset
      have HS := Lib.hid hset
      have HC := Lib.hid hC
      clear hset hC
      go_wp2
      go_loop [3, 9] (fun c j => ∃ n j' : Nat, j' ≤ 4 ∧ n < 4294967296 ∧ c = .int .u32 n ∧ j = .int .i64 j' ∧ Hid (citer (4 - j') n = ctab k)) (fun _ j => 4 - (intOf j).toNat)
      case atStart => exact ⟨k, 0, by omega, by omega, by go_num, rfl, rfl⟩
      case round =>
        obtain ⟨n, j, hj, hn, rfl, rfl, hc⟩ := hrel
        by_cases hj4 : j < 4
        · have ha := u32_and1 n hn
          have hx := u32_xorn ((n : Int) / 2) 3988292384 (by omega) (by omega) (by omega) (by omega)
          rw [show ((n : Int) / 2).toNat = n / 2 by omega] at hx
          have e1 : citer (4 - j) n = citer (4 - (j + 1)) (cstep n) := by rw [show 4 - j = (4 - (j + 1)) + 1 by omega]; rfl
          have E1 := Lib.hid e1
          clear e1
          by_cases ho : n % 2 = 1
          · have hq : (((n % 2 : Nat) : Int) == 1) = true := by simp; omega
            go_wp2
            go_round
            case rel =>
              refine ⟨cstep n, j + 1, by omega, cstep_lt n hn, ?_, by go_num, E1.out.symm.trans hc.out⟩
              unfold cstep
              rw [if_pos ho]
              rfl
            case measure => simp [intOf]; omega
          · have hq : (((n % 2 : Nat) : Int) == 1) = false := by simp; omega
            go_wp2
            go_round
            case rel =>
              refine ⟨cstep n, j + 1, by omega, cstep_lt n hn, ?_, by go_num, E1.out.symm.trans hc.out⟩
              unfold cstep
              rw [if_neg ho]
              congr 1
            case measure => simp [intOf]; omega
        · obtain rfl : j = 4 := by omega
          have hcn : n = ctab k := hc.out
          have HN := Lib.hid hcn
          clear hcn hc
          go_wp2
          go_roundw
          case rel =>
            refine ⟨k + 1, by omega, by go_num, ?_⟩
            rw [← HS.out, HN.out]
          case measure => simp [intOf]; omega
    · obtain rfl : k = 16 := by omega
      rw [hC, tcells_lit]
      clear hsz hC
      have hz := HZ.out
      rw [tcells_zero] at hz
      subst hz
      go_wp2
      exact bodyPost_ret (v := .agg (tcells 16)) (by rw [tcells_lit]; simp [results, Tryz.results121, go_sem]) rfl ⟨rfl, ((Below.refl _ _).alloc (Nat.le_refl _) _).alloc (by simp) _⟩


theorem tcells_one (k : Nat) : ∀ v ∈ (tcells k).toList, v.oneCell' = true := by
  intro v hv
  simp only [tcells, List.mem_map] at hv
  obtain ⟨i, _, rfl⟩ := hv
  rfl

end Go.Proofs.YtjnbdeopoohnmaaGreatDoor
/- Walks of layer 2 (crc) and of its reference. -/
namespace Go.Proofs.YtjnbdeopoohnmaaGreatDoor
open Go.RowKit

theorem xor_ones32 (x : Nat) (h : x < 4294967296) : 4294967295 ^^^ x = 4294967295 - x := by
  have h1 := congrArg BitVec.toNat (BitVec.allOnes_xor (x := BitVec.ofNat 32 x))
  rw [BitVec.toNat_xor, BitVec.toNat_not, BitVec.toNat_ofNat, BitVec.toNat_allOnes] at h1
  rw [Nat.mod_eq_of_lt (by omega)] at h1
  exact h1

theorem u32_notn (n : Nat) (h : n < 4294967296) : bits BinOp.xor IntKind.u32 IntKind.u32.max (n : Int) = ((4294967295 - n : Nat) : Int) := by
  rw [show IntKind.u32.max = 4294967295 from by decide, u32_xor _ _ (by omega) (by omega) (by omega) (by omega), show (4294967295 : Int).toNat = 4294967295 from rfl, show (n : Int).toNat = n by omega, xor_ones32 n h]

theorem ctab_lt (i : Nat) (h : i < 16) : ctab i < 4294967296 := citer_lt 4 i (by omega)

set_option maxRecDepth 100000 in
set_option maxHeartbeats 400000 in
theorem more_any (s : Nat) (hs : s < 4294967296) (vb : Value) (l : List UInt8) (w : World) (hb : Bs w vb l) :
    Calls Tryz.prog 118 #[.int .u32 s, vb] w fun e w' => e = .returned (.int .u32 (cmore s l)) ∧ Below w.heap.size w w' := by
  obtain ⟨a, ca, adr, rfl, ha1, ha2, ha3, ha4, ha5⟩ := Bs.open_ elB hb
  go_enter Tryz.func118, Tryz.ntmps118
  go_wp2_with fail
  refine (table_any _).mono ?_
  rintro e w1 ⟨rfl, hb1⟩
  go_wp2_with (with_reducible refine wpList_store_new rfl _ _ rfl rfl rfl (by kernel_rfl) (by simp [tcells_size]) (tcells_one 16) ?_)
  have hn := u32_notn s hs
  have HT : Hid (∀ i, i < 16 → (w1.alloc (.cells (tcells 16) 162)).cell? ⟨w1.heap.size, i, none⟩ = some (.int .u32 (ctab i : Nat))) := by
    intro i hi
    rw [World.cell?_alloc_at _ _ _ _ rfl, tcells_get 16 i hi]
    simp [tcell, hi]
  rw [hn]
  clear hn
  obtain ⟨W, hW⟩ : ∃ W, W = w1.alloc (.cells (tcells 16) 162) := ⟨_, rfl⟩
  have hbW : Below w.heap.size w W := by rw [hW]; exact hb1.alloc hb1.size _
  rw [← hW]
  rw [← hW] at HT
  clear hW
  go_loop [6, 14] (fun c i => ∃ k n : Nat, k ≤ l.length ∧ i = .int .i64 k ∧ c = .int .u32 n ∧ n < 4294967296 ∧ Hid (creg (4294967295 - s) l = creg n (l.drop k))) (fun _ i => l.length - (intOf i).toNat)
  case atStart => exact ⟨0, 4294967295 - s, by omega, rfl, rfl, by omega, rfl⟩
  case round =>
    obtain ⟨k, n, hk, rfl, rfl, hn, hc⟩ := hrel
    by_cases hlt : k < l.length
    · obtain ⟨x, hx⟩ : ∃ x, l[k]? = some x := ⟨_, List.getElem?_eq_getElem hlt⟩
      have h3 : W.cell? (adr k) = some (.int .u8 x.toNat) := by rw [hbW.cell (ha4 k hlt)]; exact ha5 k x hx
      have hstep : l.drop k = x :: l.drop (k + 1) := by rw [List.drop_eq_getElem_cons hlt, (List.getElem?_eq_some_iff.1 hx).2]
      rw [hstep] at hc
      have hc2 : Hid (creg (4294967295 - s) l = creg (cbyte n x.toNat) (l.drop (k + 1))) := hc
      obtain ⟨y, hy⟩ : ∃ y, y = x.toNat := ⟨_, rfl⟩
      have hy256 : y < 256 := by have := x.toNat_lt; omega
      rw [← hy] at h3 hc2
      clear hc hstep hy hx ha5 ha4
      obtain ⟨n1, e1⟩ : ∃ n1, n1 = n ^^^ y := ⟨_, rfl⟩
      have l1 : n1 < 4294967296 := by rw [e1]; exact xor_lt32 hn (by omega)
      obtain ⟨n2, e2⟩ : ∃ n2, n2 = n1 / 16 ^^^ ctab (n1 % 16) := ⟨_, rfl⟩
      have l2 : n2 < 4294967296 := by rw [e2]; exact xor_lt32 (by omega) (ctab_lt _ (by omega))
      obtain ⟨n3, e3⟩ : ∃ n3, n3 = n2 / 16 ^^^ ctab (n2 % 16) := ⟨_, rfl⟩
      have l3 : n3 < 4294967296 := by rw [e3]; exact xor_lt32 (by omega) (ctab_lt _ (by omega))
      have f1 : bits BinOp.xor IntKind.u32 (n : Int) (y : Int) = (n1 : Int) := by
        rw [e1, u32_xor _ _ (by omega) (by omega) (by omega) (by omega)]; simp
      have g1 := u32_and15 n1 l1
      have g2 := u32_and15 n2 l2
      have t1 := HT.out (n1 % 16) (by omega)
      have t2 := HT.out (n2 % 16) (by omega)
      have tl1 := ctab_lt (n1 % 16) (by omega)
      have tl2 := ctab_lt (n2 % 16) (by omega)
      have f2 : bits BinOp.xor IntKind.u32 ((n1 : Int) / 16) (ctab (n1 % 16) : Nat) = (n2 : Int) := by
        rw [e2, u32_xor _ _ (by omega) (by omega) (by omega) (by omega), show ((n1 : Int) / 16).toNat = n1 / 16 by omega]; simp
      have f3 : bits BinOp.xor IntKind.u32 ((n2 : Int) / 16) (ctab (n2 % 16) : Nat) = (n3 : Int) := by
        rw [e3, u32_xor _ _ (by omega) (by omega) (by omega) (by omega), show ((n2 : Int) / 16).toNat = n2 / 16 by omega]; simp
      have hn3 : Hid (n3 = cbyte n y) := by
        show _ = _
        rw [e3, nibble, e2, nibble, e1, cbyte_two]
      clear e1 e2 e3
      go_wp2
      go_round
      case rel => exact ⟨k + 1, n3, by omega, by go_num, rfl, l3, by rw [hn3.out]; exact hc2⟩
      case measure => simp [intOf]; omega
    · have hcr : creg (4294967295 - s) l = n := by
        have h := hc.out
        rw [List.drop_eq_nil_of_le (by omega)] at h
        exact h
      have hn := u32_notn n hn
      have HC := Lib.hid hcr
      have HN := Lib.hid hn
      clear hcr hc hn
      go_wp2
      go_ret
      refine ⟨ret_int ?_, hbW⟩
      unfold cmore
      rw [HC.out]
      first | exact HN.out | exact u32_notn _ (by omega)

theorem sum_any (vb : Value) (l : List UInt8) (w : World) (hb : Bs w vb l) :
    Calls Tryz.prog 101 #[vb] w fun e w' => e = .returned (.int .u32 (csum l)) ∧ Below w.heap.size w w' := by
  have hm := more_any 0 (by omega) vb l w hb
  go_enter Tryz.func101, Tryz.ntmps101
  go_wp2_with fail
  refine hm.mono ?_
  rintro e w1 ⟨rfl, hb1⟩
  go_wp2
  go_ret
  exact ⟨rfl, hb1⟩


theorem cbytes_any (n : Nat) (hn : n < 4294967296) (w : World) :
    Calls Tryz.prog 100 #[.int .u32 n] w fun e w' => ∃ v, e = .returned v ∧ Ob w' w.heap.size 5 v (cbytes n) ∧ Below w.heap.size w w' := by
  go_enter Tryz.func100, Tryz.ntmps100
  go_wp2
  go_ret
  refine ⟨_, rfl, ob_lit w _ _ _ 4 rfl (by simp [maxLen]) ?_, (Below.refl _ _).alloc (Nat.le_refl _) _⟩
  simp [cbytes, bv]
  omega

set_option maxRecDepth 100000 in
set_option maxHeartbeats 400000 in
theorem rcbytes_any (n : Nat) (hn : n < 4294967296) (w : World) :
    Calls Tryz.prog 75 #[.int .u32 n] w fun e w' => ∃ v, e = .returned v ∧ Ob w' w.heap.size 5 v (cbytes n) ∧ Below w.heap.size w w' := by
  go_enter Tryz.func75, Tryz.ntmps75
  go_wp2
  go_loopw [0, 3, 4] (fun m v i wr => ∃ k : Nat, k ≤ 4 ∧ i = .int .i64 k ∧ m = .int .u32 ((n / 256 ^ k : Nat) : Int) ∧ Ob wr w.heap.size 5 v ((cbytes n).take k) ∧ Below w.heap.size w wr) (fun _ _ i _ => 4 - (intOf i).toNat)
  case atStart => exact ⟨0, by omega, rfl, by simp, World.ownsRow_nil _ _ _ _, Below.refl _ _⟩
  case round =>
    obtain ⟨k, hk, rfl, rfl, ho, hb⟩ := hrel
    have hsz := hb.size
    by_cases hlt : k < 4
    · obtain ⟨m, hm⟩ : ∃ m, m = n / 256 ^ k := ⟨_, rfl⟩
      have hml : m < 4294967296 := by rw [hm]; exact Nat.lt_of_le_of_lt (Nat.div_le_self _ _) hn
      have hnext : n / 256 ^ (k + 1) = m / 256 := by rw [hm, Nat.pow_succ, Nat.div_div_eq_div_mul]
      have hget : (cbytes n)[k]? = some (UInt8.ofNat m) := by
        rw [hm]
        rcases (show k = 0 ∨ k = 1 ∨ k = 2 ∨ k = 3 by omega) with rfl | rfl | rfl | rfl <;> simp [cbytes]
      rw [← hm]
      have hlen : ((cbytes n).take k).length ≤ 4 := by simp [cbytes]; omega
      have HM := Lib.hid hm
      have HN := Lib.hid hnext
      have HG := Lib.hid hget
      clear hm hnext hget
      go_wp2_with (at_builtin; go_must (refine wpList_append_byte ho (UInt8.ofNat m) elB (by omega) (by omega) hsz ?_ _ _ rfl rfl _ rfl rfl (by simp [bv])); intro v' w' h1 h2 h3; have H1 := Lib.hid h1; clear h1)
      go_roundw
      case rel =>
        refine ⟨k + 1, by omega, by go_num, by rw [HN.out]; go_num, ?_, hb.trans h3⟩
        rw [List.take_add_one, HG.out]
        exact H1.out
      case measure => simp [intOf]; omega
    · obtain rfl : k = 4 := by omega
      go_wp2
      go_ret
      exact ⟨_, rfl, ho, hb⟩


set_option maxRecDepth 100000 in
set_option maxHeartbeats 400000 in
theorem crsum_any (vb : Value) (l : List UInt8) (w : World) (hb : Bs w vb l) :
    Calls Tryz.prog 76 #[vb] w fun e w' => e = .returned (.int .u32 (csum l)) ∧ w = w' := by
  obtain ⟨a, ca, adr, rfl, ha1, ha2, ha3, ha4, ha5⟩ := Bs.open_ elB hb
  go_enter Tryz.func76, Tryz.ntmps76
  go_wp2
  go_loop [3, 4] (fun r i => ∃ k n : Nat, k ≤ l.length ∧ i = .int .i64 k ∧ r = .int .u32 n ∧ n < 4294967296 ∧ Hid (creg 4294967295 l = creg n (l.drop k))) (fun _ i => l.length - (intOf i).toNat)
  case atStart => exact ⟨0, 4294967295, by omega, rfl, rfl, by omega, rfl⟩
  case round =>
    obtain ⟨k, n, hk, rfl, rfl, hn, hc⟩ := hrel
    by_cases hlt : k < l.length
    · obtain ⟨x, hx⟩ : ∃ x, l[k]? = some x := ⟨_, List.getElem?_eq_getElem hlt⟩
      have h3 := ha5 k x hx
      have hstep : l.drop k = x :: l.drop (k + 1) := by rw [List.drop_eq_getElem_cons hlt, (List.getElem?_eq_some_iff.1 hx).2]
      rw [hstep] at hc
      have hc2 : Hid (creg 4294967295 l = creg (cbyte n x.toNat) (l.drop (k + 1))) := hc
      obtain ⟨y, hy⟩ : ∃ y, y = x.toNat := ⟨_, rfl⟩
      have hy256 : y < 256 := by have := x.toNat_lt; omega
      rw [← hy] at h3 hc2
      clear hc hstep hy hx ha5 ha4
      go_wp2
      go_loop [3, 5, 6] (fun r z j => ∃ m q i : Nat, i ≤ 8 ∧ j = .int .i64 i ∧ r = .int .u32 m ∧ m < 4294967296 ∧ z = .int .i64 q ∧ q < 256 ∧ Hid (riter (8 - i) m q = cbyte n y)) (fun _ _ j => 8 - (intOf j).toNat)
      case atStart => exact ⟨n, y, 0, by omega, rfl, rfl, hn, rfl, hy256, riter_cbyte n y hy256⟩
      case round =>
        obtain ⟨m, q, i, hi, rfl, rfl, hm, rfl, hq, hr⟩ := hrel
        by_cases hi8 : i < 8
        · have e1 : riter (8 - i) m q = riter (8 - (i + 1)) (rbit m (q % 2)) (q / 2) := by rw [show 8 - i = (8 - (i + 1)) + 1 by omega]; rfl
          have E1 := Lib.hid e1
          clear e1
          by_cases hb2 : m % 2 = q % 2
          · have hd : (((m : Int) % 2) != ((q : Int) % 2)) = false := by simp; omega
            go_wp2
            go_round
            case rel =>
              refine ⟨m / 2, q / 2, i + 1, by omega, by go_num, by go_num, by omega, by go_num, by omega, ?_⟩
              have := E1.out
              rw [rbit, if_pos hb2] at this
              exact this.symm.trans hr.out
            case measure => simp [intOf]; omega
          · have hd : (((m : Int) % 2) != ((q : Int) % 2)) = true := by simp; omega
            have hx := u32_xorn ((m : Int) / 2) 3988292384 (by omega) (by omega) (by omega) (by omega)
            rw [show ((m : Int) / 2).toNat = m / 2 by omega] at hx
            go_wp2
            go_round
            case rel =>
              refine ⟨m / 2 ^^^ cpoly, q / 2, i + 1, by omega, by go_num, rfl, xor_lt32 (by omega) (by decide), by go_num, by omega, ?_⟩
              have := E1.out
              rw [rbit, if_neg hb2] at this
              exact this.symm.trans hr.out
            case measure => simp [intOf]; omega
        · obtain rfl : i = 8 := by omega
          have hm2 : m = cbyte n y := hr.out
          have HM := Lib.hid hm2
          clear hm2 hr
          go_wp2
          go_round
          case rel => exact ⟨k + 1, m, by omega, by go_num, rfl, hm, by rw [HM.out]; exact hc2⟩
          case measure => simp [intOf]; omega
    · have hcr : creg 4294967295 l = n := by
        have h := hc.out
        rw [List.drop_eq_nil_of_le (by omega)] at h
        exact h
      have HC := Lib.hid hcr
      clear hcr hc
      go_wp2
      go_ret
      refine ⟨ret_int ?_, rfl⟩
      unfold csum cmore
      rw [show 4294967295 - 0 = 4294967295 from rfl, HC.out]
      omega

end Go.Proofs.YtjnbdeopoohnmaaGreatDoor
/- Walks of Take of layer 1 and of its reference. -/
namespace Go.Proofs.YtjnbdeopoohnmaaGreatDoor
open Go.RowKit

theorem rt_wrap (m c k sc : Nat) (hk9 : k ≤ 9) (h9 : k = 9 → c ≤ 1) (hsc : sc = 128 ^ k) (hm : m < sc) :
    IntKind.u64.wrap ((m : Int) + IntKind.u64.wrap ((c : Int) % 128 * (sc : Int))) = ((m + c % 128 * sc : Nat) : Int) := by
  have h1 := (mul128_le c k hk9 h9).1
  have h2 := (pow128_le k hk9).2
  rw [← hsc] at h1 h2
  rw [show (c : Int) % 128 * (sc : Int) = ((c % 128 * sc : Nat) : Int) by simp]
  simp only [IntKind.wrap_u64]
  omega

theorem rt_zero {m c k sc : Nat} (hk9 : k ≤ 9) (hsc : sc = 128 ^ k) (hm : m < sc) (h : c = 0) : IntKind.u64.wrap ((m : Int) + IntKind.u64.wrap 0) = ((m + c % 128 * sc : Nat) : Int) := by
  have h2 := (pow128_le k hk9).2
  rw [← hsc] at h2
  rw [h]
  simp [IntKind.wrap_u64]
  omega

set_option maxRecDepth 100000 in
set_option maxHeartbeats 400000 in
theorem rtake_any (vb : Value) (l : List UInt8) (w : World) (hb : Bs w vb l) :
    Calls Tryz.prog 107 #[vb] w fun e w' => e = .returned (.tuple #[.int .u64 (vtake l).1, .int .i64 (vtake l).2.1, .int .i64 (vtake l).2.2]) ∧ Below w.heap.size w w' := by
  obtain ⟨a, ca, adr, rfl, ha1, ha2, ha3, ha4, ha5⟩ := Bs.open_ elB hb
  clear hb
  go_enter Tryz.func107, Tryz.ntmps107
  go_wp2
  go_loopw [5, 6, 7] (fun n sc i wr => ∃ k m : Nat, k ≤ l.length ∧ k ≤ 9 ∧ n = .int .u64 m ∧ sc = .int .u64 ((128 ^ k : Nat) : Int) ∧ i = .int .i64 k ∧ m < 128 ^ k ∧ Hid (vgo (l.drop k) k m = vtake l) ∧ Below w.heap.size w wr) (fun _ _ i _ => l.length - (intOf i).toNat)
  case atStart => exact ⟨0, 0, by omega, by omega, rfl, rfl, rfl, by simp, rfl, Below.refl _ _⟩
  case round =>
    obtain ⟨k, m, hk, hk9, rfl, rfl, rfl, hm, hv, hw⟩ := hrel
    obtain ⟨sc, hsc⟩ : ∃ sc, sc = 128 ^ k := ⟨_, rfl⟩
    rw [← hsc]
    have HSC := Lib.hid hsc
    rw [← hsc] at hm
    clear hsc
    by_cases hlt : k < l.length
    · obtain ⟨x, hx⟩ : ∃ x, l[k]? = some x := ⟨_, List.getElem?_eq_getElem hlt⟩
      have h3 : wr.cell? (adr k) = some (.int .u8 x.toNat) := by rw [hw.cell (ha4 k hlt)]; exact ha5 k x hx
      obtain ⟨c, hc⟩ : ∃ c, c = x.toNat := ⟨_, rfl⟩
      have hc256 : c < 256 := by have := x.toNat_lt; omega
      rw [← hc] at h3
      have HX := Lib.hid hx
      have HC := Lib.hid hc
      clear ha5 ha4 hx hc
      have hstep : Hid (vgo (l.drop k) k m = if k = 9 ∧ 1 < c then (0, 0, 11)
    else if c < 128 then (if c = 0 ∧ 0 < k then (0, 0, 11) else (m + c % 128 * sc, k + 1, 0))
    else vgo (l.drop (k + 1)) (k + 1) (m + c % 128 * sc)) := by
        have := HX.out
        show _ = _
        rw [List.drop_eq_getElem_cons hlt, vgo, HC.out, HSC.out, (List.getElem?_eq_some_iff.1 HX.out).2]
      have hwrap : k = 9 → c ≤ 1 → Hid (IntKind.u64.wrap ((m : Int) + IntKind.u64.wrap ((c : Int) % 128 * (sc : Int))) = ((m + c % 128 * sc : Nat) : Int)) := fun _ h => rt_wrap m c k sc hk9 (fun _ => h) HSC.out hm
      have hwrap2 : k ≠ 9 → Hid (IntKind.u64.wrap ((m : Int) + IntKind.u64.wrap ((c : Int) % 128 * (sc : Int))) = ((m + c % 128 * sc : Nat) : Int)) := fun h => rt_wrap m c k sc hk9 (fun h' => absurd h' h) HSC.out hm
      have hnext : k ≠ 9 → c % 128 * sc + sc ≤ 128 ^ (k + 1) ∧ 128 ^ (k + 1) = sc * 128 ∧ sc * 128 ≤ 9223372036854775808 := by
        intro h
        have e := HSC.out
        have h1 := (mul128_le c k hk9 (fun h' => absurd h' h)).2 (by omega)
        have h2 := (pow128_le (k + 1) (by omega)).2
        rw [e]
        rw [Nat.pow_succ] at *
        exact ⟨h1, rfl, h2⟩
      have HW := Lib.hid hwrap
      have HW2 := Lib.hid hwrap2
      have HN := Lib.hid hnext
      clear hwrap hwrap2 hnext
      go_wp2
      case roundEnd =>
        go_roundw
        case rel =>
          have hk : ¬ k = 9 := by omega
          have h1 := HN.out hk
          refine ⟨k + 1, m + c % 128 * sc, by omega, by omega, by rw [(HW2.out hk).out], ?_, by go_num, by omega, ?_, hw⟩
          · rw [h1.2.1, IntKind.wrap_u64]
            congr 1
            omega
          · have e := hv.out
            rw [hstep.out, if_neg (by omega), if_neg (by omega)] at e
            exact e
        case measure => simp [intOf]; omega
      all_goals
        have e := hv.out
        rw [hstep.out] at e
        repeat (first | rw [if_pos (by omega)] at e | rw [if_neg (by omega)] at e)
        go_ret3
        refine ⟨?_, hw⟩
        rw [← e]
        refine ret_3 ?_ ?_ ?_
        all_goals first | rfl | exact rt_zero hk9 HSC.out hm (by omega) | exact (HW.out (by omega) (by omega)).out | exact (HW2.out (by omega)).out | (show (_ : Int) = ((k + 1 : Nat) : Int); omega)
    · have hkl : k = l.length := by omega
      have e := hv.out
      rw [List.drop_eq_nil_of_le (by omega), vgo] at e
      have E := Lib.hid e
      clear e hkl
      go_wp2
      go_ret3
      refine ⟨?_, hw⟩
      rw [← E.out]
      rfl


theorem tk_val {m c k sc : Nat} {C Q : Int} (hk9 : k ≤ 9) (h9 : k = 9 → c ≤ 1) (hsc : sc = 128 ^ k) (hm : m < sc) (hc : c < 256) (hC : C = (c : Int)) (hQ : Q = (sc : Int)) :
    bits BinOp.or IntKind.u64 (m : Int) (IntKind.u64.wrap (IntKind.u64.wrap (bits BinOp.and IntKind.u8 C 127) * Q)) = ((m + c % 128 * sc : Nat) : Int) := by
  have h1 := (mul128_le c k hk9 h9).1
  have h2 := (pow128_le k hk9).2
  rw [← hsc] at h1 h2
  subst hC hQ
  rw [u8_and _ _ (by omega) (by omega) (by omega) (by omega)]
  rw [show (127 : Int).toNat = 127 from rfl, nat_mask7, show (c : Int).toNat = c by omega]
  simp only [IntKind.wrap_u64]
  rw [show ((c % 128 : Nat) : Int) % 18446744073709551616 * (sc : Int) = ((c % 128 * sc : Nat) : Int) by rw [Int.emod_eq_of_lt (by omega) (by omega)]; simp]
  rw [u64_or _ _ (by omega) (by omega) (by omega) (by omega)]
  congr 1
  rw [show (m : Int).toNat = m by omega]
  rw [show (((c % 128 * sc : Nat) : Int) % 18446744073709551616).toNat = c % 128 * sc by omega]
  rw [Nat.or_comm, nat_join (7 * k) (c % 128 * sc) m]
  · omega
  · rw [hsc, show (128 : Nat) = 2 ^ 7 from rfl, ← Nat.pow_mul]
    exact Nat.mul_mod_left _ _
  · rw [Nat.pow_mul]
    rw [hsc] at hm
    exact hm

theorem tk_pow {k sc : Nat} (hsc : sc = 128 ^ k) : (2 : Int) ^ (7 * k) = (sc : Int) := by
  rw [hsc, Int.pow_mul]
  simp

theorem tk_pow9 {k sc : Nat} (hsc : sc = 128 ^ k) (h : k = 9) : (9223372036854775808 : Int) = (sc : Int) := by
  rw [hsc, h]
  decide

def TakeJ (w : World) (l : List UInt8) (a : Option Addr) (ca : Nat) (a' : Act) (wr : World) : Prop :=
  ∃ (k m : Nat) (u2 u3 u4 u7 u8 u9 u10 u11 u12 u13 u14 u15 u16 u17 u18 u19 u20 u21 u22 u23 u24 u25 u26 u27 u28 u29 u30 u31 u32 u33 u34 u35 u36 u37 u38 u39 u40 u41 u42 : Value), a' = { tmps := List.toArray ((.slice a l.length ca) :: (undef) :: (u2) :: (u3) :: (u4) :: (.int .u64 m) :: (.int .i64 k) :: (u7) :: (u8) :: (u9) :: (u10) :: (u11) :: (u12) :: (u13) :: (u14) :: (u15) :: (u16) :: (u17) :: (u18) :: (u19) :: (u20) :: (u21) :: (u22) :: (u23) :: (u24) :: (u25) :: (u26) :: (u27) :: (u28) :: (u29) :: (u30) :: (u31) :: (u32) :: (u33) :: (u34) :: (u35) :: (u36) :: (u37) :: (u38) :: (u39) :: (u40) :: (u41) :: (u42) :: []), defers := [] } ∧ k ≤ l.length ∧ k ≤ 9 ∧ m < 128 ^ k ∧ Hid (vgo (l.drop k) k m = vtake l) ∧ Below w.heap.size w wr

set_option maxRecDepth 100000 in
set_option maxHeartbeats 400000 in
theorem take_any (vb : Value) (l : List UInt8) (w : World) (hb : Bs w vb l) :
    Calls Tryz.prog 103 #[vb] w fun e w' => e = .returned (.tuple #[.int .u64 (vtake l).1, .int .i64 (vtake l).2.1, .int .i64 (vtake l).2.2]) ∧ Below w.heap.size w w' := by
  obtain ⟨a, ca, adr, rfl, ha1, ha2, ha3, ha4, ha5⟩ := Bs.open_ elB hb
  clear hb
  go_enter Tryz.func103, Tryz.ntmps103
  go_wp2
  refine wp_scope_jumps2 0 (TakeJ w l a ca) (fun a' _ => l.length - (intOf (a'.tmps.getD 6 undef)).toNat) rfl ?_ ?_
  · intro hp
    go_wp2_with (fail)
    go_step3
    refine (by assumption : ∀ a w, Code.wp _ _ _ a w → _) _ _ (hp _ _ ⟨0, 0, _, _, _, _, _, _, _, _, _, _, _, _, _, _, _, _, _, _, _, _, _, _, _, _, _, _, _, _, _, _, _, _, _, _, _, _, _, _, _, rfl, by omega, by omega, by simp, rfl, Below.refl _ _⟩)
  · rintro a' wr ⟨k, m, u2, u3, u4, u7, u8, u9, u10, u11, u12, u13, u14, u15, u16, u17, u18, u19, u20, u21, u22, u23, u24, u25, u26, u27, u28, u29, u30, u31, u32, u33, u34, u35, u36, u37, u38, u39, u40, u41, u42, rfl, hk, hk9, hm, hv, hw⟩
    obtain ⟨sc, hsc⟩ : ∃ sc, sc = 128 ^ k := ⟨_, rfl⟩
    have HSC := Lib.hid hsc
    rw [← hsc] at hm
    clear hsc
    by_cases hlt : k < l.length
    · obtain ⟨x, hx⟩ : ∃ x, l[k]? = some x := ⟨_, List.getElem?_eq_getElem hlt⟩
      have h3 : wr.cell? (adr k) = some (.int .u8 x.toNat) := by rw [hw.cell (ha4 k hlt)]; exact ha5 k x hx
      obtain ⟨c, hc⟩ : ∃ c, c = x.toNat := ⟨_, rfl⟩
      have hc256 : c < 256 := by have := x.toNat_lt; omega
      rw [← hc] at h3
      have HX := Lib.hid hx
      have HC := Lib.hid hc
      clear ha5 ha4 hx hc
      have hne : ((k : Int) == l.length) = false := by simp; omega
      go_wp2
      rotate_left 3
      · have hk : ¬ k = 9 := by omega
        have e := hv.out
        rw [List.drop_eq_getElem_cons hlt, vgo, (List.getElem?_eq_some_iff.1 HX.out).2, ← HC.out, ← HSC.out, if_neg (by omega), if_neg (by omega)] at e
        have h1 := (mul128_le c k hk9 (fun h' => absurd h' hk)).2 (by omega)
        rw [← HSC.out] at h1
        rw [tk_val hk9 (fun h' => absurd h' hk) HSC.out hm hc256 rfl (tk_pow HSC.out)]
        go_step3
        refine ⟨rfl, ⟨k + 1, m + c % 128 * sc, _, _, _, _, _, _, _, _, _, _, _, _, _, _, _, _, _, _, _, _, _, _, _, _, _, _, _, _, _, _, _, _, _, _, _, _, _, _, _, rfl, by omega, by omega, by omega, e, hw⟩, ?_⟩
        simp [intOf]
        omega
      all_goals
        simp only [Exit.jump]
        have e := hv.out
        rw [List.drop_eq_getElem_cons hlt, vgo, (List.getElem?_eq_some_iff.1 HX.out).2, ← HC.out, ← HSC.out] at e
        repeat (first | rw [if_pos (by omega)] at e | rw [if_neg (by omega)] at e)
        go_ret3
        refine ⟨?_, hw⟩
        rw [← e]
        refine ret_3 ?_ ?_ ?_
        all_goals first | rfl | (exact tk_val hk9 (by omega) HSC.out hm hc256 (by omega) (tk_pow9 HSC.out (by omega))) | (exact tk_val hk9 (by omega) HSC.out hm hc256 (by omega) (tk_pow HSC.out)) | (show (_ : Int) = ((k + 1 : Nat) : Int); omega)
    · have hkl : k = l.length := by omega
      have e := hv.out
      rw [List.drop_eq_nil_of_le (by omega), vgo] at e
      have E := Lib.hid e
      have hq : ((k : Int) == l.length) = true := by simp; omega
      clear e hkl
      go_wp2
      simp only [Exit.jump]
      go_ret3
      refine ⟨?_, hw⟩
      rw [← E.out]
      rfl

end Go.Proofs.YtjnbdeopoohnmaaGreatDoor
/- FrameWhole: FramePut, FrameTake, FrameTake2, FrameWhole, FBspec as one text. -/
/- Walks of Put of layer 4 (frame), of its reference, and of the statement FramePuts. -/
namespace Go.Proofs.YtjnbdeopoohnmaaGreatDoor
open Go.RowKit

/-- a frame ahead of its checksum; a frame -/
def fhead (k : UInt8) (c : List UInt8) : List UInt8 := [199, k] ++ vput c.length ++ c
def fframe (k : UInt8) (c : List UInt8) : List UInt8 := fhead k c ++ cbytes (csum (fhead k c))

theorem csum_lt (l : List UInt8) : csum l < 4294967296 := cmore_lt 0 l
theorem cbytes_len (n : Nat) : (cbytes n).length = 4 := rfl

set_option maxRecDepth 100000 in
set_option maxHeartbeats 800000 in
theorem fput_any (k : UInt8) (K : Int) (hK : K = k.toNat) (y : Value) (c : List UInt8) (w : World) (hy : Bs w y c) (hc : c.length ≤ 1048576) :
    Calls Tryz.prog 70 #[.int .u8 K, y] w fun e w' => ∃ v, e = .returned (.tuple #[v, .int .i64 0]) ∧ Ob w' w.heap.size 5 v (fframe k c) ∧ Below w.heap.size w w' := by
  obtain ⟨a, ca, hs⟩ := hy.shape
  subst hs
  have hpn := vput_len10 c.length (by omega)
  have ho0 : Ob (w.alloc (.cells #[.int .u8 199, .int .u8 K] 5)) w.heap.size 5 (.slice (some ⟨w.heap.size, 0, none⟩) 2 2) [199, k] := ob_lit w 5 _ _ 2 rfl (by simp [maxLen]) (by simp [bv, hK])
  have hb0 : Below w.heap.size w (w.alloc (.cells #[.int .u8 199, .int .u8 K] 5)) := (Below.refl _ _).alloc (Nat.le_refl _) _
  clear hK
  go_enter Tryz.func70, Tryz.ntmps70
  go_wp2_with fail
  refine (put_int c.length (by omega) (by omega) _).mono ?_
  rintro e w1 ⟨v1, rfl, ho1, hb1⟩
  rw [show ((c.length : Int)).toNat = c.length by omega] at ho1
  have hA := ho0.below hb1
  have hw1 := hb0.trans (hb1.mono hb0.size)
  have hs1 := hw1.size
  go_wp2_with (first | (at_builtin; refine wpList_append_bytes hA ho1.bs elB (by simp; omega) (by simp; omega) hs1 ?_ _ _ rfl rfl rfl rfl; intro v2 w2 ho2 hg2 hb2 _; have hw2 := hw1.trans hb2; have hs2 := hw2.size; have hy2 := hy.below hw2) | (at_builtin; refine wpList_append_bytes ho2 hy2 elB (by simp; omega) (by simp; omega) hs2 ?_ _ _ rfl rfl rfl rfl; intro v3 w3 ho3 hg3 hb3 _; have hw3 := hw2.trans hb3; have hs3 := hw3.size; have HO3 := Lib.hid ho3; clear ho3 ho2 hA))
  have h3 : Ob w3 w.heap.size 5 v3 (fhead k c) := HO3.out
  clear HO3
  refine (sum_any _ _ _ h3.bs).mono ?_
  rintro e w4 ⟨rfl, hb4⟩
  go_wp2_with fail
  refine (cbytes_any _ (csum_lt _) _).mono ?_
  rintro e w5 ⟨v5, rfl, ho5, hb5⟩
  have h5 := (h3.below hb4).below hb5
  have hw5 := (hw3.trans (hb4.mono hs3)).trans (hb5.mono (by have := hb4.size; omega))
  have hs5 := hw5.size
  have hcl := cbytes_len (csum (fhead k c))
  have hfl : (fhead k c).length ≤ 1048590 := by simp [fhead]; omega
  have HCL : (cbytes (csum (fhead k c))).length ≤ 4 := by omega
  clear hcl
  go_wp2_with (at_builtin; go_must (refine wpList_append_bytes h5 ho5.bs elB (by omega) (by omega) hs5 ?_ _ _ rfl rfl rfl rfl); intro v6 w6 ho6 hg6 hb6 _; have HO6 := Lib.hid ho6; clear ho6)
  go_ret2
  exact ⟨_, rfl, HO6.out, hw5.trans hb6⟩

theorem fput_no (K : Int) (y : Value) (c : List UInt8) (w : World) (hy : Bs w y c) (hc : 1048576 < c.length) :
    Calls Tryz.prog 70 #[.int .u8 K, y] w fun e w' => e = .returned (.tuple #[.slice none 0 0, .int .i64 3]) ∧ Below w.heap.size w w' := by
  obtain ⟨a, ca, hs⟩ := hy.shape
  subst hs
  have hc' : (1048576 : Int) < c.length := by omega
  go_enter Tryz.func70, Tryz.ntmps70
  go_wp2
  go_ret2
  exact ⟨rfl, Below.refl _ _⟩

set_option maxRecDepth 100000 in
set_option maxHeartbeats 800000 in
theorem rfput_any (k : UInt8) (K : Int) (hK : K = k.toNat) (y : Value) (c : List UInt8) (w : World) (hy : Bs w y c) (hc : c.length ≤ 1048576) :
    Calls Tryz.prog 35 #[.int .u8 K, y] w fun e w' => ∃ v, e = .returned v ∧ Ob w' w.heap.size 5 v (fframe k c) ∧ Below w.heap.size w w' := by
  obtain ⟨a, ca, hs⟩ := hy.shape
  subst hs
  have hpn := vput_len10 c.length (by omega)
  have ho0 : Ob (w.alloc (.cells #[.int .u8 199, .int .u8 K] 5)) w.heap.size 5 (.slice (some ⟨w.heap.size, 0, none⟩) 2 2) [199, k] := ob_lit w 5 _ _ 2 rfl (by simp [maxLen]) (by simp [bv, hK])
  have hb0 : Below w.heap.size w (w.alloc (.cells #[.int .u8 199, .int .u8 K] 5)) := (Below.refl _ _).alloc (Nat.le_refl _) _
  clear hK
  go_enter Tryz.func35, Tryz.ntmps35
  go_wp2_with fail
  refine (rput_int c.length (by omega) (by omega) _).mono ?_
  rintro e w1 ⟨v1, rfl, ho1, hb1⟩
  rw [show ((c.length : Int)).toNat = c.length by omega] at ho1
  have hA := ho0.below hb1
  have hw1 := hb0.trans (hb1.mono hb0.size)
  have hs1 := hw1.size
  go_wp2_with (first | (at_builtin; refine wpList_append_bytes hA ho1.bs elB (by simp; omega) (by simp; omega) hs1 ?_ _ _ rfl rfl rfl rfl; intro v2 w2 ho2 hg2 hb2 _; have hw2 := hw1.trans hb2; have hs2 := hw2.size; have hy2 := hy.below hw2) | (at_builtin; refine wpList_append_bytes ho2 hy2 elB (by simp; omega) (by simp; omega) hs2 ?_ _ _ rfl rfl rfl rfl; intro v3 w3 ho3 hg3 hb3 _; have hw3 := hw2.trans hb3; have hs3 := hw3.size; have HO3 := Lib.hid ho3; clear ho3 ho2 hA))
  have h3 : Ob w3 w.heap.size 5 v3 (fhead k c) := HO3.out
  clear HO3
  refine (crsum_any _ _ _ h3.bs).mono ?_
  rintro e w4 ⟨rfl, rfl⟩
  go_wp2_with fail
  refine (rcbytes_any _ (csum_lt _) _).mono ?_
  rintro e w5 ⟨v5, rfl, ho5, hb5⟩
  have h5 := h3.below hb5
  have hw5 := hw3.trans (hb5.mono hs3)
  have hs5 := hw5.size
  have hcl := cbytes_len (csum (fhead k c))
  have hfl : (fhead k c).length ≤ 1048590 := by simp [fhead]; omega
  have HCL : (cbytes (csum (fhead k c))).length ≤ 4 := by omega
  clear hcl
  go_wp2_with (at_builtin; go_must (refine wpList_append_bytes h5 ho5.bs elB (by omega) (by omega) hs5 ?_ _ _ rfl rfl rfl rfl); intro v6 w6 ho6 hg6 hb6 _; have HO6 := Lib.hid ho6; clear ho6)
  go_ret
  exact ⟨_, rfl, HO6.out, hw5.trans hb6⟩

end Go.Proofs.YtjnbdeopoohnmaaGreatDoor
/- Walks of Take and Whole of layer 4 (frame) and of its reference. -/
namespace Go.Proofs.YtjnbdeopoohnmaaGreatDoor
open Go.RowKit

/-- what bytes begin with, as a frame: kind, content, how many bytes, the error's number -/
def ftake (b : List UInt8) : UInt8 × List UInt8 × Nat × Nat :=
  if b.length = 0 then (0, [], 0, 10)
  else if b[0]? ≠ some 199 then (0, [], 0, 11)
  else if b.length = 1 then (0, [], 0, 10)
  else if (vtake (b.drop 2)).2.2 ≠ 0 then (0, [], 0, (vtake (b.drop 2)).2.2)
  else if 1048576 < (vtake (b.drop 2)).1 then (0, [], 0, 3)
  else if b.length < 2 + (vtake (b.drop 2)).2.1 + (vtake (b.drop 2)).1 + 4 then (0, [], 0, 10)
  else if (b.drop (2 + (vtake (b.drop 2)).2.1 + (vtake (b.drop 2)).1)).take 4 ≠ cbytes (csum (b.take (2 + (vtake (b.drop 2)).2.1 + (vtake (b.drop 2)).1))) then (0, [], 0, 12)
  else (b[1]?.getD 0, (b.drop (2 + (vtake (b.drop 2)).2.1)).take (vtake (b.drop 2)).1, 2 + (vtake (b.drop 2)).2.1 + (vtake (b.drop 2)).1 + 4, 0)

theorem Bs.str {w : World} {v : Value} {l : List UInt8} (h : Bs w v l) : (convert 25 9 v).run Tryz.prog w = .ok (.string ⟨l.toArray⟩) w := by
  obtain ⟨_, a, c, rfl, h2, h3, h4, h5⟩ := h
  cases a with
  | none =>
    obtain rfl := h4 rfl
    have : l = [] := List.eq_nil_of_length_eq_zero (by omega)
    subst this
    rw [run_convert_bytes_string w 25 9 5 none _ _ Tryz.underlying25 Tryz.underlying5 Tryz.underlying9]
    rfl
  | some ad =>
    refine run_convert_bytes_back w 25 9 5 ad c l Tryz.underlying25 Tryz.underlying5 Tryz.underlying9 fun j hj => ?_
    rcases h5 with h5 | ⟨b, off, he, _, hc⟩
    · omega
    · cases he
      rw [Addr.add_lit]
      exact hc j _ (by simp [hj, bv])

theorem str_beq (la lb : List UInt8) : ((⟨la.toArray⟩ : ByteArray).toList == (⟨lb.toArray⟩ : ByteArray).toList) = (la == lb) := by
  rw [Go.ByteArray.toList_eq, Go.ByteArray.toList_eq]

theorem equal_any (va vb : Value) (la lb : List UInt8) (w : World) (ha : Bs w va la) (hb : Bs w vb lb) :
    Calls Tryz.prog 104 #[va, vb] w fun e w' => e = .returned (.bool (la == lb)) ∧ w = w' := by
  obtain ⟨a, ca, hs⟩ := ha.shape
  subst hs
  obtain ⟨b, cb, hs⟩ := hb.shape
  subst hs
  have h1 := ha.str
  have h2 := hb.str
  obtain ⟨sa, hsa⟩ : ∃ s : ByteArray, s = ⟨la.toArray⟩ := ⟨_, rfl⟩
  obtain ⟨sb, hsb⟩ : ∃ s : ByteArray, s = ⟨lb.toArray⟩ := ⟨_, rfl⟩
  rw [← hsa] at h1
  rw [← hsb] at h2
  have HA := Lib.hid hsa
  have HB := Lib.hid hsb
  clear hsa hsb ha hb
  go_enter Tryz.func104, Tryz.ntmps104
  go_wp2
  go_ret
  exact ⟨ret_bool (by rw [HA.out, HB.out, str_beq]), rfl⟩


def TakenPost (l : List UInt8) (w : World) (e : Ending) (w' : World) : Prop :=
  ∃ v, e = .returned (.tuple #[.int .u8 (ftake l).1.toNat, v, .int .i64 (ftake l).2.2.1, .int .i64 (ftake l).2.2.2]) ∧ Bs w' v (ftake l).2.1 ∧ Below w.heap.size w w'

def FTakeJ (w : World) (l : List UInt8) (y : Value) (a' : Act) (wr : World) : Prop :=
  ∃ (e : Nat) (u2 u3 u4 u6 u7 u8 u9 u10 u11 u12 u13 u14 u15 u16 u17 u18 u19 u20 u21 u22 u23 u24 u25 u26 u27 u28 u29 u30 u31 u32 u33 u34 u35 u36 u37 u38 u39 u40 u41 u42 u43 u44 u45 u46 u47 u48 u49 u50 u51 u52 u53 u54 u55 u56 u57 u58 u59 u60 u61 u62 u63 : Value), a' = { tmps := List.toArray ((y) :: (undef) :: (u2) :: (u3) :: (u4) :: (.int .i64 e) :: (u6) :: (u7) :: (u8) :: (u9) :: (u10) :: (u11) :: (u12) :: (u13) :: (u14) :: (u15) :: (u16) :: (u17) :: (u18) :: (u19) :: (u20) :: (u21) :: (u22) :: (u23) :: (u24) :: (u25) :: (u26) :: (u27) :: (u28) :: (u29) :: (u30) :: (u31) :: (u32) :: (u33) :: (u34) :: (u35) :: (u36) :: (u37) :: (u38) :: (u39) :: (u40) :: (u41) :: (u42) :: (u43) :: (u44) :: (u45) :: (u46) :: (u47) :: (u48) :: (u49) :: (u50) :: (u51) :: (u52) :: (u53) :: (u54) :: (u55) :: (u56) :: (u57) :: (u58) :: (u59) :: (u60) :: (u61) :: (u62) :: (u63) :: []), defers := [] } ∧ Hid (ftake l = (0, [], 0, e)) ∧ Below w.heap.size w wr

set_option maxRecDepth 100000 in
set_option maxHeartbeats 1600000 in
theorem ftake_any (y : Value) (l : List UInt8) (w : World) (hy : Bs w y l) (hl : l.length ≤ 1073741824) : Calls Tryz.prog 78 #[y] w (TakenPost l w) := by
  obtain ⟨a, ca, adr, hs, ha1, ha2, ha3, ha4, ha5⟩ := Bs.open_ elB hy
  subst hs
  go_enter Tryz.func78, Tryz.ntmps78
  go_wp2
  refine wp_scope_jumps 0 (FTakeJ w l (.slice a l.length ca)) (fun _ _ => 0) rfl ?_ ?_
  · by_cases c1 : l.length = 0
    · have q1 : ((l.length : Int) == 0) = true := by rw [beq_iff_eq]; omega
      have hf : Hid (ftake l = (0, [], 0, 10)) := by show _ = _; unfold ftake; rw [if_pos c1]
      clear c1
      go_wp2
      go_step3
      exact ⟨rfl, 10, _, _, _, _, _, _, _, _, _, _, _, _, _, _, _, _, _, _, _, _, _, _, _, _, _, _, _, _, _, _, _, _, _, _, _, _, _, _, _, _, _, _, _, _, _, _, _, _, _, _, _, _, _, _, _, _, _, _, _, _, _, rfl, hf, Below.refl _ _⟩
    · have q1 : ((l.length : Int) == 0) = false := by rw [beq_eq_false_iff_ne]; omega
      have x00 : ∀ W : World, (Instr.indexAt 25 (.slice a l.length ca) (.int .i64 0)).run Tryz.prog W = .ok (.pointer (some (adr 0))) W := fun W => ha3 W 0 (by omega) (by omega)
      obtain ⟨x, hx⟩ : ∃ x, l[0]? = some x := ⟨_, List.getElem?_eq_getElem (by omega)⟩
      have h0 : w.cell? (adr 0) = some (.int .u8 x.toNat) := ha5 0 x hx
      by_cases c2 : x = 199
      · have q2 : ((x.toNat : Int) != 199) = false := by rw [c2]; rfl
        by_cases c3 : l.length = 1
        · have q3 : ((l.length : Int) == 1) = true := by rw [beq_iff_eq]; omega
          have hf : Hid (ftake l = (0, [], 0, 10)) := by show _ = _; unfold ftake; rw [if_neg c1, if_neg (by rw [hx, c2]; simp), if_pos c3]
          clear c1 c2 c3 hx
          go_wp2
          go_step3
          exact ⟨rfl, 10, _, _, _, _, _, _, _, _, _, _, _, _, _, _, _, _, _, _, _, _, _, _, _, _, _, _, _, _, _, _, _, _, _, _, _, _, _, _, _, _, _, _, _, _, _, _, _, _, _, _, _, _, _, _, _, _, _, _, _, _, _, rfl, hf, Below.refl _ _⟩
        · have q3 : ((l.length : Int) == 1) = false := by rw [beq_eq_false_iff_ne]; omega
          have hlen2 : (2 : Int) ≤ l.length := by omega
          obtain ⟨n, k, f, hv⟩ : ∃ n k f, vtake (l.drop 2) = (n, k, f) := ⟨_, _, _, rfl⟩
          obtain ⟨Y, hY, hd⟩ := hy.from elB 2 (by omega)
          have hY' : ∀ W : World, (Instr.sliceAt 25 (.slice a l.length ca) (some (.int .i64 2)) none none).run Tryz.prog W = .ok Y W := hY
          clear hY
          have htk := take_any _ _ w hd
          rw [hv] at htk
          have HTK := Lib.hid htk
          have hgood := vtake_good (l.drop 2)
          rw [hv] at hgood
          have HG := Lib.hid hgood
          have hfx : Hid (ftake l = if f ≠ 0 then (0, [], 0, f) else if 1048576 < n then (0, [], 0, 3) else if l.length < 2 + k + n + 4 then (0, [], 0, 10) else if (l.drop (2 + k + n)).take 4 ≠ cbytes (csum (l.take (2 + k + n))) then (0, [], 0, 12)
              else (l[1]?.getD 0, (l.drop (2 + k)).take n, 2 + k + n + 4, 0)) := by
            show _ = _; unfold ftake; rw [if_neg c1, if_neg (by rw [hx, c2]; simp), if_neg c3, hv]
          have x01 : ∀ W : World, (Instr.indexAt 25 (.slice a l.length ca) (.int .i64 1)).run Tryz.prog W = .ok (.pointer (some (adr 1))) W := fun W => ha3 W 1 (by omega) (by omega)
          obtain ⟨x1, hx1⟩ : ∃ x, l[1]? = some x := ⟨_, List.getElem?_eq_getElem (by omega)⟩
          have h1c : w.cell? (adr 1) = some (.int .u8 x1.toNat) := ha5 1 x1 hx1
          have HX1 := Lib.hid hx1
          have hb1 : (adr 1).block < w.heap.size := ha4 1 (by omega)
          clear htk hgood hv hd c1 c2 c3 hx hx1 ha4 ha5
          go_wp2_with fail
          refine HTK.out.mono ?_
          rintro e w1 ⟨rfl, hw1⟩
          clear hY' HTK
          by_cases c4 : f = 0
          · subst c4
            obtain ⟨hn, hk1, hk2, hput⟩ := HG.out rfl
            try simp only at hn hk1 hk2 hput
            have HP := Lib.hid hput
            clear hput HG
            have hk3 : k ≤ l.length - 2 := by rw [List.length_drop] at hk2; exact hk2
            clear hk2
            by_cases c5 : 1048576 < n
            · have hf : Hid (ftake l = (0, [], 0, 3)) := by show _ = _; rw [hfx.out, if_neg (by omega), if_pos c5]
              go_wp2
              go_step3
              exact ⟨rfl, 3, _, _, _, _, _, _, _, _, _, _, _, _, _, _, _, _, _, _, _, _, _, _, _, _, _, _, _, _, _, _, _, _, _, _, _, _, _, _, _, _, _, _, _, _, _, _, _, _, _, _, _, _, _, _, _, _, _, _, _, _, _, rfl, hf, hw1⟩
            · by_cases c6 : l.length < 2 + k + n + 4
              · have hf : Hid (ftake l = (0, [], 0, 10)) := by show _ = _; rw [hfx.out, if_neg (by omega), if_neg c5, if_pos c6]
                go_wp2
                go_step3
                exact ⟨rfl, 10, _, _, _, _, _, _, _, _, _, _, _, _, _, _, _, _, _, _, _, _, _, _, _, _, _, _, _, _, _, _, _, _, _, _, _, _, _, _, _, _, _, _, _, _, _, _, _, _, _, _, _, _, _, _, _, _, _, _, _, _, _, rfl, hf, hw1⟩
              · obtain ⟨m, hm⟩ : ∃ m, m = 2 + k + n := ⟨_, rfl⟩
                rw [← hm] at c6
                have hfx2 : Hid (ftake l = if (l.drop m).take 4 ≠ cbytes (csum (l.take m)) then (0, [], 0, 12) else (l[1]?.getD 0, (l.drop (2 + k)).take n, m + 4, 0)) := by
                  show _ = _; rw [hfx.out, if_neg (by omega), if_neg c5, ← hm, if_neg c6]
                obtain ⟨Y1, hY1, hd1⟩ := hy.piece elB m (m + 4) (by omega) (by omega)
                obtain ⟨Y2, hY2, hd2⟩ := hy.upto elB m (by omega)
                obtain ⟨Y3, hY3, hd3⟩ := hy.piece elB (2 + k) m (by omega) (by omega)
                have hme : (2 : Int) + k + n = (m : Int) := by omega
                have hm4 : ((m + 4 : Nat) : Int) = (m : Int) + 4 := by omega
                have hk22 : ((2 + k : Nat) : Int) = 2 + (k : Int) := by omega
                rw [hm4] at hY1
                rw [hk22] at hY3
                have hw4 : IntKind.i64.wrap ((m : Int) + 4) = (m : Int) + 4 := IntWalk.i64_in _ (by constructor <;> omega)
                have hw5 : IntKind.i64.wrap (2 + (k : Int)) = 2 + (k : Int) := IntWalk.i64_in _ (by constructor <;> omega)
                have hmn : (l.drop (2 + k)).take (m - (2 + k)) = (l.drop (2 + k)).take n := by congr 1; omega
                rw [hmn] at hd3
                have hm4' : m + 4 - m = 4 := by omega
                rw [hm4'] at hd1
                have h1w : w1.cell? (adr 1) = some (.int .u8 x1.toNat) := (hw1.cell hb1).trans h1c
                have hbd1 := hd1.below hw1
                have hbd2 := hd2.below hw1
                have hbd3 := hd3.below hw1
                clear hm hmn hm4 hm4' hk22 ha3 hfx
                have hcm : (m : Int) + 4 ≤ l.length := by omega
                go_wp2
                by_cases c7 : (l.drop m).take 4 = cbytes (csum (l.take m))
                · have heq : Hid (((l.drop m).take 4 == cbytes (csum (l.take m))) = true) := by show _ = _; simp [c7]
                  have hf : Hid (ftake l = (l[1]?.getD 0, (l.drop (2 + k)).take n, m + 4, 0)) := by show _ = _; rw [hfx2.out, if_neg (by simpa using c7)]
                  clear c7
                  go_region_held3 (fun _ => True) (exact trivial) (first | (go_at_call 101; refine (sum_any _ _ _ hbd2.drew).mono ?_; rintro e w2 ⟨rfl, hw2⟩) | (go_at_call 100; refine (cbytes_any _ (csum_lt _) _).mono ?_; rintro e w3 ⟨v3, rfl, ho3, hw3⟩) | (go_at_call 104; refine (equal_any _ _ _ _ _ ((hbd1.drew.below hw2).below hw3) ho3.bs).mono ?_; rintro e w4 ⟨rfl, rfl⟩; rw [heq.out]))
                  have hW3 : Below w1.heap.size w1 w3 := (((Below.refl _ _).drew).trans (hw2.mono (Nat.le_refl _))).trans (hw3.mono (by have := hw2.size; exact this))
                  have hwW3 := hw1.trans (hW3.mono hw1.size)
                  have h1w3 : w3.cell? (adr 1) = some (.int .u8 x1.toNat) := (hwW3.cell hb1).trans h1c
                  have hb13 : (adr 1).block < w3.heap.size := by have := hwW3.size; omega
                  have hbd33 := (hd3.below hwW3).drew
                  have H3 := Lib.hid ho3
                  clear ho3
                  go_wp2
                  go_region_held3 (fun w' => w'.cell? (adr 1) = some (.int .u8 x1.toNat)) (go_keep) (first | (go_at_call 27; refine (clone_any _ _ _ hbd33 (by simp; omega)).mono ?_; rintro e w5 ⟨v5, rfl, ho5, hw5⟩; have g5 := (hw5.cell hb13).trans h1w3))
                  go_wp2
                  simp only [Exit.jump]
                  refine bodyPost_ret (v := .tuple #[.int .u8 x1.toNat, v5, .int .i64 ((m : Int) + 4), .int .i64 0]) (by simp [results, Tryz.results78, go_sem]) rfl ⟨v5, ?_, ?_, ?_⟩
                  · rw [hf.out, HX1.out]; rfl
                  · rw [hf.out]; exact ho5.bs
                  · exact hwW3.drew.trans (hw5.mono hwW3.size)
                · have heq : Hid (((l.drop m).take 4 == cbytes (csum (l.take m))) = false) := by show _ = _; simp [c7]
                  have hf : Hid (ftake l = (0, [], 0, 12)) := by show _ = _; rw [hfx2.out, if_pos c7]
                  clear c7
                  go_region_held3 (fun _ => True) (exact trivial) (first | (go_at_call 101; refine (sum_any _ _ _ hbd2.drew).mono ?_; rintro e w2 ⟨rfl, hw2⟩) | (go_at_call 100; refine (cbytes_any _ (csum_lt _) _).mono ?_; rintro e w3 ⟨v3, rfl, ho3, hw3⟩) | (go_at_call 104; refine (equal_any _ _ _ _ _ ((hbd1.drew.below hw2).below hw3) ho3.bs).mono ?_; rintro e w4 ⟨rfl, rfl⟩; rw [heq.out]))
                  have hW3 : Below w1.heap.size w1 w3 := (((Below.refl _ _).drew).trans (hw2.mono (Nat.le_refl _))).trans (hw3.mono (by have := hw2.size; exact this))
                  have hwW3 := hw1.trans (hW3.mono hw1.size)
                  clear ho3
                  go_wp2
                  go_step3
                  exact ⟨rfl, 12, _, _, _, _, _, _, _, _, _, _, _, _, _, _, _, _, _, _, _, _, _, _, _, _, _, _, _, _, _, _, _, _, _, _, _, _, _, _, _, _, _, _, _, _, _, _, _, _, _, _, _, _, _, _, _, _, _, _, _, _, _, rfl, hf, hwW3⟩
          · have hf : Hid (ftake l = (0, [], 0, f)) := by show _ = _; rw [hfx.out, if_pos c4]
            have q4 : ((f : Int) != 0) = true := by rw [bne_iff_ne]; omega
            clear c4
            go_wp2
            go_step3
            exact ⟨rfl, f, _, _, _, _, _, _, _, _, _, _, _, _, _, _, _, _, _, _, _, _, _, _, _, _, _, _, _, _, _, _, _, _, _, _, _, _, _, _, _, _, _, _, _, _, _, _, _, _, _, _, _, _, _, _, _, _, _, _, _, _, _, rfl, hf, hw1⟩
      · have q2 : ((x.toNat : Int) != 199) = true := by
          rw [bne_iff_ne]; intro h; apply c2; apply UInt8.toNat_inj.1; have : (199 : UInt8).toNat = 199 := rfl; omega
        have hf : Hid (ftake l = (0, [], 0, 11)) := by show _ = _; unfold ftake; rw [if_neg c1, if_pos (by rw [hx]; simpa using c2)]
        clear c1 c2 hx
        go_wp2
        go_step3
        exact ⟨rfl, 11, _, _, _, _, _, _, _, _, _, _, _, _, _, _, _, _, _, _, _, _, _, _, _, _, _, _, _, _, _, _, _, _, _, _, _, _, _, _, _, _, _, _, _, _, _, _, _, _, _, _, _, _, _, _, _, _, _, _, _, _, _, rfl, hf, Below.refl _ _⟩
  · rintro a' wr ⟨e, u2, u3, u4, u6, u7, u8, u9, u10, u11, u12, u13, u14, u15, u16, u17, u18, u19, u20, u21, u22, u23, u24, u25, u26, u27, u28, u29, u30, u31, u32, u33, u34, u35, u36, u37, u38, u39, u40, u41, u42, u43, u44, u45, u46, u47, u48, u49, u50, u51, u52, u53, u54, u55, u56, u57, u58, u59, u60, u61, u62, u63, rfl, hf, hb⟩
    have HF := Lib.hid hf.out
    clear hf
    go_wp2
    simp only [Exit.jump]
    refine bodyPost_ret (v := .tuple #[.int .u8 0, .slice none 0 0, .int .i64 0, .int .i64 e]) (by simp [results, Tryz.results78, go_sem]) rfl ⟨.slice none 0 0, ?_, ?_, hb⟩
    · rw [HF.out]; rfl
    · rw [HF.out]; exact Rd.nil _ _


end Go.Proofs.YtjnbdeopoohnmaaGreatDoor
/- The walk of Take of layer 4's reference. -/
namespace Go.Proofs.YtjnbdeopoohnmaaGreatDoor
open Go.RowKit

theorem take_head (l : List UInt8) (x1 : UInt8) (n k m : Nat) (h0 : l[0]? = some 199) (h1 : l[1]? = some x1) (hk : vput n = (l.drop 2).take k) (hm : m = 2 + k + n) (hl : m ≤ l.length) :
    l.take m = fhead x1 ((l.drop (2 + k)).take n) := by
  match l, h0, h1 with
  | a :: b :: r, h0, h1 =>
    simp at h0 h1
    subst h0 h1
    simp only [List.drop_succ_cons, List.drop_zero] at hk
    have hlen : ((List.drop (2 + k) (199 :: b :: r)).take n).length = n := by
      simp only [List.length_take, List.length_drop, List.length_cons] at *
      omega
    unfold fhead
    rw [hlen, hk, hm]
    have e : 2 + k = k + 2 := by omega
    rw [e, show k + 2 + n = (k + n) + 2 by omega]
    simp only [List.take_succ_cons, List.drop_succ_cons, List.cons_append, List.nil_append]
    rw [List.take_add]

theorem take_frame (l : List UInt8) (x1 : UInt8) (n k m : Nat) (h0 : l[0]? = some 199) (h1 : l[1]? = some x1) (hk : vput n = (l.drop 2).take k) (hm : m = 2 + k + n) (hl : m + 4 ≤ l.length) :
    (fframe x1 ((l.drop (2 + k)).take n) == l.take (m + 4)) = ((l.drop m).take 4 == cbytes (csum (l.take m))) := by
  unfold fframe
  rw [← take_head l x1 n k m h0 h1 hk hm (by omega), List.take_add, Bool.eq_iff_iff, beq_iff_eq, beq_iff_eq, List.append_cancel_left_eq]
  exact ⟨fun h => h.symm, fun h => h.symm⟩

set_option maxRecDepth 100000 in
set_option maxHeartbeats 1600000 in
theorem rftake_any (y : Value) (l : List UInt8) (w : World) (hy : Bs w y l) (hl : l.length ≤ 1048576) : Calls Tryz.prog 86 #[y] w (TakenPost l w) := by
  obtain ⟨a, ca, adr, hs, ha1, ha2, ha3, ha4, ha5⟩ := Bs.open_ elB hy
  subst hs
  by_cases c1 : l.length = 0
  · have q1 : ((l.length : Int) == 0) = true := by rw [beq_iff_eq]; omega
    have hf : Hid (ftake l = (0, [], 0, 10)) := by show _ = _; unfold ftake; rw [if_pos c1]
    clear c1
    go_enter Tryz.func86, Tryz.ntmps86
    go_wp2
    refine bodyPost_ret (v := .tuple #[.int .u8 0, .slice none 0 0, .int .i64 0, .int .i64 10]) (by simp [results, Tryz.results86, go_sem]) rfl ⟨.slice none 0 0, ?_, ?_, Below.refl _ _⟩
    · rw [hf.out]; rfl
    · rw [hf.out]; exact Rd.nil _ _
  · have q1 : ((l.length : Int) == 0) = false := by rw [beq_eq_false_iff_ne]; omega
    have x00 : ∀ W : World, (Instr.indexAt 25 (.slice a l.length ca) (.int .i64 0)).run Tryz.prog W = .ok (.pointer (some (adr 0))) W := fun W => ha3 W 0 (by omega) (by omega)
    obtain ⟨x, hx⟩ : ∃ x, l[0]? = some x := ⟨_, List.getElem?_eq_getElem (by omega)⟩
    have h0 : w.cell? (adr 0) = some (.int .u8 x.toNat) := ha5 0 x hx
    by_cases c2 : x = 199
    · have q2 : ((x.toNat : Int) != 199) = false := by rw [c2]; rfl
      by_cases c3 : l.length = 1
      · have q3 : (l.length : Int) < 2 := by omega
        have hf : Hid (ftake l = (0, [], 0, 10)) := by show _ = _; unfold ftake; rw [if_neg c1, if_neg (by rw [hx, c2]; simp), if_pos c3]
        clear c1 c2 c3 hx
        go_enter Tryz.func86, Tryz.ntmps86
        go_wp2
        refine bodyPost_ret (v := .tuple #[.int .u8 0, .slice none 0 0, .int .i64 0, .int .i64 10]) (by simp [results, Tryz.results86, go_sem]) rfl ⟨.slice none 0 0, ?_, ?_, Below.refl _ _⟩
        · rw [hf.out]; rfl
        · rw [hf.out]; exact Rd.nil _ _
      · have hlen2 : (2 : Int) ≤ l.length := by omega
        obtain ⟨n, k, f, hv⟩ : ∃ n k f, vtake (l.drop 2) = (n, k, f) := ⟨_, _, _, rfl⟩
        obtain ⟨Y, hY, hd⟩ := hy.from elB 2 (by omega)
        have hY' : ∀ W : World, (Instr.sliceAt 25 (.slice a l.length ca) (some (.int .i64 2)) none none).run Tryz.prog W = .ok Y W := hY
        clear hY
        have htk := rtake_any _ _ w hd
        rw [hv] at htk
        have HTK := Lib.hid htk
        have hgood := vtake_good (l.drop 2)
        rw [hv] at hgood
        have HG := Lib.hid hgood
        have hfx : Hid (ftake l = if f ≠ 0 then (0, [], 0, f) else if 1048576 < n then (0, [], 0, 3) else if l.length < 2 + k + n + 4 then (0, [], 0, 10) else if (l.drop (2 + k + n)).take 4 ≠ cbytes (csum (l.take (2 + k + n))) then (0, [], 0, 12)
            else (l[1]?.getD 0, (l.drop (2 + k)).take n, 2 + k + n + 4, 0)) := by
          show _ = _; unfold ftake; rw [if_neg c1, if_neg (by rw [hx, c2]; simp), if_neg c3, hv]
        have x01 : ∀ W : World, (Instr.indexAt 25 (.slice a l.length ca) (.int .i64 1)).run Tryz.prog W = .ok (.pointer (some (adr 1))) W := fun W => ha3 W 1 (by omega) (by omega)
        obtain ⟨x1, hx1⟩ : ∃ x, l[1]? = some x := ⟨_, List.getElem?_eq_getElem (by omega)⟩
        have h1c : w.cell? (adr 1) = some (.int .u8 x1.toNat) := ha5 1 x1 hx1
        have HX1 := Lib.hid hx1
        have HX0 : Hid (l[0]? = some 199) := by rw [← c2]; exact hx
        have hb1 : (adr 1).block < w.heap.size := ha4 1 (by omega)
        clear htk hgood hv c1 c2 c3 hx hx1 ha4 ha5
        go_enter Tryz.func86, Tryz.ntmps86
        go_wp2_with fail
        refine HTK.out.mono ?_
        rintro e w1 ⟨rfl, hw1⟩
        clear hY' HTK
        by_cases c4 : f = 0
        · subst c4
          obtain ⟨hn, hk1, hk2, hput⟩ := HG.out rfl
          try simp only at hn hk1 hk2 hput
          have HP := Lib.hid hput
          clear hput HG
          have hk3 : k ≤ l.length - 2 := by rw [List.length_drop] at hk2; exact hk2
          clear hk2
          by_cases c5 : 1048576 < n
          · have hf : Hid (ftake l = (0, [], 0, 3)) := by show _ = _; rw [hfx.out, if_neg (by omega), if_pos c5]
            go_wp2
            refine bodyPost_ret (v := .tuple #[.int .u8 0, .slice none 0 0, .int .i64 0, .int .i64 3]) (by simp [results, Tryz.results86, go_sem]) rfl ⟨.slice none 0 0, ?_, ?_, hw1⟩
            · rw [hf.out]; rfl
            · rw [hf.out]; exact Rd.nil _ _
          · by_cases c6 : l.length < 2 + k + n + 4
            · have hf : Hid (ftake l = (0, [], 0, 10)) := by show _ = _; rw [hfx.out, if_neg (by omega), if_neg c5, if_pos c6]
              go_wp2
              refine bodyPost_ret (v := .tuple #[.int .u8 0, .slice none 0 0, .int .i64 0, .int .i64 10]) (by simp [results, Tryz.results86, go_sem]) rfl ⟨.slice none 0 0, ?_, ?_, hw1⟩
              · rw [hf.out]; rfl
              · rw [hf.out]; exact Rd.nil _ _
            · obtain ⟨m, hm⟩ : ∃ m, m = 2 + k + n := ⟨_, rfl⟩
              rw [← hm] at c6
              have hfx2 : Hid (ftake l = if (l.drop m).take 4 ≠ cbytes (csum (l.take m)) then (0, [], 0, 12) else (l[1]?.getD 0, (l.drop (2 + k)).take n, m + 4, 0)) := by
                show _ = _; rw [hfx.out, if_neg (by omega), if_neg c5, ← hm, if_neg c6]
              have hframe := Lib.hid (take_frame l x1 n k m HX0.out HX1.out HP.out hm (by omega))
              obtain ⟨Y2, hY2, hd2⟩ := hy.upto elB (m + 4) (by omega)
              obtain ⟨Y3, hY3, hd3⟩ := hy.piece elB (2 + k) m (by omega) (by omega)
              have hme : (2 : Int) + k + n = (m : Int) := by omega
              have hm4 : ((m + 4 : Nat) : Int) = (m : Int) + 4 := by omega
              have hk22 : ((2 + k : Nat) : Int) = 2 + (k : Int) := by omega
              have hm44 : (m : Int) + 4 - 4 = m := by omega
              rw [hm4] at hY2
              rw [hk22] at hY3
              have hmn : (l.drop (2 + k)).take (m - (2 + k)) = (l.drop (2 + k)).take n := by congr 1; omega
              rw [hmn] at hd3
              have h1w : w1.cell? (adr 1) = some (.int .u8 x1.toNat) := (hw1.cell hb1).trans h1c
              have hbd2 := hd2.below hw1
              have hbd3 := hd3.below hw1
              have hcl : ((l.drop (2 + k)).take n).length ≤ 1048576 := by rw [List.length_take]; omega
              clear hm hmn hm4 hk22 ha3 hfx
              have hcm : (m : Int) + 4 ≤ l.length := by omega
              have hb1w : (adr 1).block < w1.heap.size := by have := hw1.size; omega
              by_cases c7 : (l.drop m).take 4 = cbytes (csum (l.take m))
              · have heq : Hid ((fframe x1 ((l.drop (2 + k)).take n) == l.take (m + 4)) = true) := by show _ = _; rw [hframe.out]; simp [c7]
                have hf : Hid (ftake l = (l[1]?.getD 0, (l.drop (2 + k)).take n, m + 4, 0)) := by show _ = _; rw [hfx2.out, if_neg (by simpa using c7)]
                clear c7
                go_wp2
                go_region_held3 (fun w' => w'.cell? (adr 1) = some (.int .u8 x1.toNat)) (go_keep) (first | (go_at_call 35; refine (rfput_any x1 _ rfl _ _ _ hbd3.drew hcl).mono ?_; rintro e w2 ⟨v2, rfl, ho2, hw2⟩; have g2 := (hw2.cell hb1w).trans h1w) | (go_at_call 16; refine (same_any _ _ _ _ _ ho2.bs (hbd2.drew.below hw2)).mono ?_; rintro e w3 ⟨rfl, hw3⟩; rw [heq.out]; have g3 := (hw3.cell (Nat.lt_of_lt_of_le hb1w hw2.size)).trans g2))
                have hwW3 := (hw1.drew.trans (hw2.mono hw1.size)).trans (hw3.mono (Nat.le_trans hw1.size hw2.size))
                have hbd33 := hd3.below hwW3
                clear ho2
                go_wp2
                refine bodyPost_ret (v := .tuple #[.int .u8 x1.toNat, Y3, .int .i64 ((m : Int) + 4), .int .i64 0]) (by simp [results, Tryz.results86, go_sem]) rfl ⟨Y3, ?_, ?_, hwW3⟩
                · rw [hf.out, HX1.out]; rfl
                · rw [hf.out]; exact hbd33
              · have heq : Hid ((fframe x1 ((l.drop (2 + k)).take n) == l.take (m + 4)) = false) := by show _ = _; rw [hframe.out]; simp [c7]
                have hf : Hid (ftake l = (0, [], 0, 12)) := by show _ = _; rw [hfx2.out, if_pos c7]
                clear c7
                go_wp2
                go_region_held3 (fun w' => w'.cell? (adr 1) = some (.int .u8 x1.toNat)) (go_keep) (first | (go_at_call 35; refine (rfput_any x1 _ rfl _ _ _ hbd3.drew hcl).mono ?_; rintro e w2 ⟨v2, rfl, ho2, hw2⟩; have g2 := (hw2.cell hb1w).trans h1w) | (go_at_call 16; refine (same_any _ _ _ _ _ ho2.bs (hbd2.drew.below hw2)).mono ?_; rintro e w3 ⟨rfl, hw3⟩; rw [heq.out]; have g3 := (hw3.cell (Nat.lt_of_lt_of_le hb1w hw2.size)).trans g2))
                have hwW3 := (hw1.drew.trans (hw2.mono hw1.size)).trans (hw3.mono (Nat.le_trans hw1.size hw2.size))
                clear ho2
                go_wp2
                refine bodyPost_ret (v := .tuple #[.int .u8 0, .slice none 0 0, .int .i64 0, .int .i64 12]) (by simp [results, Tryz.results86, go_sem]) rfl ⟨.slice none 0 0, ?_, ?_, hwW3⟩
                · rw [hf.out]; rfl
                · rw [hf.out]; exact Rd.nil _ _
        · have hf : Hid (ftake l = (0, [], 0, f)) := by show _ = _; rw [hfx.out, if_pos c4]
          have q4 : ((f : Int) != 0) = true := by rw [bne_iff_ne]; omega
          clear c4
          go_wp2
          refine bodyPost_ret (v := .tuple #[.int .u8 0, .slice none 0 0, .int .i64 0, .int .i64 f]) (by simp [results, Tryz.results86, go_sem]) rfl ⟨.slice none 0 0, ?_, ?_, hw1⟩
          · rw [hf.out]; rfl
          · rw [hf.out]; exact Rd.nil _ _
    · have q2 : ((x.toNat : Int) != 199) = true := by
        rw [bne_iff_ne]; intro h; apply c2; apply UInt8.toNat_inj.1; have : (199 : UInt8).toNat = 199 := rfl; omega
      have hf : Hid (ftake l = (0, [], 0, 11)) := by show _ = _; unfold ftake; rw [if_neg c1, if_pos (by rw [hx]; simpa using c2)]
      clear c1 c2 hx
      go_enter Tryz.func86, Tryz.ntmps86
      go_wp2
      refine bodyPost_ret (v := .tuple #[.int .u8 0, .slice none 0 0, .int .i64 0, .int .i64 11]) (by simp [results, Tryz.results86, go_sem]) rfl ⟨.slice none 0 0, ?_, ?_, Below.refl _ _⟩
      · rw [hf.out]; rfl
      · rw [hf.out]; exact Rd.nil _ _

end Go.Proofs.YtjnbdeopoohnmaaGreatDoor
/- Walks of Whole of layer 4 and of its reference; the walk of the statement FrameTakes. -/
namespace Go.Proofs.YtjnbdeopoohnmaaGreatDoor
open Go.RowKit

def fwhole (k : UInt8) (l : List UInt8) : List UInt8 × Nat :=
  if (ftake l).2.2.2 ≠ 0 then ([], (ftake l).2.2.2) else if (ftake l).1 ≠ k then ([], 11) else if (ftake l).2.2.1 < l.length then ([], 13) else ((ftake l).2.1, 0)

def WholePost (k : UInt8) (l : List UInt8) (w : World) (e : Ending) (w' : World) : Prop :=
  ∃ v, e = .returned (.tuple #[v, .int .i64 (fwhole k l).2]) ∧ Bs w' v (fwhole k l).1 ∧ Below w.heap.size w w'

theorem u8_ne {a b : UInt8} (h : a ≠ b) : ((a.toNat : Int) != b.toNat) = true := by
  rw [bne_iff_ne]; intro e; exact h (UInt8.toNat_inj.1 (by omega))

set_option maxRecDepth 100000 in
theorem fwhole_any (k : UInt8) (K : Int) (hK : K = k.toNat) (y : Value) (l : List UInt8) (w : World) (hy : Bs w y l) (hl : l.length ≤ 1048576) : Calls Tryz.prog 42 #[.int .u8 K, y] w (WholePost k l w) := by
  subst hK
  obtain ⟨a, ca, hs⟩ := hy.shape
  subst hs
  have ht := ftake_any _ l w hy (by omega)
  obtain ⟨tk, tc, tn, tf, hv⟩ : ∃ a b c d, ftake l = (a, b, c, d) := ⟨_, _, _, _, rfl⟩
  have HT := Lib.hid ht
  have hw : Hid (fwhole k l = if tf ≠ 0 then ([], tf) else if tk ≠ k then ([], 11) else if tn < l.length then ([], 13) else (tc, 0)) := by show _ = _; unfold fwhole; rw [hv]
  have HV := Lib.hid hv
  clear ht hv
  go_enter Tryz.func42, Tryz.ntmps42
  go_wp2_with fail
  refine HT.out.mono ?_
  rintro e w1 ⟨v1, he, hb1, hw1⟩
  rw [HV.out] at he hb1
  subst he
  by_cases c1 : tf = 0
  · have q1 : ((tf : Int) != 0) = false := by rw [c1]; rfl
    by_cases c2 : tk = k
    · have q2 : ((tk.toNat : Int) != k.toNat) = false := by rw [c2]; simp
      by_cases c3 : tn < l.length
      · have hf : Hid (fwhole k l = ([], 13)) := by show _ = _; rw [hw.out, if_neg (by omega), if_neg (by simpa using c2), if_pos c3]
        clear c1 c2
        go_wp2
        refine bodyPost_ret (v := .tuple #[.slice none 0 0, .int .i64 13]) (by simp [results, Tryz.results42, go_sem]) rfl ⟨.slice none 0 0, ?_, ?_, hw1⟩
        · rw [hf.out]; rfl
        · rw [hf.out]; exact Rd.nil _ _
      · have hf : Hid (fwhole k l = (tc, 0)) := by show _ = _; rw [hw.out, if_neg (by omega), if_neg (by simpa using c2), if_neg c3]
        clear c1 c2
        go_wp2
        refine bodyPost_ret (v := .tuple #[v1, .int .i64 0]) (by simp [results, Tryz.results42, go_sem]) rfl ⟨v1, ?_, ?_, hw1⟩
        · rw [hf.out]; rfl
        · rw [hf.out]; exact hb1
    · have q2 := u8_ne c2
      have hf : Hid (fwhole k l = ([], 11)) := by show _ = _; rw [hw.out, if_neg (by omega), if_pos c2]
      clear c1 c2
      go_wp2
      refine bodyPost_ret (v := .tuple #[.slice none 0 0, .int .i64 11]) (by simp [results, Tryz.results42, go_sem]) rfl ⟨.slice none 0 0, ?_, ?_, hw1⟩
      · rw [hf.out]; rfl
      · rw [hf.out]; exact Rd.nil _ _
  · have q1 : ((tf : Int) != 0) = true := by rw [bne_iff_ne]; omega
    have hf : Hid (fwhole k l = ([], tf)) := by show _ = _; rw [hw.out, if_pos c1]
    clear c1
    go_wp2
    refine bodyPost_ret (v := .tuple #[.slice none 0 0, .int .i64 tf]) (by simp [results, Tryz.results42, go_sem]) rfl ⟨.slice none 0 0, ?_, ?_, hw1⟩
    · rw [hf.out]
    · rw [hf.out]; exact Rd.nil _ _

set_option maxRecDepth 100000 in
theorem rfwhole_any (k : UInt8) (K : Int) (hK : K = k.toNat) (y : Value) (l : List UInt8) (w : World) (hy : Bs w y l) (hl : l.length ≤ 1048576) : Calls Tryz.prog 50 #[.int .u8 K, y] w (WholePost k l w) := by
  subst hK
  obtain ⟨a, ca, hs⟩ := hy.shape
  subst hs
  have ht := rftake_any _ l w hy hl
  obtain ⟨tk, tc, tn, tf, hv⟩ : ∃ a b c d, ftake l = (a, b, c, d) := ⟨_, _, _, _, rfl⟩
  have HT := Lib.hid ht
  have hw : Hid (fwhole k l = if tf ≠ 0 then ([], tf) else if tk ≠ k then ([], 11) else if tn < l.length then ([], 13) else (tc, 0)) := by show _ = _; unfold fwhole; rw [hv]
  have HV := Lib.hid hv
  clear ht hv
  go_enter Tryz.func50, Tryz.ntmps50
  go_wp2_with fail
  refine HT.out.mono ?_
  rintro e w1 ⟨v1, he, hb1, hw1⟩
  rw [HV.out] at he hb1
  subst he
  by_cases c1 : tf = 0
  · have q1 : ((tf : Int) != 0) = false := by rw [c1]; rfl
    by_cases c2 : tk = k
    · have q2 : ((tk.toNat : Int) != k.toNat) = false := by rw [c2]; simp
      by_cases c3 : tn < l.length
      · have hf : Hid (fwhole k l = ([], 13)) := by show _ = _; rw [hw.out, if_neg (by omega), if_neg (by simpa using c2), if_pos c3]
        clear c1 c2
        go_wp2
        refine bodyPost_ret (v := .tuple #[.slice none 0 0, .int .i64 13]) (by simp [results, Tryz.results50, go_sem]) rfl ⟨.slice none 0 0, ?_, ?_, hw1⟩
        · rw [hf.out]; rfl
        · rw [hf.out]; exact Rd.nil _ _
      · have hf : Hid (fwhole k l = (tc, 0)) := by show _ = _; rw [hw.out, if_neg (by omega), if_neg (by simpa using c2), if_neg c3]
        clear c1 c2
        go_wp2
        refine bodyPost_ret (v := .tuple #[v1, .int .i64 0]) (by simp [results, Tryz.results50, go_sem]) rfl ⟨v1, ?_, ?_, hw1⟩
        · rw [hf.out]; rfl
        · rw [hf.out]; exact hb1
    · have q2 := u8_ne c2
      have hf : Hid (fwhole k l = ([], 11)) := by show _ = _; rw [hw.out, if_neg (by omega), if_pos c2]
      clear c1 c2
      go_wp2
      refine bodyPost_ret (v := .tuple #[.slice none 0 0, .int .i64 11]) (by simp [results, Tryz.results50, go_sem]) rfl ⟨.slice none 0 0, ?_, ?_, hw1⟩
      · rw [hf.out]; rfl
      · rw [hf.out]; exact Rd.nil _ _
  · have q1 : ((tf : Int) != 0) = true := by rw [bne_iff_ne]; omega
    have hf : Hid (fwhole k l = ([], tf)) := by show _ = _; rw [hw.out, if_pos c1]
    clear c1
    go_wp2
    refine bodyPost_ret (v := .tuple #[.slice none 0 0, .int .i64 tf]) (by simp [results, Tryz.results50, go_sem]) rfl ⟨.slice none 0 0, ?_, ?_, hw1⟩
    · rw [hf.out]
    · rw [hf.out]; exact Rd.nil _ _


end Go.Proofs.YtjnbdeopoohnmaaGreatDoor
/- The plain law of frames: what is framed is taken; cut off it is none. -/
namespace Go.Proofs.YtjnbdeopoohnmaaGreatDoor

theorem vgo_short (n : Nat) : ∀ (i m j : Nat), n * 128 ^ i < 18446744073709551616 → i ≤ 9 → j < (vput n).length → vgo ((vput n).take j) i m = (0, 0, 10) := by
  induction n using Nat.strongRecOn with
  | _ n ih =>
    intro i m j hb hi hj
    have h9 : i = 9 → n ≤ 1 := by
      rintro rfl
      have : (128 : Nat) ^ 9 = 9223372036854775808 := by decide
      rw [this] at hb
      omega
    by_cases hn : n < 128
    · rw [vput_small hn] at *
      have : j = 0 := by simpa using hj
      subst this
      rfl
    · rw [vput_big hn] at *
      cases j with
      | zero => rfl
      | succ j =>
        rw [List.take_succ_cons, vgo]
        have hc : (UInt8.ofNat (128 + n % 128)).toNat = 128 + n % 128 := by simp; omega
        rw [hc, if_neg (by omega), if_neg (by omega)]
        have hd : n / 128 * 128 ^ (i + 1) + n % 128 * 128 ^ i = n * 128 ^ i := by
          rw [Nat.pow_succ, Nat.mul_comm (128 ^ i) 128, ← Nat.mul_assoc, ← Nat.add_mul]
          congr 1
          omega
        exact ih (n / 128) (by omega) (i + 1) _ j (by omega) (by omega) (by simpa using hj)

theorem vtake_short (n j : Nat) (h : n < 18446744073709551616) (hj : j < (vput n).length) : vtake ((vput n).take j) = (0, 0, 10) := vgo_short n 0 0 j (by simpa using h) (by omega) hj

theorem fframe_len (k : UInt8) (c : List UInt8) : (fframe k c).length = 2 + (vput c.length).length + c.length + 4 := by
  unfold fframe fhead
  simp [cbytes_len]
  omega

theorem fframe_eq (k : UInt8) (c : List UInt8) : fframe k c = 199 :: k :: (vput c.length ++ (c ++ cbytes (csum (fhead k c)))) := by
  unfold fframe
  conv => lhs; lhs; unfold fhead
  simp

theorem ftake_frame (k : UInt8) (c more : List UInt8) (hc : c.length ≤ 1048576) : ftake (fframe k c ++ more) = (k, c, (fframe k c).length, 0) := by
  have hl := fframe_len k c
  have hv := vtake_vput c.length (by omega) (c ++ cbytes (csum (fhead k c)) ++ more)
  have hd : (fframe k c ++ more).drop 2 = vput c.length ++ (c ++ cbytes (csum (fhead k c)) ++ more) := by rw [fframe_eq]; simp
  have hh : (fhead k c).length = 2 + (vput c.length).length + c.length := by simp [fhead]; omega
  have hfr : fframe k c ++ more = fhead k c ++ (cbytes (csum (fhead k c)) ++ more) := by unfold fframe; simp
  unfold ftake
  rw [hd, hv]
  simp only
  rw [if_neg (by rw [List.length_append]; omega), if_neg (by rw [fframe_eq]; simp), if_neg (by rw [List.length_append]; omega), if_neg (by simp), if_neg (by omega), if_neg (by rw [List.length_append]; omega)]
  have h1 : (fframe k c ++ more).take (2 + (vput c.length).length + c.length) = fhead k c := by
    rw [hfr, ← hh]; exact List.take_left
  have h2 : ((fframe k c ++ more).drop (2 + (vput c.length).length + c.length)).take 4 = cbytes (csum (fhead k c)) := by
    rw [hfr, ← hh, List.drop_left, List.take_append_of_le_length (by rw [cbytes_len]; omega)]
    exact List.take_of_length_le (by rw [cbytes_len]; omega)
  rw [h1, h2, if_neg (by simp)]
  refine Prod.ext ?_ (Prod.ext ?_ (Prod.ext ?_ rfl))
  · rw [fframe_eq]; simp
  · show ((fframe k c ++ more).drop (2 + (vput c.length).length)).take c.length = c
    rw [← List.drop_drop, hd, List.drop_left]
    rw [List.append_assoc]
    exact List.take_left
  · show _ = (fframe k c).length
    rw [hl]

theorem fwhole_frame (k : UInt8) (c : List UInt8) (hc : c.length ≤ 1048576) : fwhole k (fframe k c) = (c, 0) := by
  have h := ftake_frame k c [] hc
  rw [List.append_nil] at h
  unfold fwhole
  rw [h]
  simp

theorem ftake_cut (k : UInt8) (c : List UInt8) (cut : Nat) (hc : c.length ≤ 1048576) (h : cut < (fframe k c).length) : (ftake ((fframe k c).take cut)).2.2.2 = 10 := by
  have hl := fframe_len k c
  have hlen : ((fframe k c).take cut).length = cut := by rw [List.length_take]; omega
  unfold ftake
  rw [hlen]
  by_cases h0 : cut = 0
  · rw [if_pos h0]
  · rw [if_neg h0]
    have hx : ((fframe k c).take cut)[0]? = some 199 := by rw [List.getElem?_take, if_pos (by omega), fframe_eq]; rfl
    rw [hx, if_neg (by simp)]
    by_cases h1 : cut = 1
    · rw [if_pos h1]
    · rw [if_neg h1]
      obtain ⟨j, rfl⟩ : ∃ j, cut = j + 2 := ⟨cut - 2, by omega⟩
      have hd : ((fframe k c).take (j + 2)).drop 2 = (vput c.length ++ (c ++ cbytes (csum (fhead k c)))).take j := by rw [fframe_eq]; simp
      rw [hd]
      by_cases hj : j < (vput c.length).length
      · rw [List.take_append_of_le_length (by omega), vtake_short _ _ (by omega) hj]
        rfl
      · have e : (vput c.length ++ (c ++ cbytes (csum (fhead k c)))).take j = vput c.length ++ (c ++ cbytes (csum (fhead k c))).take (j - (vput c.length).length) := by
          rw [List.take_append, List.take_of_length_le (by omega)]
        rw [e, vtake_vput _ (by omega)]
        simp only
        rw [if_neg (by simp), if_neg (by omega), if_pos (by omega)]

end Go.Proofs.YtjnbdeopoohnmaaGreatDoor
