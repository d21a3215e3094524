/- Crc: Cspec, CTable, Crc as one text. -/
import Derived.Test.YticpmkdlnjnfgaaVarint
/- The plain law of the checksum (layer 2). No program stands here. -/
namespace Go.Proofs.Yticpmkdlnjnfgaa

def cpoly : Nat := 3988292384

/-- one bit of the register, without an input -/
def cstep (n : Nat) : Nat := if n % 2 = 1 then n / 2 ^^^ cpoly else n / 2

theorem nxor_comm4 (a b c d : Nat) : (a ^^^ b) ^^^ (c ^^^ d) = (a ^^^ c) ^^^ (b ^^^ d) := by
  rw [Nat.xor_assoc, Nat.xor_assoc, ← Nat.xor_assoc b c d, Nat.xor_comm b c, Nat.xor_assoc c b d]

theorem cstep_xor (a b : Nat) : cstep (a ^^^ b) = cstep a ^^^ cstep b := by
  have h := @Nat.xor_mod_two_eq_one a b
  unfold cstep
  rw [Nat.xor_div_two]
  by_cases ha : a % 2 = 1 <;> by_cases hb : b % 2 = 1
  · rw [if_neg (by rw [h]; simp [ha, hb]), if_pos ha, if_pos hb, nxor_comm4, Nat.xor_self, Nat.xor_zero]
  · rw [if_pos (by rw [h]; simp [ha, hb]), if_pos ha, if_neg hb, Nat.xor_assoc, Nat.xor_assoc, Nat.xor_comm (b / 2)]
  · rw [if_pos (by rw [h]; simp [ha, hb]), if_neg ha, if_pos hb, Nat.xor_assoc]
  · rw [if_neg (by rw [h]; simp [ha, hb]), if_neg ha, if_neg hb]

theorem cstep_even (a : Nat) (h : a % 2 = 0) : cstep a = a / 2 := by unfold cstep; rw [if_neg (by omega)]

theorem xor_lt32 {a b : Nat} (ha : a < 4294967296) (hb : b < 4294967296) : a ^^^ b < 4294967296 := Nat.xor_lt_two_pow (n := 32) ha hb

theorem cstep_lt (a : Nat) (h : a < 4294967296) : cstep a < 4294967296 := by
  unfold cstep
  split
  · exact xor_lt32 (by omega) (by decide)
  · omega

theorem cstep_zero (d : Nat) (hd : d < 4294967296) (h : cstep d = 0) : d = 0 := by
  unfold cstep at h
  split at h
  · have e : d / 2 = cpoly := by
      have h1 : (d / 2 ^^^ cpoly) ^^^ cpoly = 0 ^^^ cpoly := by rw [h]
      rw [Nat.xor_assoc, Nat.xor_self, Nat.xor_zero, Nat.zero_xor] at h1
      exact h1
    unfold cpoly at e
    omega
  · omega

theorem xor_eq_zero {a b : Nat} (h : a ^^^ b = 0) : a = b := by
  have h1 : (a ^^^ b) ^^^ b = 0 ^^^ b := by rw [h]
  rwa [Nat.xor_assoc, Nat.xor_self, Nat.xor_zero, Nat.zero_xor] at h1

theorem cstep_inj (a b : Nat) (ha : a < 4294967296) (hb : b < 4294967296) (h : cstep a = cstep b) : a = b := by
  apply xor_eq_zero
  apply cstep_zero _ (xor_lt32 ha hb)
  rw [cstep_xor, h, Nat.xor_self]

def citer : Nat → Nat → Nat
  | 0, n => n
  | k + 1, n => citer k (cstep n)

theorem citer_xor (k : Nat) : ∀ a b, citer k (a ^^^ b) = citer k a ^^^ citer k b := by
  induction k with
  | zero => intro a b; rfl
  | succ k ih => intro a b; simp only [citer]; rw [cstep_xor, ih]

theorem citer_lt (k : Nat) : ∀ a, a < 4294967296 → citer k a < 4294967296 := by
  induction k with
  | zero => intro a h; exact h
  | succ k ih => intro a h; exact ih _ (cstep_lt a h)

theorem citer_inj (k : Nat) : ∀ a b, a < 4294967296 → b < 4294967296 → citer k a = citer k b → a = b := by
  induction k with
  | zero => intro a b _ _ h; exact h
  | succ k ih => intro a b ha hb h; exact cstep_inj a b ha hb (ih _ _ (cstep_lt a ha) (cstep_lt b hb) h)

theorem citer_add (j k : Nat) : ∀ a, citer (j + k) a = citer k (citer j a) := by
  induction j with
  | zero => intro a; rw [Nat.zero_add]; rfl
  | succ j ih => intro a; rw [Nat.succ_add]; exact ih _

theorem citer_mul (k : Nat) : ∀ q, citer k (2 ^ k * q) = q := by
  induction k with
  | zero => intro q; simp [citer]
  | succ k ih =>
    intro q
    have h1 : (2 ^ (k + 1) * q) % 2 = 0 := by
      rw [Nat.pow_succ, Nat.mul_comm (2 ^ k) 2, Nat.mul_assoc]; omega
    have h2 : 2 ^ (k + 1) * q / 2 = 2 ^ k * q := by
      rw [Nat.pow_succ, Nat.mul_comm (2 ^ k) 2, Nat.mul_assoc]; omega
    simp only [citer]
    rw [cstep_even _ h1, h2, ih]

/-- the table's entry -/
def ctab (i : Nat) : Nat := citer 4 i

theorem split_xor (k c : Nat) : c = (2 ^ k * (c / 2 ^ k)) ^^^ (c % 2 ^ k) := by
  have h : 2 ^ k * (c / 2 ^ k) ||| c % 2 ^ k = 2 ^ k * (c / 2 ^ k) + c % 2 ^ k := by
    have := Nat.two_pow_add_eq_or_of_lt (Nat.mod_lt c (Nat.two_pow_pos k)) (c / 2 ^ k)
    omega
  have h2 : 2 ^ k * (c / 2 ^ k) ^^^ c % 2 ^ k = 2 ^ k * (c / 2 ^ k) ||| c % 2 ^ k := by
    apply Nat.eq_of_testBit_eq
    intro i
    rw [Nat.testBit_xor, Nat.testBit_or, Nat.testBit_mod_two_pow, Nat.testBit_two_pow_mul]
    by_cases h : i < k
    · simp [h, show ¬ k ≤ i by omega]
    · simp [h]
  rw [h2, h]
  exact (Nat.div_add_mod c (2 ^ k)).symm

/-- one step of the program: four bits at once -/
theorem nibble (c : Nat) : c / 16 ^^^ ctab (c % 16) = citer 4 c := by
  have h := split_xor 4 c
  have e : citer 4 c = citer 4 (2 ^ 4 * (c / 2 ^ 4) ^^^ (c % 2 ^ 4)) := by rw [← h]
  rw [e, citer_xor, citer_mul]
  rfl

/-- a byte -/
def cbyte (r x : Nat) : Nat := citer 8 (r ^^^ x)

theorem cbyte_eq (r x : Nat) : (r ^^^ x) / 16 ^^^ ctab ((r ^^^ x) % 16) = citer 4 (r ^^^ x) := nibble _
theorem cbyte_two (r x : Nat) : citer 4 (citer 4 (r ^^^ x)) = cbyte r x := (citer_add 4 4 _).symm

/-- the reference's bits -/
def rbit (r b : Nat) : Nat := if r % 2 = b then r / 2 else r / 2 ^^^ cpoly

def riter : Nat → Nat → Nat → Nat
  | 0, r, _ => r
  | k + 1, r, x => riter k (rbit r (x % 2)) (x / 2)

theorem rbit_eq (r b : Nat) (hb : b < 2) : rbit r b = cstep (r ^^^ b) := by
  have h := @Nat.xor_mod_two_eq_one r b
  unfold rbit cstep
  rw [Nat.xor_div_two, show b / 2 = 0 by omega, Nat.xor_zero]
  by_cases e : r % 2 = b
  · rw [if_pos e, if_neg (by rw [h]; omega)]
  · rw [if_neg e, if_pos (by rw [h]; omega)]

theorem riter_eq (k : Nat) : ∀ r x, riter k r x = citer k (r ^^^ (x % 2 ^ k)) := by
  induction k with
  | zero => intro r x; simp [riter, citer, Nat.mod_one]
  | succ k ih =>
    intro r x
    simp only [riter, citer]
    rw [ih, rbit_eq _ _ (by omega)]
    congr 1
    have h1 : x % 2 ^ (k + 1) = (x % 2) ^^^ (2 * (x / 2 % 2 ^ k)) := by
      have h2 := split_xor 1 (x % 2 ^ (k + 1))
      have ha : x % 2 ^ (k + 1) % 2 = x % 2 := by rw [Nat.pow_succ, Nat.mul_comm]; exact Nat.mod_mul_right_mod x 2 (2 ^ k)
      have hb : x % 2 ^ (k + 1) / 2 = x / 2 % 2 ^ k := by rw [Nat.pow_succ, Nat.mul_comm (2 ^ k) 2, Nat.mod_mul_right_div_self]
      rw [Nat.xor_comm, Nat.pow_one, ha, hb] at h2
      exact h2
    rw [h1, ← Nat.xor_assoc, cstep_xor (r ^^^ x % 2), cstep_even (2 * _) (by omega)]
    congr 1
    omega

theorem riter_cbyte (r x : Nat) (hx : x < 256) : riter 8 r x = cbyte r x := by
  rw [riter_eq, Nat.mod_eq_of_lt (by simpa using hx)]
  rfl

/-- the register over bytes -/
def creg (r : Nat) (l : List UInt8) : Nat := l.foldl (fun r x => cbyte r x.toNat) r
/-- the checksum that goes on, and the checksum -/
def cmore (sum : Nat) (l : List UInt8) : Nat := 4294967295 - creg (4294967295 - sum) l
def csum (l : List UInt8) : Nat := cmore 0 l

theorem cbyte_lt (r x : Nat) (hr : r < 4294967296) (hx : x < 4294967296) : cbyte r x < 4294967296 := citer_lt 8 _ (xor_lt32 hr hx)
theorem creg_lt (l : List UInt8) : ∀ r, r < 4294967296 → creg r l < 4294967296 := by
  induction l with
  | nil => intro r h; exact h
  | cons x l ih => intro r h; exact ih _ (cbyte_lt r _ h (by have := x.toNat_lt; omega))

theorem creg_append (r : Nat) (a b : List UInt8) : creg r (a ++ b) = creg (creg r a) b := by simp [creg]
theorem cmore_lt (s : Nat) (l : List UInt8) : cmore s l < 4294967296 := by unfold cmore; omega

theorem cmore_csum (a b : List UInt8) : cmore (csum a) b = csum (a ++ b) := by
  have := creg_lt a (4294967295 - 0) (by omega)
  unfold csum cmore
  rw [creg_append]
  congr 2
  omega

theorem creg_inj (l : List UInt8) : ∀ a b, a < 4294967296 → b < 4294967296 → creg a l = creg b l → a = b := by
  induction l with
  | nil => intro a b _ _ h; exact h
  | cons x l ih =>
    intro a b ha hb h
    have hx : x.toNat < 4294967296 := by have := x.toNat_lt; omega
    have h1 := ih _ _ (cbyte_lt a _ ha hx) (cbyte_lt b _ hb hx) h
    have h2 := citer_inj 8 _ _ (xor_lt32 ha hx) (xor_lt32 hb hx) h1
    have h3 : (a ^^^ x.toNat) ^^^ x.toNat = (b ^^^ x.toNat) ^^^ x.toNat := by rw [h2]
    rwa [Nat.xor_assoc, Nat.xor_self, Nat.xor_zero, Nat.xor_assoc, Nat.xor_self, Nat.xor_zero] at h3

/-- one byte turned makes another checksum -/
theorem csum_turned (p q : List UInt8) (x y : UInt8) (h : csum (p ++ x :: q) = csum (p ++ y :: q)) : x = y := by
  unfold csum cmore at h
  have h1 := creg_lt (p ++ x :: q) (4294967295 - 0) (by omega)
  have h2 := creg_lt (p ++ y :: q) (4294967295 - 0) (by omega)
  have h3 : creg (4294967295 - 0) (p ++ x :: q) = creg (4294967295 - 0) (p ++ y :: q) := by omega
  rw [creg_append, creg_append] at h3
  have hp := creg_lt p (4294967295 - 0) (by omega)
  have hx : x.toNat < 4294967296 := by have := x.toNat_lt; omega
  have hy : y.toNat < 4294967296 := by have := y.toNat_lt; omega
  have h4 := creg_inj q _ _ (cbyte_lt _ _ hp hx) (cbyte_lt _ _ hp hy) h3
  have h5 := citer_inj 8 _ _ (xor_lt32 hp hx) (xor_lt32 hp hy) h4
  apply UInt8.toNat_inj.1
  rw [Nat.xor_comm _ x.toNat, Nat.xor_comm _ y.toNat] at h5
  have h6 : (x.toNat ^^^ creg (4294967295 - 0) p) ^^^ creg (4294967295 - 0) p = (y.toNat ^^^ creg (4294967295 - 0) p) ^^^ creg (4294967295 - 0) p := by rw [h5]
  rwa [Nat.xor_assoc, Nat.xor_self, Nat.xor_zero, Nat.xor_assoc, Nat.xor_self, Nat.xor_zero] at h6


/-- a checksum's bytes, the lowest first -/
def cbytes (n : Nat) : List UInt8 := [UInt8.ofNat n, UInt8.ofNat (n / 256), UInt8.ofNat (n / 65536), UInt8.ofNat (n / 16777216)]

end Go.Proofs.Yticpmkdlnjnfgaa
/- Layer 2 (crc): the walk of the table. -/
namespace Go.Proofs.Yticpmkdlnjnfgaa
open Go.RowKit

def tcell (k i : Nat) : Value := .int .u32 ((if i < k then ctab i else 0 : Nat) : Int)
def tcells (k : Nat) : Array Value := ((List.range 16).map (tcell k)).toArray

theorem tcells_zero : tcells 0 = #[.int .u32 0, .int .u32 0, .int .u32 0, .int .u32 0, .int .u32 0, .int .u32 0, .int .u32 0, .int .u32 0, .int .u32 0, .int .u32 0, .int .u32 0, .int .u32 0, .int .u32 0, .int .u32 0, .int .u32 0, .int .u32 0] := by rfl

theorem tcells_lit : tcells 16 = #[.int .u32 ((ctab 0 : Nat) : Int), .int .u32 ((ctab 1 : Nat) : Int), .int .u32 ((ctab 2 : Nat) : Int), .int .u32 ((ctab 3 : Nat) : Int), .int .u32 ((ctab 4 : Nat) : Int), .int .u32 ((ctab 5 : Nat) : Int), .int .u32 ((ctab 6 : Nat) : Int), .int .u32 ((ctab 7 : Nat) : Int), .int .u32 ((ctab 8 : Nat) : Int), .int .u32 ((ctab 9 : Nat) : Int), .int .u32 ((ctab 10 : Nat) : Int), .int .u32 ((ctab 11 : Nat) : Int), .int .u32 ((ctab 12 : Nat) : Int), .int .u32 ((ctab 13 : Nat) : Int), .int .u32 ((ctab 14 : Nat) : Int), .int .u32 ((ctab 15 : Nat) : Int)] := by rfl
theorem tcells_size (k : Nat) : (tcells k).size = 16 := by simp [tcells]
theorem tcells_get (k i : Nat) (h : i < 16) : (tcells k)[i]? = some (tcell k i) := by simp [tcells, h]
theorem tcells_set (k : Nat) : (tcells k).setIfInBounds k (.int .u32 (ctab k : Nat)) = tcells (k + 1) := by
  apply Array.ext_getElem?
  intro i
  rw [Array.getElem?_setIfInBounds, tcells_size]
  by_cases hi : i < 16
  · rw [tcells_get (k + 1) i hi, tcells_get k i hi]
    by_cases e : k = i
    · subst e; simp [hi, tcell]
    · rw [if_neg e]
      unfold tcell
      by_cases h : i < k
      · simp [h, show i < k + 1 by omega]
      · simp [h, show ¬ i < k + 1 by omega]
  · have h1 : (tcells (k + 1))[i]? = none := Array.getElem?_eq_none (by rw [tcells_size]; omega)
    have h2 : (tcells k)[i]? = none := Array.getElem?_eq_none (by rw [tcells_size]; omega)
    rw [h1, h2]
    split
    · rw [if_neg (by omega)]
    · rfl

theorem u32_and1 (n : Nat) (h : n < 4294967296) : bits BinOp.and IntKind.u32 (n : Int) 1 = ((n % 2 : Nat) : Int) := by
  rw [u32_and _ _ (by omega) (by omega) (by omega) (by omega), show (1 : Int).toNat = 1 from rfl, nat_mask1, show (n : Int).toNat = n by omega]
theorem u32_and15 (n : Nat) (h : n < 4294967296) : bits BinOp.and IntKind.u32 (n : Int) 15 = ((n % 16 : Nat) : Int) := by
  rw [u32_and _ _ (by omega) (by omega) (by omega) (by omega), show (15 : Int).toNat = 15 from rfl, nat_mask4, show (n : Int).toNat = n by omega]
theorem u32_xorn (a b : Int) (h1 : 0 ≤ a) (h2 : a < 4294967296) (h3 : 0 ≤ b) (h4 : b < 4294967296) : bits BinOp.xor IntKind.u32 a b = ((a.toNat ^^^ b.toNat : Nat) : Int) := u32_xor a b h1 h2 h3 h4

set_option maxRecDepth 100000 in
set_option maxHeartbeats 400000 in
theorem table_any (w : World) : Calls Try.prog 115 #[] w fun e w' => e = .returned (.agg (tcells 16)) ∧ Below w.heap.size w w' := by
  obtain ⟨Z, hZ⟩ : ∃ Z, Z = tcells 0 := ⟨_, rfl⟩
  have hZ' := hZ
  rw [tcells_zero] at hZ'
  have HZ := Lib.hid hZ
  clear hZ
  go_enter Try.func115, Try.ntmps115
  go_wp2
  rw [← hZ']
  clear hZ'
  go_loopw [4] (fun i wr => ∃ k : Nat, k ≤ 16 ∧ i = .int .i64 k ∧ wr = (w.alloc (.cells Z 146)).alloc (.cells (tcells k) 146)) (fun i _ => 16 - (intOf i).toNat)
  case atStart => exact ⟨0, by omega, rfl, by rw [← HZ.out]⟩
  case round =>
    obtain ⟨k, hk, rfl, rfl⟩ := hrel
    obtain ⟨C, hC⟩ : ∃ C, C = tcells k := ⟨_, rfl⟩
    rw [← hC]
    have hsz : C.size = 16 := by rw [hC]; exact tcells_size k
    by_cases hlt : k < 16
    · have hg : C[k]? = some (.int .u32 0) := by rw [hC, tcells_get k k hlt]; simp [tcell]
      have hset := tcells_set k
      rw [← hC] at hset
      have HS := Lib.hid hset
      have HC := Lib.hid hC
      clear hset hC
      go_wp2
      go_loop [3, 9] (fun c j => ∃ n j' : Nat, j' ≤ 4 ∧ n < 4294967296 ∧ c = .int .u32 n ∧ j = .int .i64 j' ∧ Hid (citer (4 - j') n = ctab k)) (fun _ j => 4 - (intOf j).toNat)
      case atStart => exact ⟨k, 0, by omega, by omega, by go_num, rfl, rfl⟩
      case round =>
        obtain ⟨n, j, hj, hn, rfl, rfl, hc⟩ := hrel
        by_cases hj4 : j < 4
        · have ha := u32_and1 n hn
          have hx := u32_xorn ((n : Int) / 2) 3988292384 (by omega) (by omega) (by omega) (by omega)
          rw [show ((n : Int) / 2).toNat = n / 2 by omega] at hx
          have e1 : citer (4 - j) n = citer (4 - (j + 1)) (cstep n) := by rw [show 4 - j = (4 - (j + 1)) + 1 by omega]; rfl
          have E1 := Lib.hid e1
          clear e1
          by_cases ho : n % 2 = 1
          · have hq : (((n % 2 : Nat) : Int) == 1) = true := by simp; omega
            go_wp2
            go_round
            case rel =>
              refine ⟨cstep n, j + 1, by omega, cstep_lt n hn, ?_, by go_num, E1.out.symm.trans hc.out⟩
              unfold cstep
              rw [if_pos ho]
              rfl
            case measure => simp [intOf]; omega
          · have hq : (((n % 2 : Nat) : Int) == 1) = false := by simp; omega
            go_wp2
            go_round
            case rel =>
              refine ⟨cstep n, j + 1, by omega, cstep_lt n hn, ?_, by go_num, E1.out.symm.trans hc.out⟩
              unfold cstep
              rw [if_neg ho]
              congr 1
            case measure => simp [intOf]; omega
        · obtain rfl : j = 4 := by omega
          have hcn : n = ctab k := hc.out
          have HN := Lib.hid hcn
          clear hcn hc
          go_wp2
          go_roundw
          case rel =>
            refine ⟨k + 1, by omega, by go_num, ?_⟩
            rw [← HS.out, HN.out]
          case measure => simp [intOf]; omega
    · obtain rfl : k = 16 := by omega
      rw [hC, tcells_lit]
      clear hsz hC
      have hz := HZ.out
      rw [tcells_zero] at hz
      subst hz
      go_wp2
      exact bodyPost_ret (v := .agg (tcells 16)) (by rw [tcells_lit]; simp [results, Try.results115, go_sem]) rfl ⟨rfl, ((Below.refl _ _).alloc (Nat.le_refl _) _).alloc (by simp) _⟩


theorem tcells_one (k : Nat) : ∀ v ∈ (tcells k).toList, v.oneCell' = true := by
  intro v hv
  simp only [tcells, List.mem_map] at hv
  obtain ⟨i, _, rfl⟩ := hv
  rfl

end Go.Proofs.Yticpmkdlnjnfgaa
/- Walks of layer 2 (crc) and of its reference. -/
namespace Go.Proofs.Yticpmkdlnjnfgaa
open Go.RowKit

theorem xor_ones32 (x : Nat) (h : x < 4294967296) : 4294967295 ^^^ x = 4294967295 - x := by
  have h1 := congrArg BitVec.toNat (BitVec.allOnes_xor (x := BitVec.ofNat 32 x))
  rw [BitVec.toNat_xor, BitVec.toNat_not, BitVec.toNat_ofNat, BitVec.toNat_allOnes] at h1
  rw [Nat.mod_eq_of_lt (by omega)] at h1
  exact h1

theorem u32_notn (n : Nat) (h : n < 4294967296) : bits BinOp.xor IntKind.u32 IntKind.u32.max (n : Int) = ((4294967295 - n : Nat) : Int) := by
  rw [show IntKind.u32.max = 4294967295 from by decide, u32_xor _ _ (by omega) (by omega) (by omega) (by omega), show (4294967295 : Int).toNat = 4294967295 from rfl, show (n : Int).toNat = n by omega, xor_ones32 n h]

theorem ctab_lt (i : Nat) (h : i < 16) : ctab i < 4294967296 := citer_lt 4 i (by omega)

set_option maxRecDepth 100000 in
set_option maxHeartbeats 400000 in
theorem more_any (s : Nat) (hs : s < 4294967296) (vb : Value) (l : List UInt8) (w : World) (hb : Bs w vb l) :
    Calls Try.prog 114 #[.int .u32 s, vb] w fun e w' => e = .returned (.int .u32 (cmore s l)) ∧ Below w.heap.size w w' := by
  obtain ⟨a, ca, adr, rfl, ha1, ha2, ha3, ha4, ha5⟩ := Bs.open_ elB hb
  go_enter Try.func114, Try.ntmps114
  go_wp2_with fail
  refine (table_any _).mono ?_
  rintro e w1 ⟨rfl, hb1⟩
  go_wp2_with (with_reducible refine wpList_store_new rfl _ _ rfl rfl rfl (by kernel_rfl) (by simp [tcells_size]) (tcells_one 16) ?_)
  have hn := u32_notn s hs
  have HT : Hid (∀ i, i < 16 → (w1.alloc (.cells (tcells 16) 146)).cell? ⟨w1.heap.size, i, none⟩ = some (.int .u32 (ctab i : Nat))) := by
    intro i hi
    rw [World.cell?_alloc_at _ _ _ _ rfl, tcells_get 16 i hi]
    simp [tcell, hi]
  rw [hn]
  clear hn
  obtain ⟨W, hW⟩ : ∃ W, W = w1.alloc (.cells (tcells 16) 146) := ⟨_, rfl⟩
  have hbW : Below w.heap.size w W := by rw [hW]; exact hb1.alloc hb1.size _
  rw [← hW]
  rw [← hW] at HT
  clear hW
  go_loop [6, 14] (fun c i => ∃ k n : Nat, k ≤ l.length ∧ i = .int .i64 k ∧ c = .int .u32 n ∧ n < 4294967296 ∧ Hid (creg (4294967295 - s) l = creg n (l.drop k))) (fun _ i => l.length - (intOf i).toNat)
  case atStart => exact ⟨0, 4294967295 - s, by omega, rfl, rfl, by omega, rfl⟩
  case round =>
    obtain ⟨k, n, hk, rfl, rfl, hn, hc⟩ := hrel
    by_cases hlt : k < l.length
    · obtain ⟨x, hx⟩ : ∃ x, l[k]? = some x := ⟨_, List.getElem?_eq_getElem hlt⟩
      have h3 : W.cell? (adr k) = some (.int .u8 x.toNat) := by rw [hbW.cell (ha4 k hlt)]; exact ha5 k x hx
      have hstep : l.drop k = x :: l.drop (k + 1) := by rw [List.drop_eq_getElem_cons hlt, (List.getElem?_eq_some_iff.1 hx).2]
      rw [hstep] at hc
      have hc2 : Hid (creg (4294967295 - s) l = creg (cbyte n x.toNat) (l.drop (k + 1))) := hc
      obtain ⟨y, hy⟩ : ∃ y, y = x.toNat := ⟨_, rfl⟩
      have hy256 : y < 256 := by have := x.toNat_lt; omega
      rw [← hy] at h3 hc2
      clear hc hstep hy hx ha5 ha4
      obtain ⟨n1, e1⟩ : ∃ n1, n1 = n ^^^ y := ⟨_, rfl⟩
      have l1 : n1 < 4294967296 := by rw [e1]; exact xor_lt32 hn (by omega)
      obtain ⟨n2, e2⟩ : ∃ n2, n2 = n1 / 16 ^^^ ctab (n1 % 16) := ⟨_, rfl⟩
      have l2 : n2 < 4294967296 := by rw [e2]; exact xor_lt32 (by omega) (ctab_lt _ (by omega))
      obtain ⟨n3, e3⟩ : ∃ n3, n3 = n2 / 16 ^^^ ctab (n2 % 16) := ⟨_, rfl⟩
      have l3 : n3 < 4294967296 := by rw [e3]; exact xor_lt32 (by omega) (ctab_lt _ (by omega))
      have f1 : bits BinOp.xor IntKind.u32 (n : Int) (y : Int) = (n1 : Int) := by
        rw [e1, u32_xor _ _ (by omega) (by omega) (by omega) (by omega)]; simp
      have g1 := u32_and15 n1 l1
      have g2 := u32_and15 n2 l2
      have t1 := HT.out (n1 % 16) (by omega)
      have t2 := HT.out (n2 % 16) (by omega)
      have tl1 := ctab_lt (n1 % 16) (by omega)
      have tl2 := ctab_lt (n2 % 16) (by omega)
      have f2 : bits BinOp.xor IntKind.u32 ((n1 : Int) / 16) (ctab (n1 % 16) : Nat) = (n2 : Int) := by
        rw [e2, u32_xor _ _ (by omega) (by omega) (by omega) (by omega), show ((n1 : Int) / 16).toNat = n1 / 16 by omega]; simp
      have f3 : bits BinOp.xor IntKind.u32 ((n2 : Int) / 16) (ctab (n2 % 16) : Nat) = (n3 : Int) := by
        rw [e3, u32_xor _ _ (by omega) (by omega) (by omega) (by omega), show ((n2 : Int) / 16).toNat = n2 / 16 by omega]; simp
      have hn3 : Hid (n3 = cbyte n y) := by
        show _ = _
        rw [e3, nibble, e2, nibble, e1, cbyte_two]
      clear e1 e2 e3
      go_wp2
      go_round
      case rel => exact ⟨k + 1, n3, by omega, by go_num, rfl, l3, by rw [hn3.out]; exact hc2⟩
      case measure => simp [intOf]; omega
    · have hcr : creg (4294967295 - s) l = n := by
        have h := hc.out
        rw [List.drop_eq_nil_of_le (by omega)] at h
        exact h
      have hn := u32_notn n hn
      have HC := Lib.hid hcr
      have HN := Lib.hid hn
      clear hcr hc hn
      go_wp2
      go_ret
      refine ⟨ret_int ?_, hbW⟩
      unfold cmore
      rw [HC.out]
      first | exact HN.out | exact u32_notn _ (by omega)

theorem sum_any (vb : Value) (l : List UInt8) (w : World) (hb : Bs w vb l) :
    Calls Try.prog 108 #[vb] w fun e w' => e = .returned (.int .u32 (csum l)) ∧ Below w.heap.size w w' := by
  have hm := more_any 0 (by omega) vb l w hb
  go_enter Try.func108, Try.ntmps108
  go_wp2_with fail
  refine hm.mono ?_
  rintro e w1 ⟨rfl, hb1⟩
  go_wp2
  go_ret
  exact ⟨rfl, hb1⟩


theorem cbytes_any (n : Nat) (hn : n < 4294967296) (w : World) :
    Calls Try.prog 107 #[.int .u32 n] w fun e w' => ∃ v, e = .returned v ∧ Ob w' w.heap.size 5 v (cbytes n) ∧ Below w.heap.size w w' := by
  go_enter Try.func107, Try.ntmps107
  go_wp2
  go_ret
  refine ⟨_, rfl, ob_lit w _ _ _ 4 rfl (by simp [maxLen]) ?_, (Below.refl _ _).alloc (Nat.le_refl _) _⟩
  simp [cbytes, bv]
  omega

set_option maxRecDepth 100000 in
set_option maxHeartbeats 400000 in
theorem rcbytes_any (n : Nat) (hn : n < 4294967296) (w : World) :
    Calls Try.prog 109 #[.int .u32 n] w fun e w' => ∃ v, e = .returned v ∧ Ob w' w.heap.size 5 v (cbytes n) ∧ Below w.heap.size w w' := by
  go_enter Try.func109, Try.ntmps109
  go_wp2
  go_loopw [0, 3, 4] (fun m v i wr => ∃ k : Nat, k ≤ 4 ∧ i = .int .i64 k ∧ m = .int .u32 ((n / 256 ^ k : Nat) : Int) ∧ Ob wr w.heap.size 5 v ((cbytes n).take k) ∧ Below w.heap.size w wr) (fun _ _ i _ => 4 - (intOf i).toNat)
  case atStart => exact ⟨0, by omega, rfl, by simp, World.ownsRow_nil _ _ _ _, Below.refl _ _⟩
  case round =>
    obtain ⟨k, hk, rfl, rfl, ho, hb⟩ := hrel
    have hsz := hb.size
    by_cases hlt : k < 4
    · obtain ⟨m, hm⟩ : ∃ m, m = n / 256 ^ k := ⟨_, rfl⟩
      have hml : m < 4294967296 := by rw [hm]; exact Nat.lt_of_le_of_lt (Nat.div_le_self _ _) hn
      have hnext : n / 256 ^ (k + 1) = m / 256 := by rw [hm, Nat.pow_succ, Nat.div_div_eq_div_mul]
      have hget : (cbytes n)[k]? = some (UInt8.ofNat m) := by
        rw [hm]
        rcases (show k = 0 ∨ k = 1 ∨ k = 2 ∨ k = 3 by omega) with rfl | rfl | rfl | rfl <;> simp [cbytes]
      rw [← hm]
      have hlen : ((cbytes n).take k).length ≤ 4 := by simp [cbytes]; omega
      have HM := Lib.hid hm
      have HN := Lib.hid hnext
      have HG := Lib.hid hget
      clear hm hnext hget
      go_wp2_with (at_builtin; go_must (refine wpList_append_byte ho (UInt8.ofNat m) elB (by omega) (by omega) hsz ?_ _ _ rfl rfl _ rfl rfl (by simp [bv])); intro v' w' h1 h2 h3; have H1 := Lib.hid h1; clear h1)
      go_roundw
      case rel =>
        refine ⟨k + 1, by omega, by go_num, by rw [HN.out]; go_num, ?_, hb.trans h3⟩
        rw [List.take_add_one, HG.out]
        exact H1.out
      case measure => simp [intOf]; omega
    · obtain rfl : k = 4 := by omega
      go_wp2
      go_ret
      exact ⟨_, rfl, ho, hb⟩


set_option maxRecDepth 100000 in
set_option maxHeartbeats 400000 in
theorem crsum_any (vb : Value) (l : List UInt8) (w : World) (hb : Bs w vb l) :
    Calls Try.prog 110 #[vb] w fun e w' => e = .returned (.int .u32 (csum l)) ∧ w = w' := by
  obtain ⟨a, ca, adr, rfl, ha1, ha2, ha3, ha4, ha5⟩ := Bs.open_ elB hb
  go_enter Try.func110, Try.ntmps110
  go_wp2
  go_loop [3, 4] (fun r i => ∃ k n : Nat, k ≤ l.length ∧ i = .int .i64 k ∧ r = .int .u32 n ∧ n < 4294967296 ∧ Hid (creg 4294967295 l = creg n (l.drop k))) (fun _ i => l.length - (intOf i).toNat)
  case atStart => exact ⟨0, 4294967295, by omega, rfl, rfl, by omega, rfl⟩
  case round =>
    obtain ⟨k, n, hk, rfl, rfl, hn, hc⟩ := hrel
    by_cases hlt : k < l.length
    · obtain ⟨x, hx⟩ : ∃ x, l[k]? = some x := ⟨_, List.getElem?_eq_getElem hlt⟩
      have h3 := ha5 k x hx
      have hstep : l.drop k = x :: l.drop (k + 1) := by rw [List.drop_eq_getElem_cons hlt, (List.getElem?_eq_some_iff.1 hx).2]
      rw [hstep] at hc
      have hc2 : Hid (creg 4294967295 l = creg (cbyte n x.toNat) (l.drop (k + 1))) := hc
      obtain ⟨y, hy⟩ : ∃ y, y = x.toNat := ⟨_, rfl⟩
      have hy256 : y < 256 := by have := x.toNat_lt; omega
      rw [← hy] at h3 hc2
      clear hc hstep hy hx ha5 ha4
      go_wp2
      go_loop [3, 5, 6] (fun r z j => ∃ m q i : Nat, i ≤ 8 ∧ j = .int .i64 i ∧ r = .int .u32 m ∧ m < 4294967296 ∧ z = .int .i64 q ∧ q < 256 ∧ Hid (riter (8 - i) m q = cbyte n y)) (fun _ _ j => 8 - (intOf j).toNat)
      case atStart => exact ⟨n, y, 0, by omega, rfl, rfl, hn, rfl, hy256, riter_cbyte n y hy256⟩
      case round =>
        obtain ⟨m, q, i, hi, rfl, rfl, hm, rfl, hq, hr⟩ := hrel
        by_cases hi8 : i < 8
        · have e1 : riter (8 - i) m q = riter (8 - (i + 1)) (rbit m (q % 2)) (q / 2) := by rw [show 8 - i = (8 - (i + 1)) + 1 by omega]; rfl
          have E1 := Lib.hid e1
          clear e1
          by_cases hb2 : m % 2 = q % 2
          · have hd : (((m : Int) % 2) != ((q : Int) % 2)) = false := by simp; omega
            go_wp2
            go_round
            case rel =>
              refine ⟨m / 2, q / 2, i + 1, by omega, by go_num, by go_num, by omega, by go_num, by omega, ?_⟩
              have := E1.out
              rw [rbit, if_pos hb2] at this
              exact this.symm.trans hr.out
            case measure => simp [intOf]; omega
          · have hd : (((m : Int) % 2) != ((q : Int) % 2)) = true := by simp; omega
            have hx := u32_xorn ((m : Int) / 2) 3988292384 (by omega) (by omega) (by omega) (by omega)
            rw [show ((m : Int) / 2).toNat = m / 2 by omega] at hx
            go_wp2
            go_round
            case rel =>
              refine ⟨m / 2 ^^^ cpoly, q / 2, i + 1, by omega, by go_num, rfl, xor_lt32 (by omega) (by decide), by go_num, by omega, ?_⟩
              have := E1.out
              rw [rbit, if_neg hb2] at this
              exact this.symm.trans hr.out
            case measure => simp [intOf]; omega
        · obtain rfl : i = 8 := by omega
          have hm2 : m = cbyte n y := hr.out
          have HM := Lib.hid hm2
          clear hm2 hr
          go_wp2
          go_round
          case rel => exact ⟨k + 1, m, by omega, by go_num, rfl, hm, by rw [HM.out]; exact hc2⟩
          case measure => simp [intOf]; omega
    · have hcr : creg 4294967295 l = n := by
        have h := hc.out
        rw [List.drop_eq_nil_of_le (by omega)] at h
        exact h
      have HC := Lib.hid hcr
      clear hcr hc
      go_wp2
      go_ret
      refine ⟨ret_int ?_, rfl⟩
      unfold csum cmore
      rw [show 4294967295 - 0 = 4294967295 from rfl, HC.out]
      omega

end Go.Proofs.Yticpmkdlnjnfgaa
