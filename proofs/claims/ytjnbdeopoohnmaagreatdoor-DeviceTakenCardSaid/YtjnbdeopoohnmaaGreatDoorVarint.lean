/- Varint: Vspec, Varint, Clone as one text. -/
import Derived.Test.YtjnbdeopoohnmaaGreatDoorRows
import Derived.Test.YtjnbdeopoohnmaaGreatDoorBase
/- The plain law of numbers as bytes: no program stands here. -/
namespace Go.Proofs.YtjnbdeopoohnmaaGreatDoor

def vput (n : Nat) : List UInt8 := if n < 128 then [UInt8.ofNat n] else UInt8.ofNat (128 + n % 128) :: vput (n / 128)
termination_by n
decreasing_by omega

theorem vput_small {n : Nat} (h : n < 128) : vput n = [UInt8.ofNat n] := by rw [vput, if_pos h]
theorem vput_big {n : Nat} (h : ¬ n < 128) : vput n = UInt8.ofNat (128 + n % 128) :: vput (n / 128) := by rw [vput, if_neg h]

theorem vput_len (k : Nat) : ∀ n : Nat, n < 128 ^ (k + 1) → (vput n).length ≤ k + 1 := by
  induction k with
  | zero => intro n h; rw [vput_small (by omega)]; simp
  | succ k ih =>
    intro n h
    by_cases hn : n < 128
    · rw [vput_small hn]; simp
    · rw [vput_big hn]
      have := ih (n / 128) (by rw [Nat.div_lt_iff_lt_mul (by omega)]; rw [Nat.pow_succ] at h; exact h)
      simp; omega

theorem vput_len10 (n : Nat) (h : n < 18446744073709551616) : (vput n).length ≤ 10 := vput_len 9 n (by omega)
theorem vput_pos (n : Nat) : 1 ≤ (vput n).length := by
  by_cases h : n < 128
  · rw [vput_small h]; simp
  · rw [vput_big h]; simp


def vgo : List UInt8 → Nat → Nat → Nat × Nat × Nat
  | [], _, _ => (0, 0, 10)
  | c :: r, i, n =>
    if i = 9 ∧ 1 < c.toNat then (0, 0, 11)
    else if c.toNat < 128 then (if c.toNat = 0 ∧ 0 < i then (0, 0, 11) else (n + c.toNat % 128 * 128 ^ i, i + 1, 0))
    else vgo r (i + 1) (n + c.toNat % 128 * 128 ^ i)

/-- The number that bytes begin with, how many bytes it has, the error's number. -/
def vtake (l : List UInt8) : Nat × Nat × Nat := vgo l 0 0

theorem pow128_le (k : Nat) (h : k ≤ 9) : 1 ≤ 128 ^ k ∧ 128 ^ k ≤ 9223372036854775808 := by
  refine ⟨Nat.one_le_pow _ _ (by omega), ?_⟩
  calc 128 ^ k ≤ 128 ^ 9 := Nat.pow_le_pow_right (by omega) h
    _ = 9223372036854775808 := by decide

theorem mul128_le (c k : Nat) (h : k ≤ 9) (h9 : k = 9 → c ≤ 1) : c % 128 * 128 ^ k ≤ 9223372036854775808 ∧ (k < 9 → c % 128 * 128 ^ k + 128 ^ k ≤ 128 ^ (k + 1)) := by
  have h1 := pow128_le k h
  by_cases h8 : k = 9
  · subst h8
    have := h9 rfl
    refine ⟨?_, fun h => by omega⟩
    have : c % 128 ≤ 1 := by omega
    calc c % 128 * 128 ^ 9 ≤ 1 * 128 ^ 9 := Nat.mul_le_mul_right _ this
      _ = 9223372036854775808 := by decide
  · have h2 := pow128_le (k + 1) (by omega)
    have h3 : c % 128 * 128 ^ k + 128 ^ k ≤ 128 ^ (k + 1) := by
      have : c % 128 + 1 ≤ 128 := by omega
      calc c % 128 * 128 ^ k + 128 ^ k = (c % 128 + 1) * 128 ^ k := by rw [Nat.succ_mul]
        _ ≤ 128 * 128 ^ k := Nat.mul_le_mul_right _ this
        _ = 128 ^ (k + 1) := by rw [Nat.pow_succ, Nat.mul_comm]
    exact ⟨by omega, fun _ => h3⟩

end Go.Proofs.YtjnbdeopoohnmaaGreatDoor
/- Walks of the functions of layer 1 (varint) and of the reference of layer 1. -/
namespace Go.Proofs.YtjnbdeopoohnmaaGreatDoor
open Go.RowKit

theorem info_u8 : (Tryz.prog.info? 5).map (fun i => (i.zero, i.size, i.bytes)) = some (some (.int .u8 0), 1, 1) := by kernel_rfl
theorem elB : ElTy Tryz.prog 25 5 (.int .u8 0) 1 1 := ⟨Tryz.underlying25, info_parts info_u8, rfl, by decide⟩

theorem same_any (va vb : Value) (la lb : List UInt8) (w : World) (ha : Bs w va la) (hb : Bs w vb lb) :
    Calls Tryz.prog 16 #[va, vb] w fun e w' => e = .returned (.bool (la == lb)) ∧ Below w.heap.size w w' := by
  obtain ⟨a, ca, adr, rfl, ha1, ha2, ha3, ha4, ha5⟩ := Bs.open_ elB ha
  obtain ⟨b, cb, bdr, rfl, hb1, hb2, hb3, hb4, hb5⟩ := Bs.open_ elB hb
  clear ha hb
  by_cases hl : la.length = lb.length
  · have hle : (lb.length : Int) ≤ la.length ∧ (la.length : Int) ≤ lb.length := by omega
    have HL := Lib.hid hl
    have hl' : ((la.length : Int) != lb.length) = false := by simp [hl]
    clear hl
    go_enter Tryz.func16, Tryz.ntmps16
    go_wp2
    go_loopw [5] (fun i wr => ∃ k : Nat, k ≤ la.length ∧ i = .int .i64 k ∧ la.take k = lb.take k ∧ Below w.heap.size w wr) (fun i _ => la.length - (intOf i).toNat)
    case atStart => exact ⟨0, by omega, rfl, rfl, Below.refl _ _⟩
    case round =>
      obtain ⟨k, hk, rfl, ht, hw⟩ := hrel
      have HT := Lib.hid ht
      clear ht
      by_cases hlt : k < la.length
      · obtain ⟨x, hx⟩ : ∃ x, la[k]? = some x := ⟨_, List.getElem?_eq_getElem hlt⟩
        obtain ⟨y, hy⟩ : ∃ y, lb[k]? = some y := ⟨_, List.getElem?_eq_getElem (by omega)⟩
        have h3 : wr.cell? (adr k) = some (.int .u8 x.toNat) := by rw [hw.cell (ha4 k hlt)]; exact ha5 k x hx
        have h4 : wr.cell? (bdr k) = some (.int .u8 y.toNat) := by rw [hw.cell (hb4 k (by omega))]; exact hb5 k y hy
        have HX := Lib.hid hx
        have HY := Lib.hid hy
        clear ha5 hb5 ha4 hb4 hx hy
        have e1 : (k : Int) < la.length := by omega
        have e2 : (k : Int) < lb.length := by omega
        go_wp2
        go_quiet (fail)
        go_wp2
        · go_ret
          have hne : ((x.toNat : Int) != y.toNat) = true := by assumption
          refine ⟨ret_bool ?_, below_drewN hw _⟩
          symm
          refine beq_eq_false_iff_ne.2 fun e => ?_
          have h1 := HX.out
          rw [e, HY.out] at h1
          cases h1
          simp at hne
        · go_roundw
          case rel =>
            have hne : ((x.toNat : Int) != y.toNat) = false := by assumption
            refine ⟨k + 1, by omega, by go_num, ?_, below_drewN hw _⟩
            have hxy : x = y := UInt8.toNat_inj.1 (by simp at hne; omega)
            rw [List.take_add_one, List.take_add_one, HT.out, HX.out, HY.out, hxy]
          case measure => simp [intOf]; omega
      · go_wp2
        go_ret
        refine ⟨ret_bool ?_, hw⟩
        have := HT.out
        rw [List.take_of_length_le (by omega), List.take_of_length_le (by have := HL.out; omega)] at this
        simp [this]
  · have hl' : ((la.length : Int) != lb.length) = true := by simp; omega
    go_enter Tryz.func16, Tryz.ntmps16
    go_wp2
    go_ret
    refine ⟨ret_bool ?_, Below.refl _ _⟩
    symm
    exact beq_eq_false_iff_ne.2 (fun e => hl (by rw [e]))

theorem u8_ofNat (n : Nat) : ((UInt8.ofNat n).toNat : Int) = (n : Int) % 256 := by simp

set_option maxRecDepth 100000 in
set_option maxHeartbeats 400000 in
theorem rput_any (n : Nat) (hn : n < 18446744073709551616) (w : World) :
    Calls Tryz.prog 74 #[.int .u64 n] w fun e w' => ∃ v, e = .returned v ∧ Ob w' w.heap.size 5 v (vput n) ∧ Below w.heap.size w w' := by
  go_enter Tryz.func74, Tryz.ntmps74
  go_wp2
  go_loopw [0, 3] (fun i v wr => ∃ (m : Nat) (pre : List UInt8), i = .int .u64 m ∧ m < 18446744073709551616 ∧ Hid (pre ++ vput m = vput n) ∧ pre.length ≤ 9 ∧ Ob wr w.heap.size 5 v pre ∧ Below w.heap.size w wr) (fun i _ _ => (intOf i).toNat)
  case atStart => exact ⟨n, [], rfl, hn, rfl, by simp, World.ownsRow_nil _ _ _ _, Below.refl _ _⟩
  case round =>
    obtain ⟨m, pre, rfl, hm, hp, hl, ho, hb⟩ := hrel
    have hsz := hb.size
    by_cases hlt : m < 128
    · go_wp2_with (at_builtin; go_must (refine wpList_append_byte ho (UInt8.ofNat m) elB (by omega) (by omega) hsz ?_ _ _ rfl rfl _ rfl rfl (by simp [bv]; omega)))
      intro v' w' h1 h2 h3
      go_wp2
      go_ret
      refine ⟨_, rfl, ?_, hb.trans h3⟩
      rw [← hp.out, vput_small hlt]
      exact h1
    · go_wp2_with (at_builtin; go_must (refine wpList_append_byte ho (UInt8.ofNat (128 + m % 128)) elB (by omega) (by omega) hsz ?_ _ _ rfl rfl _ rfl rfl (by simp [bv]; omega)); intro v' w' h1 h2 h3; have H1 := Lib.hid h1; clear h1)
      go_roundw
      case rel =>
        refine ⟨m / 128, pre ++ [UInt8.ofNat (128 + m % 128)], by go_num, by omega, ?_, ?_, H1.out, hb.trans h3⟩
        · have := hp.out
          rw [vput_big hlt] at this
          show _ = _
          rw [← this]; simp
        · have := vput_len10 n hn
          rw [← hp.out, vput_big hlt] at this
          have := vput_pos (m / 128)
          simp at *
          omega
      case measure => simp [intOf]; omega


theorem nat_or128 : ∀ x : Nat, x < 256 → x ||| 128 = 128 + x % 128 := by decide +kernel

theorem bits_or128 (m : Nat) : bits BinOp.or IntKind.u8 ((m : Int) % 256) 128 = ((128 + m % 128 : Nat) : Int) := by
  rw [u8_or _ _ (by omega) (by omega) (by omega) (by omega)]
  have := nat_or128 (m % 256) (by omega)
  rw [show ((m : Int) % 256).toNat = m % 256 by omega, show (128 : Int).toNat = 128 from rfl, this]
  omega

set_option maxRecDepth 100000 in
set_option maxHeartbeats 400000 in
theorem put_any (n : Nat) (hn : n < 18446744073709551616) (w : World) :
    Calls Tryz.prog 82 #[.int .u64 n] w fun e w' => ∃ v, e = .returned v ∧ Ob w' w.heap.size 5 v (vput n) ∧ Below w.heap.size w w' := by
  go_enter Tryz.func82, Tryz.ntmps82
  go_wp2
  refine wp_scope_jumps2 0 (fun a' w' => ∃ (m : Nat) (pre : List UInt8) (v u2 u4 u5 u6 u7 u8 u9 u10 u11 u12 u13 u14 u15 u16 u17 u18 : Value), a' = { tmps := #[.int .u64 m, undef, u2, v, u4, u5, u6, u7, u8, u9, u10, u11, u12, u13, u14, u15, u16, u17, u18], defers := [] } ∧ m < 18446744073709551616 ∧ Hid (pre ++ vput m = vput n) ∧ pre.length ≤ 9 ∧ Ob w' w.heap.size 5 v pre ∧ Below w.heap.size w w') (fun a' _ => (intOf (a'.tmps.getD 0 undef)).toNat) rfl ?_ ?_
  · intro hp
    go_wp2_with (fail)
    go_step3
    refine (by assumption : ∀ a w, Code.wp _ _ _ a w → _) _ _ (hp _ _ ⟨n, [], _, _, _, _, _, _, _, _, _, _, _, _, _, _, _, _, _, rfl, hn, rfl, by simp, World.ownsRow_nil _ _ _ _, Below.refl _ _⟩)
  · rintro a wr ⟨m, pre, v, u2, u4, u5, u6, u7, u8, u9, u10, u11, u12, u13, u14, u15, u16, u17, u18, rfl, hm, hp, hl, ho, hb⟩
    have hsz := hb.size
    by_cases hlt : m < 128
    · go_wp2_with (at_builtin; go_must (refine wpList_append_byte ho (UInt8.ofNat m) elB (by omega) (by omega) hsz ?_ _ _ rfl rfl _ rfl rfl (by simp [bv]; omega)); intro v' w' h1 h2 h3; have H1 := Lib.hid h1; clear h1)
      simp only [Exit.jump]
      go_ret
      refine ⟨_, rfl, ?_, hb.trans h3⟩
      rw [← hp.out, vput_small hlt]
      exact H1.out
    · go_wp2_with (at_builtin; go_must (refine wpList_append_byte ho (UInt8.ofNat (128 + m % 128)) elB (by omega) (by omega) hsz ?_ _ _ rfl rfl _ rfl rfl (by rw [bits_or128]; simp [bv]; omega)); intro v' w' h1 h2 h3; have H1 := Lib.hid h1; clear h1)
      go_step3
      have em : ((m / 128 : Nat) : Int) = (m : Int) / 128 := by omega
      rw [← em]
      refine ⟨rfl, ⟨m / 128, pre ++ [UInt8.ofNat (128 + m % 128)], _, _, _, _, _, _, _, _, _, _, _, _, _, _, _, _, _, rfl, by omega, ?_, ?_, H1.out, hb.trans h3⟩, ?_⟩
      · have := hp.out
        rw [vput_big hlt] at this
        show _ = _
        rw [← this]; simp
      · have := vput_len10 n hn
        rw [← hp.out, vput_big hlt] at this
        have := vput_pos (m / 128)
        simp at *
        omega
      · simp [intOf]; omega

def vturn (n : Int) : Int := if 0 ≤ n then 2 * n else -2 * n - 1

theorem xor_ones64 (x : Nat) (h : x < 18446744073709551616) : x ^^^ 18446744073709551615 = 18446744073709551615 - x := by
  have h1 := congrArg BitVec.toNat (BitVec.xor_allOnes (x := BitVec.ofNat 64 x))
  rw [BitVec.toNat_xor, BitVec.toNat_not, BitVec.toNat_ofNat, BitVec.toNat_allOnes] at h1
  rw [Nat.mod_eq_of_lt (by omega)] at h1
  exact h1

theorem turn_eq (n : Int) (h1 : -9223372036854775808 ≤ n) (h2 : n ≤ 9223372036854775807) :
    bits BinOp.xor IntKind.u64 (IntKind.u64.wrap (IntKind.u64.wrap n * 2)) (IntKind.u64.wrap (n / 9223372036854775808)) = vturn n := by
  simp only [IntKind.wrap_u64]
  rw [u64_xor _ _ (by omega) (by omega) (by omega) (by omega)]
  unfold vturn
  split
  · rw [show n / 9223372036854775808 = 0 by omega]
    simp; omega
  · rw [show n / 9223372036854775808 = -1 by omega]
    rw [show ((-1 : Int) % 18446744073709551616).toNat = 18446744073709551615 from rfl, xor_ones64 _ (by omega)]
    omega


theorem i64_xor_zero (x : Int) (h0 : 0 ≤ x) (h : x < 9223372036854775808) : bits BinOp.xor IntKind.i64 x 0 = x := by
  have e : (BitVec.ofInt 64 x ^^^ BitVec.ofInt 64 0).toNat = x.toNat := by
    have : BitVec.ofInt 64 0 = 0#64 := by decide
    rw [this, BitVec.xor_zero, BitVec.toNat_ofInt]
    omega
  show IntKind.i64.wrap ((BitVec.ofInt 64 x ^^^ BitVec.ofInt 64 0).toNat : Int) = x
  rw [e, IntKind.wrap_i64]
  omega

theorem i64_xor_ones (x : Int) (h0 : 0 ≤ x) (h : x < 9223372036854775808) : bits BinOp.xor IntKind.i64 x (-1) = -x - 1 := by
  have e : (BitVec.ofInt 64 x ^^^ BitVec.ofInt 64 (-1)).toNat = 18446744073709551615 - x.toNat := by
    have : BitVec.ofInt 64 (-1) = BitVec.allOnes 64 := by decide
    rw [this, BitVec.xor_allOnes, BitVec.toNat_not, BitVec.toNat_ofInt]
    omega
  show IntKind.i64.wrap ((BitVec.ofInt 64 x ^^^ BitVec.ofInt 64 (-1)).toNat : Int) = _
  rw [e, IntKind.wrap_i64]
  omega

def vback (n : Nat) : Int := if n % 2 = 0 then (n / 2 : Nat) else - ((n / 2 : Nat) : Int) - 1

theorem back_eq (n : Nat) (h : n < 18446744073709551616) :
    bits BinOp.xor IntKind.i64 (wrap64 ((n:Int) / 2)) (wrap64 (-wrap64 (bits BinOp.and IntKind.u64 (n:Int) 1))) = vback n := by
  rw [u64_and _ _ (by omega) (by omega) (by omega) (by omega)]
  rw [show (1:Int).toNat = 1 from rfl, nat_mask1]
  rw [show (n : Int).toNat = n by omega]
  rw [IntWalk.wrap64_in ((n : Int) / 2) (by constructor <;> omega)]
  unfold vback
  rcases Nat.mod_two_eq_zero_or_one n with h0 | h0
  · rw [h0, if_pos rfl, show wrap64 (-wrap64 ((0 : Nat) : Int)) = 0 from by simp [wrap64], i64_xor_zero _ (by omega) (by omega)]
    omega
  · rw [h0, if_neg (by omega), show wrap64 (-wrap64 ((1 : Nat) : Int)) = -1 from by simp [wrap64], i64_xor_ones _ (by omega) (by omega)]
    omega

theorem turn_any (n : Int) (h1 : -9223372036854775808 ≤ n) (h2 : n ≤ 9223372036854775807) (w : World) :
    Calls Tryz.prog 117 #[.int .i64 n] w fun e w' => e = .returned (.int .u64 (vturn n)) ∧ w = w' := by
  have h := Lib.hid (turn_eq n h1 h2)
  go_enter Tryz.func117, Tryz.ntmps117
  go_wp2
  go_ret
  exact ⟨ret_int h.out, rfl⟩

theorem rturn_any (n : Int) (h1 : -9223372036854775808 ≤ n) (h2 : n ≤ 9223372036854775807) (w : World) :
    Calls Tryz.prog 102 #[.int .i64 n] w fun e w' => e = .returned (.int .u64 (vturn n)) ∧ w = w' := by
  by_cases h : 0 ≤ n
  all_goals
    go_enter Tryz.func102, Tryz.ntmps102
    go_wp2
    go_ret
    refine ⟨ret_int ?_, rfl⟩
    unfold vturn
    split <;> omega

theorem back_any (n : Nat) (h : n < 18446744073709551616) (w : World) :
    Calls Tryz.prog 106 #[.int .u64 n] w fun e w' => e = .returned (.int .i64 (vback n)) ∧ w = w' := by
  have h := back_eq n h
  rw [IntWalk.wrap64_in ((n : Int) / 2) (by constructor <;> omega)] at h
  have H := Lib.hid h
  clear h
  go_enter Tryz.func106, Tryz.ntmps106
  go_wp2
  go_ret
  exact ⟨ret_int H.out, rfl⟩


theorem rput_int (n : Int) (h0 : 0 ≤ n) (hn : n < 18446744073709551616) (w : World) :
    Calls Tryz.prog 74 #[.int .u64 n] w fun e w' => ∃ v, e = .returned v ∧ Ob w' w.heap.size 5 v (vput n.toNat) ∧ Below w.heap.size w w' := by
  obtain ⟨m, rfl⟩ := Int.eq_ofNat_of_zero_le h0
  exact rput_any m (by omega) w

theorem put_int (n : Int) (h0 : 0 ≤ n) (hn : n < 18446744073709551616) (w : World) :
    Calls Tryz.prog 82 #[.int .u64 n] w fun e w' => ∃ v, e = .returned v ∧ Ob w' w.heap.size 5 v (vput n.toNat) ∧ Below w.heap.size w w' := by
  obtain ⟨m, rfl⟩ := Int.eq_ofNat_of_zero_le h0
  exact put_any m (by omega) w

end Go.Proofs.YtjnbdeopoohnmaaGreatDoor
/- slices.Clone at bytes. -/
set_option linter.unusedSimpArgs false
namespace Go.Proofs.YtjnbdeopoohnmaaGreatDoor
open Go.RowKit

theorem clone1_any (y : Value) (m : List UInt8) (w : World) (hy : Bs w y m) (hm : m.length ≤ 140737488355328) :
    Calls Tryz.prog 27 #[y] w fun e w' => ∃ v, e = .returned v ∧ Ob w' w.heap.size 5 v m ∧ Below w.heap.size w w' := by
  obtain ⟨a, c, hs⟩ := hy.shape
  subst hs
  cases a with
  | none =>
    have hm0 : m = [] ∧ c = 0 := by
      obtain ⟨_, a', c', he, h2, h3, h4, h5⟩ := hy
      simp only [Value.slice.injEq] at he
      obtain ⟨rfl, _, rfl⟩ := he
      have := h4 rfl
      exact ⟨List.eq_nil_of_length_eq_zero (by omega), this⟩
    obtain ⟨rfl, rfl⟩ := hm0
    have hq := fun W => Lib.run_eql_slice_nil (P := Tryz.prog) W 25 5 none 0 0 0 0 Tryz.underlying25
    rw [show (([] : List UInt8).length) = 0 from rfl]
    go_enter Tryz.func27, Tryz.ntmps27
    go_wp2
    go_ret
    exact ⟨_, rfl, Ob.nil _ _ _, Below.refl _ _⟩
  | some ad =>
    have hq := fun W => Lib.run_eql_slice_nil (P := Tryz.prog) W 25 5 (some ad) m.length c 0 0 Tryz.underlying25
    go_enter Tryz.func27, Tryz.ntmps27
    go_wp2_with (at_builtin; go_must (refine wpList_append_bytes (ob_made w _) (hy.alloc _) elB (by simp; omega) (by simp; omega) (by simp) ?_ _ _ rfl rfl rfl rfl); intro v3 w3 ho3 hg3 hb3 _)
    go_ret
    refine ⟨_, rfl, ?_, ((Below.refl _ _).alloc (Nat.le_refl _) _).trans hb3⟩
    simpa using ho3


end Go.Proofs.YtjnbdeopoohnmaaGreatDoor
