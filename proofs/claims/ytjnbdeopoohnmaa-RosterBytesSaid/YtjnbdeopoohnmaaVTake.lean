/- Walks of Take of layer 1 and of its reference. -/
import Derived.Test.YtjnbdeopoohnmaaVarint
namespace Go.Proofs.Ytjnbdeopoohnmaa
open Go.RowKit

theorem rt_wrap (m c k sc : Nat) (hk9 : k ≤ 9) (h9 : k = 9 → c ≤ 1) (hsc : sc = 128 ^ k) (hm : m < sc) :
    IntKind.u64.wrap ((m : Int) + IntKind.u64.wrap ((c : Int) % 128 * (sc : Int))) = ((m + c % 128 * sc : Nat) : Int) := by
  have h1 := (mul128_le c k hk9 h9).1
  have h2 := (pow128_le k hk9).2
  rw [← hsc] at h1 h2
  rw [show (c : Int) % 128 * (sc : Int) = ((c % 128 * sc : Nat) : Int) by simp]
  simp only [IntKind.wrap_u64]
  omega

theorem rt_zero {m c k sc : Nat} (hk9 : k ≤ 9) (hsc : sc = 128 ^ k) (hm : m < sc) (h : c = 0) : IntKind.u64.wrap ((m : Int) + IntKind.u64.wrap 0) = ((m + c % 128 * sc : Nat) : Int) := by
  have h2 := (pow128_le k hk9).2
  rw [← hsc] at h2
  rw [h]
  simp [IntKind.wrap_u64]
  omega

set_option maxRecDepth 100000 in
set_option maxHeartbeats 400000 in
theorem rtake_any (vb : Value) (l : List UInt8) (w : World) (hb : Bs w vb l) :
    Calls Try.prog 105 #[vb] w fun e w' => e = .returned (.tuple #[.int .u64 (vtake l).1, .int .i64 (vtake l).2.1, .int .i64 (vtake l).2.2]) ∧ Below w.heap.size w w' := by
  obtain ⟨a, ca, adr, rfl, ha1, ha2, ha3, ha4, ha5⟩ := Bs.open_ elB hb
  clear hb
  go_enter Try.func105, Try.ntmps105
  go_wp2
  go_loopw [5, 6, 7] (fun n sc i wr => ∃ k m : Nat, k ≤ l.length ∧ k ≤ 9 ∧ n = .int .u64 m ∧ sc = .int .u64 ((128 ^ k : Nat) : Int) ∧ i = .int .i64 k ∧ m < 128 ^ k ∧ Hid (vgo (l.drop k) k m = vtake l) ∧ Below w.heap.size w wr) (fun _ _ i _ => l.length - (intOf i).toNat)
  case atStart => exact ⟨0, 0, by omega, by omega, rfl, rfl, rfl, by simp, rfl, Below.refl _ _⟩
  case round =>
    obtain ⟨k, m, hk, hk9, rfl, rfl, rfl, hm, hv, hw⟩ := hrel
    obtain ⟨sc, hsc⟩ : ∃ sc, sc = 128 ^ k := ⟨_, rfl⟩
    rw [← hsc]
    have HSC := Lib.hid hsc
    rw [← hsc] at hm
    clear hsc
    by_cases hlt : k < l.length
    · obtain ⟨x, hx⟩ : ∃ x, l[k]? = some x := ⟨_, List.getElem?_eq_getElem hlt⟩
      have h3 : wr.cell? (adr k) = some (.int .u8 x.toNat) := by rw [hw.cell (ha4 k hlt)]; exact ha5 k x hx
      obtain ⟨c, hc⟩ : ∃ c, c = x.toNat := ⟨_, rfl⟩
      have hc256 : c < 256 := by have := x.toNat_lt; omega
      rw [← hc] at h3
      have HX := Lib.hid hx
      have HC := Lib.hid hc
      clear ha5 ha4 hx hc
      have hstep : Hid (vgo (l.drop k) k m = if k = 9 ∧ 1 < c then (0, 0, 11)
    else if c < 128 then (if c = 0 ∧ 0 < k then (0, 0, 11) else (m + c % 128 * sc, k + 1, 0))
    else vgo (l.drop (k + 1)) (k + 1) (m + c % 128 * sc)) := by
        have := HX.out
        show _ = _
        rw [List.drop_eq_getElem_cons hlt, vgo, HC.out, HSC.out, (List.getElem?_eq_some_iff.1 HX.out).2]
      have hwrap : k = 9 → c ≤ 1 → Hid (IntKind.u64.wrap ((m : Int) + IntKind.u64.wrap ((c : Int) % 128 * (sc : Int))) = ((m + c % 128 * sc : Nat) : Int)) := fun _ h => rt_wrap m c k sc hk9 (fun _ => h) HSC.out hm
      have hwrap2 : k ≠ 9 → Hid (IntKind.u64.wrap ((m : Int) + IntKind.u64.wrap ((c : Int) % 128 * (sc : Int))) = ((m + c % 128 * sc : Nat) : Int)) := fun h => rt_wrap m c k sc hk9 (fun h' => absurd h' h) HSC.out hm
      have hnext : k ≠ 9 → c % 128 * sc + sc ≤ 128 ^ (k + 1) ∧ 128 ^ (k + 1) = sc * 128 ∧ sc * 128 ≤ 9223372036854775808 := by
        intro h
        have e := HSC.out
        have h1 := (mul128_le c k hk9 (fun h' => absurd h' h)).2 (by omega)
        have h2 := (pow128_le (k + 1) (by omega)).2
        rw [e]
        rw [Nat.pow_succ] at *
        exact ⟨h1, rfl, h2⟩
      have HW := Lib.hid hwrap
      have HW2 := Lib.hid hwrap2
      have HN := Lib.hid hnext
      clear hwrap hwrap2 hnext
      go_wp2
      case roundEnd =>
        go_roundw
        case rel =>
          have hk : ¬ k = 9 := by omega
          have h1 := HN.out hk
          refine ⟨k + 1, m + c % 128 * sc, by omega, by omega, by rw [(HW2.out hk).out], ?_, by go_num, by omega, ?_, hw⟩
          · rw [h1.2.1, IntKind.wrap_u64]
            congr 1
            omega
          · have e := hv.out
            rw [hstep.out, if_neg (by omega), if_neg (by omega)] at e
            exact e
        case measure => simp [intOf]; omega
      all_goals
        have e := hv.out
        rw [hstep.out] at e
        repeat (first | rw [if_pos (by omega)] at e | rw [if_neg (by omega)] at e)
        go_ret3
        refine ⟨?_, hw⟩
        rw [← e]
        refine ret_3 ?_ ?_ ?_
        all_goals first | rfl | exact rt_zero hk9 HSC.out hm (by omega) | exact (HW.out (by omega) (by omega)).out | exact (HW2.out (by omega)).out | (show (_ : Int) = ((k + 1 : Nat) : Int); omega)
    · have hkl : k = l.length := by omega
      have e := hv.out
      rw [List.drop_eq_nil_of_le (by omega), vgo] at e
      have E := Lib.hid e
      clear e hkl
      go_wp2
      go_ret3
      refine ⟨?_, hw⟩
      rw [← E.out]
      rfl


theorem tk_val {m c k sc : Nat} {C Q : Int} (hk9 : k ≤ 9) (h9 : k = 9 → c ≤ 1) (hsc : sc = 128 ^ k) (hm : m < sc) (hc : c < 256) (hC : C = (c : Int)) (hQ : Q = (sc : Int)) :
    bits BinOp.or IntKind.u64 (m : Int) (IntKind.u64.wrap (IntKind.u64.wrap (bits BinOp.and IntKind.u8 C 127) * Q)) = ((m + c % 128 * sc : Nat) : Int) := by
  have h1 := (mul128_le c k hk9 h9).1
  have h2 := (pow128_le k hk9).2
  rw [← hsc] at h1 h2
  subst hC hQ
  rw [u8_and _ _ (by omega) (by omega) (by omega) (by omega)]
  rw [show (127 : Int).toNat = 127 from rfl, nat_mask7, show (c : Int).toNat = c by omega]
  simp only [IntKind.wrap_u64]
  rw [show ((c % 128 : Nat) : Int) % 18446744073709551616 * (sc : Int) = ((c % 128 * sc : Nat) : Int) by rw [Int.emod_eq_of_lt (by omega) (by omega)]; simp]
  rw [u64_or _ _ (by omega) (by omega) (by omega) (by omega)]
  congr 1
  rw [show (m : Int).toNat = m by omega]
  rw [show (((c % 128 * sc : Nat) : Int) % 18446744073709551616).toNat = c % 128 * sc by omega]
  rw [Nat.or_comm, nat_join (7 * k) (c % 128 * sc) m]
  · omega
  · rw [hsc, show (128 : Nat) = 2 ^ 7 from rfl, ← Nat.pow_mul]
    exact Nat.mul_mod_left _ _
  · rw [Nat.pow_mul]
    rw [hsc] at hm
    exact hm

theorem tk_pow {k sc : Nat} (hsc : sc = 128 ^ k) : (2 : Int) ^ (7 * k) = (sc : Int) := by
  rw [hsc, Int.pow_mul]
  simp

theorem tk_pow9 {k sc : Nat} (hsc : sc = 128 ^ k) (h : k = 9) : (9223372036854775808 : Int) = (sc : Int) := by
  rw [hsc, h]
  decide

def TakeJ (w : World) (l : List UInt8) (a : Option Addr) (ca : Nat) (a' : Act) (wr : World) : Prop :=
  ∃ (k m : Nat) (u2 u3 u4 u7 u8 u9 u10 u11 u12 u13 u14 u15 u16 u17 u18 u19 u20 u21 u22 u23 u24 u25 u26 u27 u28 u29 u30 u31 u32 u33 u34 u35 u36 u37 u38 u39 u40 u41 u42 : Value), a' = { tmps := List.toArray ((.slice a l.length ca) :: (undef) :: (u2) :: (u3) :: (u4) :: (.int .u64 m) :: (.int .i64 k) :: (u7) :: (u8) :: (u9) :: (u10) :: (u11) :: (u12) :: (u13) :: (u14) :: (u15) :: (u16) :: (u17) :: (u18) :: (u19) :: (u20) :: (u21) :: (u22) :: (u23) :: (u24) :: (u25) :: (u26) :: (u27) :: (u28) :: (u29) :: (u30) :: (u31) :: (u32) :: (u33) :: (u34) :: (u35) :: (u36) :: (u37) :: (u38) :: (u39) :: (u40) :: (u41) :: (u42) :: []), defers := [] } ∧ k ≤ l.length ∧ k ≤ 9 ∧ m < 128 ^ k ∧ Hid (vgo (l.drop k) k m = vtake l) ∧ Below w.heap.size w wr

set_option maxRecDepth 100000 in
set_option maxHeartbeats 400000 in
theorem take_any (vb : Value) (l : List UInt8) (w : World) (hb : Bs w vb l) :
    Calls Try.prog 104 #[vb] w fun e w' => e = .returned (.tuple #[.int .u64 (vtake l).1, .int .i64 (vtake l).2.1, .int .i64 (vtake l).2.2]) ∧ Below w.heap.size w w' := by
  obtain ⟨a, ca, adr, rfl, ha1, ha2, ha3, ha4, ha5⟩ := Bs.open_ elB hb
  clear hb
  go_enter Try.func104, Try.ntmps104
  go_wp2
  refine wp_scope_jumps2 0 (TakeJ w l a ca) (fun a' _ => l.length - (intOf (a'.tmps.getD 6 undef)).toNat) rfl ?_ ?_
  · intro hp
    go_wp2_with (fail)
    go_step3
    refine (by assumption : ∀ a w, Code.wp _ _ _ a w → _) _ _ (hp _ _ ⟨0, 0, _, _, _, _, _, _, _, _, _, _, _, _, _, _, _, _, _, _, _, _, _, _, _, _, _, _, _, _, _, _, _, _, _, _, _, _, _, _, _, rfl, by omega, by omega, by simp, rfl, Below.refl _ _⟩)
  · rintro a' wr ⟨k, m, u2, u3, u4, u7, u8, u9, u10, u11, u12, u13, u14, u15, u16, u17, u18, u19, u20, u21, u22, u23, u24, u25, u26, u27, u28, u29, u30, u31, u32, u33, u34, u35, u36, u37, u38, u39, u40, u41, u42, rfl, hk, hk9, hm, hv, hw⟩
    obtain ⟨sc, hsc⟩ : ∃ sc, sc = 128 ^ k := ⟨_, rfl⟩
    have HSC := Lib.hid hsc
    rw [← hsc] at hm
    clear hsc
    by_cases hlt : k < l.length
    · obtain ⟨x, hx⟩ : ∃ x, l[k]? = some x := ⟨_, List.getElem?_eq_getElem hlt⟩
      have h3 : wr.cell? (adr k) = some (.int .u8 x.toNat) := by rw [hw.cell (ha4 k hlt)]; exact ha5 k x hx
      obtain ⟨c, hc⟩ : ∃ c, c = x.toNat := ⟨_, rfl⟩
      have hc256 : c < 256 := by have := x.toNat_lt; omega
      rw [← hc] at h3
      have HX := Lib.hid hx
      have HC := Lib.hid hc
      clear ha5 ha4 hx hc
      have hne : ((k : Int) == l.length) = false := by simp; omega
      go_wp2
      rotate_left 3
      · have hk : ¬ k = 9 := by omega
        have e := hv.out
        rw [List.drop_eq_getElem_cons hlt, vgo, (List.getElem?_eq_some_iff.1 HX.out).2, ← HC.out, ← HSC.out, if_neg (by omega), if_neg (by omega)] at e
        have h1 := (mul128_le c k hk9 (fun h' => absurd h' hk)).2 (by omega)
        rw [← HSC.out] at h1
        rw [tk_val hk9 (fun h' => absurd h' hk) HSC.out hm hc256 rfl (tk_pow HSC.out)]
        go_step3
        refine ⟨rfl, ⟨k + 1, m + c % 128 * sc, _, _, _, _, _, _, _, _, _, _, _, _, _, _, _, _, _, _, _, _, _, _, _, _, _, _, _, _, _, _, _, _, _, _, _, _, _, _, _, rfl, by omega, by omega, by omega, e, hw⟩, ?_⟩
        simp [intOf]
        omega
      all_goals
        simp only [Exit.jump]
        have e := hv.out
        rw [List.drop_eq_getElem_cons hlt, vgo, (List.getElem?_eq_some_iff.1 HX.out).2, ← HC.out, ← HSC.out] at e
        repeat (first | rw [if_pos (by omega)] at e | rw [if_neg (by omega)] at e)
        go_ret3
        refine ⟨?_, hw⟩
        rw [← e]
        refine ret_3 ?_ ?_ ?_
        all_goals first | rfl | (exact tk_val hk9 (by omega) HSC.out hm hc256 (by omega) (tk_pow9 HSC.out (by omega))) | (exact tk_val hk9 (by omega) HSC.out hm hc256 (by omega) (tk_pow HSC.out)) | (show (_ : Int) = ((k + 1 : Nat) : Int); omega)
    · have hkl : k = l.length := by omega
      have e := hv.out
      rw [List.drop_eq_nil_of_le (by omega), vgo] at e
      have E := Lib.hid e
      have hq : ((k : Int) == l.length) = true := by simp; omega
      clear e hkl
      go_wp2
      simp only [Exit.jump]
      go_ret3
      refine ⟨?_, hw⟩
      rw [← E.out]
      rfl

end Go.Proofs.Ytjnbdeopoohnmaa
