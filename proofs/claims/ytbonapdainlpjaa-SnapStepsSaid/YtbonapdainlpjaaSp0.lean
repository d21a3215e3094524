/- Layer 36 (snap), plain: a bank's generation, a generation's record. -/
import Derived.Test.YtbonapdainlpjaaLg0
set_option linter.unusedSimpArgs false
namespace Go.Proofs.Ytbonapdainlpjaa

/-- bytes as a number, the highest first -/
def sbe (l : List UInt8) : Nat := l.foldl (fun n c => n * 256 + c.toNat) 0
theorem sbe_app (l : List UInt8) (c : UInt8) : sbe (l ++ [c]) = sbe l * 256 + c.toNat := by simp [sbe, List.foldl_append]
theorem sbe_fold (l : List UInt8) : ∀ a : Nat, l.foldl (fun n c => n * 256 + c.toNat) a + 1 ≤ (a + 1) * 256 ^ l.length := by
  induction l with
  | nil => intro a; simp
  | cons c l ih =>
    intro a
    rw [List.foldl_cons, List.length_cons, Nat.pow_succ]
    have h1 := ih (a * 256 + c.toNat)
    have h2 : a * 256 + c.toNat + 1 ≤ (a + 1) * 256 := by have := c.toNat_lt; omega
    have h3 := Nat.mul_le_mul_right (256 ^ l.length) h2
    rw [Nat.mul_assoc, Nat.mul_comm 256] at h3
    omega
theorem sbe_lt (l : List UInt8) : sbe l < 256 ^ l.length := by
  have := sbe_fold l 0
  rw [Nat.zero_add, Nat.one_mul] at this
  exact this
theorem sbe_take (l : List UInt8) (i : Nat) (h : i < l.length) : sbe (l.take (i + 1)) = sbe (l.take i) * 256 + (l[i]).toNat := by
  rw [List.take_succ_eq_append_getElem h, sbe_app]
theorem sbe8_lt (l : List UInt8) {k : Nat} (hk : k ≤ 8) : sbe (l.take k) < 18446744073709551616 := by
  have h := sbe_lt (l.take k)
  have h2 : (l.take k).length ≤ 8 := by simp; omega
  have h3 : 256 ^ (l.take k).length ≤ 256 ^ 8 := Nat.pow_le_pow_right (by omega) h2
  have h4 : (256 : Nat) ^ 8 = 18446744073709551616 := by decide
  omega

/-- does a bank count: its first record tells a generation -/
def sok (R : List (List UInt8)) : Prop := ∃ x L, R = x :: L ∧ 8 ≤ x.length
instance (R : List (List UInt8)) : Decidable (sok R) := by
  cases R with
  | nil => exact .isFalse (by rintro ⟨x, L, h, _⟩; cases h)
  | cons x L => exact if h : 8 ≤ x.length then .isTrue ⟨x, L, rfl, h⟩ else .isFalse (by rintro ⟨y, M, e, h2⟩; injection e with e1 e2; subst e1; exact h h2)
def sgen (R : List (List UInt8)) : Nat := if sok R then sbe ((R.headD []).take 8) else 0
def ssnap (R : List (List UInt8)) : List UInt8 := if sok R then (R.headD []).drop 8 else []
def srecs (R : List (List UInt8)) : List (List UInt8) := if sok R then R.tail else []

/-- a generation and a snapshot as a record -/
def sbyte (g i : Nat) : UInt8 := UInt8.ofNat (g / 2 ^ (56 - 8 * i))
def shead (g : Nat) : List UInt8 := (List.range 8).map (sbyte g)
def srec (g : Nat) (s : List UInt8) : List UInt8 := shead g ++ s
theorem shead_len (g : Nat) : (shead g).length = 8 := by simp [shead]
theorem srec_len (g : Nat) (s : List UInt8) : (srec g s).length = 8 + s.length := by simp [srec, shead_len]
theorem srec_take (g : Nat) (s : List UInt8) : (srec g s).take 8 = shead g := by simp [srec, List.take_append_of_le_length, shead_len, List.take_of_length_le]
theorem srec_drop (g : Nat) (s : List UInt8) : (srec g s).drop 8 = s := by simp [srec, List.drop_append_of_le_length, shead_len, List.drop_of_length_le]
theorem sbe_shead {g : Nat} (h : g < 18446744073709551616) : sbe (shead g) = g := by
  have e : shead g = [sbyte g 0, sbyte g 1, sbyte g 2, sbyte g 3, sbyte g 4, sbyte g 5, sbyte g 6, sbyte g 7] := rfl
  rw [e]
  simp only [sbe, List.foldl_cons, List.foldl_nil, sbyte, UInt8.toNat_ofNat']
  simp only [Nat.reduceMul, Nat.reduceSub, Nat.reducePow, Nat.zero_mul, Nat.zero_add, Nat.pow_zero, Nat.div_one]
  omega
theorem sok_srec (g : Nat) (s : List UInt8) (L : List (List UInt8)) : sok (srec g s :: L) := ⟨_, _, rfl, by rw [srec_len]; omega⟩
theorem sgen_srec {g : Nat} (h : g < 18446744073709551616) (s : List UInt8) (L : List (List UInt8)) : sgen (srec g s :: L) = g := by
  rw [sgen, if_pos (sok_srec _ _ _), List.headD_cons, srec_take, sbe_shead h]
theorem ssnap_srec (g : Nat) (s : List UInt8) (L : List (List UInt8)) : ssnap (srec g s :: L) = s := by
  rw [ssnap, if_pos (sok_srec _ _ _), List.headD_cons, srec_drop]
theorem srecs_srec (g : Nat) (s : List UInt8) (L : List (List UInt8)) : srecs (srec g s :: L) = L := by
  rw [srecs, if_pos (sok_srec _ _ _), List.tail_cons]
theorem sgen_lt (R : List (List UInt8)) : sgen R < 18446744073709551616 := by
  unfold sgen
  split
  · exact sbe8_lt _ (Nat.le_refl _)
  · decide
end Go.Proofs.Ytbonapdainlpjaa
