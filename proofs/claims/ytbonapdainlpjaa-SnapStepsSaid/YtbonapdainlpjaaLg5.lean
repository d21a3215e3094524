/- Layer 35 (log), plain: what a wipe does to the region's bytes and the store, block by block, from behind. -/
import Derived.Test.YtbonapdainlpjaaLg4
set_option linter.unusedSimpArgs false
namespace Go.Proofs.Ytbonapdainlpjaa
open Go.RowKit Go.Sort

/-- noughts from a place on -/
def lcut (b : List UInt8) (c : Nat) : List UInt8 := b.take c ++ List.replicate (b.length - c) 0
theorem lcut_len (b : List UInt8) (c : Nat) : (lcut b c).length = b.length := by simp [lcut]; omega
theorem lcut_get (b : List UInt8) (c j : Nat) : (lcut b c)[j]? = if j < c then b[j]? else if j < b.length then some 0 else none := by
  unfold lcut
  by_cases h : j < c
  · rw [if_pos h]
    by_cases h2 : j < b.length
    · rw [List.getElem?_append_left (by simp; omega), List.getElem?_take, if_pos h]
    · rw [List.getElem?_eq_none (by simp; omega), List.getElem?_eq_none (by omega)]
  · rw [if_neg h]
    by_cases h2 : j < b.length
    · rw [if_pos h2, List.getElem?_append_right (by simp; omega), List.getElem?_replicate, if_pos (by simp; omega)]
    · rw [if_neg h2, List.getElem?_eq_none (by simp; omega)]

def lpt (b : List UInt8) (i : Nat) : List UInt8 := (b.drop (i * 64)).take 64
theorem lpt_len {b : List UInt8} {i : Nat} (h : i * 64 + 64 ≤ b.length) : (lpt b i).length = 64 := by simp [lpt]; omega
theorem lpt_get (b : List UInt8) (i j : Nat) (h : j < 64) : (lpt b i)[j]? = b[i * 64 + j]? := by
  unfold lpt; rw [List.getElem?_take, if_pos h, List.getElem?_drop]

/-- a block wiped from a place on -/
def lclean (b : List UInt8) (i p : Nat) : List UInt8 := (List.range 64).map (bput (fun _ => 0) 0 ((lpt b i).take (p - i * 64)))
theorem lclean_len (b : List UInt8) (i p : Nat) : (lclean b i p).length = 64 := by simp [lclean]
theorem lclean_get {b : List UInt8} {i p j : Nat} (hb : i * 64 + 64 ≤ b.length) (hj : j < 64) : (lclean b i p)[j]? = if i * 64 + j < p then b[i * 64 + j]? else some 0 := by
  unfold lclean
  rw [List.getElem?_map, List.getElem?_range hj, Option.map_some]
  unfold bput
  by_cases h : i * 64 + j < p
  · rw [if_pos h, if_pos (by simp [lpt]; omega), Nat.sub_zero, List.getElem?_take, if_pos (by omega), lpt_get _ _ _ hj, List.getElem?_eq_getElem (by omega)]
    rfl
  · rw [if_neg h, if_neg (by simp; omega)]
theorem lput_get {b l : List UInt8} {i : Nat} (hl : l.length = 64) (hb : i * 64 + 64 ≤ b.length) (j : Nat) : (lput b i l)[j]? = if i * 64 ≤ j ∧ j < i * 64 + 64 then l[j - i * 64]? else b[j]? := by
  unfold lput
  by_cases h1 : j < i * 64
  · rw [if_neg (by omega), List.append_assoc, List.getElem?_append_left (by simp; omega), List.getElem?_take, if_pos h1]
  · by_cases h2 : j < i * 64 + 64
    · rw [if_pos ⟨by omega, h2⟩, List.append_assoc, List.getElem?_append_right (by simp; omega), List.getElem?_append_left (by simp; omega)]
      congr 1
      simp; omega
    · rw [if_neg (by omega), List.getElem?_append_right (by simp; omega), List.getElem?_drop]
      congr 1
      simp; omega
theorem lput_same {b : List UInt8} {i : Nat} (hb : i * 64 + 64 ≤ b.length) : lput b i (lpt b i) = b := by
  apply List.ext_getElem?
  intro j
  rw [lput_get (lpt_len hb) hb]
  split
  · rw [lpt_get _ _ _ (by omega)]; congr 1; omega
  · rfl

theorem lput_clean {b : List UInt8} {i p : Nat} (hb : i * 64 + 64 ≤ b.length) (hp : p < i * 64 + 64) :
    lput (lcut b (max p ((i + 1) * 64))) i (lclean (lcut b (max p ((i + 1) * 64))) i p) = lcut b (max p (i * 64)) := by
  apply List.ext_getElem?
  intro j
  have hb' : i * 64 + 64 ≤ (lcut b (max p ((i + 1) * 64))).length := by rw [lcut_len]; exact hb
  rw [lput_get (lclean_len _ _ _) hb', lcut_get b (max p (i * 64))]
  by_cases h : i * 64 ≤ j ∧ j < i * 64 + 64
  · rw [if_pos h, lclean_get hb' (by omega), lcut_get]
    by_cases h2 : j < p
    · rw [if_pos (by omega), if_pos (by omega), if_pos (by omega)]; congr 1; omega
    · rw [if_neg (by omega), if_neg (by omega), if_pos (by omega)]
  · rw [if_neg h, lcut_get]
    by_cases h2 : j < i * 64
    · rw [if_pos (by omega), if_pos (by omega)]
    · rw [if_neg (show ¬ j < max p ((i + 1) * 64) by omega), if_neg (show ¬ j < max p (i * 64) by omega)]

/-- the region's bytes are the store's -/
def Sync (s : BSt) (d : Lg) : Prop := ∀ j x, d.b[j]? = some x → s.f (d.fr * 64 + j) = x

/-- wiped from c on, with at most k writes -/
structure WipeR (s : BSt) (d : Lg) (c k : Nat) (s1 : BSt) (d1 : Lg) : Prop where
  n : s1.n = s.n
  on : s1.off = false
  f : ∀ j, s1.f j = if d.fr * 64 + c ≤ j ∧ j < (d.fr + d.n) * 64 then 0 else s.f j
  fu : s.fu = none → s1.fu = none
  lo : s.cnt ≤ s1.cnt
  hi : s1.cnt ≤ s.cnt + k
  fz : ∀ a b, s.fu = some (a, b) → ∃ a', s1.fu = some (a', b) ∧ a ≤ a' + k
  d1 : d1 = { d with b := lcut d.b c }
/-- the power went: what was to be wiped is as it was, or nought -/
structure TornR (s : BSt) (d : Lg) (p k : Nat) (s1 : BSt) (d1 : Lg) : Prop where
  n : s1.n = s.n
  off : s1.off = true
  fu0 : s.fu ≠ none
  fu : s1.fu = none
  f : ∀ j, s1.f j = s.f j ∨ (d.fr * 64 + p ≤ j ∧ j < (d.fr + d.n) * 64 ∧ s1.f j = 0)
  lo : s.cnt ≤ s1.cnt
  hi : s1.cnt ≤ s.cnt + k
  fz : ∀ a b, s.fu = some (a, b) → a < k
  fr : d1.fr = d.fr
  nn : d1.n = d.n
  recs : d1.recs = d.recs
  fin : d1.fin = d.fin
  dead : d1.dead = true

theorem WipeR.start {s : BSt} {d : Lg} (hon : s.off = false) (hb : d.b.length = d.n * 64) (c : Nat) (hc : d.n * 64 ≤ c) : WipeR s d c 0 s d := by
  refine ⟨rfl, hon, fun j => ?_, fun h => h, Int.le_refl _, by omega, fun a b h => ⟨a, h, by omega⟩, ?_⟩
  · rw [if_neg (by have : (d.fr + d.n) * 64 = d.fr * 64 + d.n * 64 := Nat.add_mul _ _ _; omega)]
  · have : lcut d.b c = d.b := by unfold lcut; rw [List.take_of_length_le (by omega), show d.b.length - c = 0 by omega]; simp
    rw [this]

section
variable {s s1 : BSt} {d d1 : Lg} {c k i p : Nat}
theorem WipeR.more (h : WipeR s d c k s1 d1) {k' : Nat} (hk : k ≤ k') : WipeR s d c k' s1 d1 := ⟨h.n, h.on, h.f, h.fu, h.lo, by have := h.hi; omega, fun a b hf => by obtain ⟨a', h1, h2⟩ := h.fz a b hf; exact ⟨a', h1, by omega⟩, h.d1⟩
/-- nothing was to be done in the block -/
theorem WipeR.skip (h : WipeR s d (max p ((i + 1) * 64)) k s1 d1) (hs : Sync s d) (hb : d.b.length = d.n * 64) (hi : i < d.n) (hp : p < i * 64 + 64) (heq : lclean d1.b i p = lpt d1.b i) : WipeR s d (max p (i * 64)) k s1 d1 := by
  have hbi : i * 64 + 64 ≤ d.b.length := by rw [hb]; omega
  have e1 := h.d1
  rw [e1] at heq
  simp only at heq
  have e2 := lput_clean hbi hp
  rw [heq, lput_same (by rw [lcut_len]; exact hbi)] at e2
  refine ⟨h.n, h.on, fun j => ?_, h.fu, h.lo, h.hi, h.fz, by rw [e1, e2]⟩
  rw [h.f]
  by_cases h1 : d.fr * 64 + max p ((i + 1) * 64) ≤ j ∧ j < (d.fr + d.n) * 64
  · rw [if_pos h1, if_pos (by omega)]
  · rw [if_neg h1]
    by_cases h2 : d.fr * 64 + max p (i * 64) ≤ j ∧ j < (d.fr + d.n) * 64
    · rw [if_pos h2]
      have hm : (d.fr + d.n) * 64 = d.fr * 64 + d.n * 64 := Nat.add_mul _ _ _
      obtain ⟨q, rfl⟩ : ∃ q, j = d.fr * 64 + q := ⟨j - d.fr * 64, by omega⟩
      have e3 := congrArg (fun l => l[q]?) e2
      simp only [lcut_get] at e3
      rw [if_pos (by omega), if_neg (by omega), if_pos (by omega)] at e3
      exact hs q 0 e3
    · rw [if_neg h2]

theorem bwr_on (s1 : BSt) (j : Int) (l : List UInt8) (hon : s1.off = false) (h0 : 0 ≤ j) (h1 : j < s1.n) (hl : l.length = 64) :
    (bwrE s1 j l = 0 ∧ (bwrS s1 j l).n = s1.n ∧ (bwrS s1 j l).off = false ∧ (bwrS s1 j l).f = bput s1.f (j.toNat * 64) l ∧ (s1.fu = none → (bwrS s1 j l).fu = none) ∧ (bwrS s1 j l).cnt = s1.cnt + 1 ∧ ∀ a b, s1.fu = some (a, b) → (bwrS s1 j l).fu = some (a - 1, b)) ∨
    (bwrE s1 j l = 50 ∧ (bwrS s1 j l).n = s1.n ∧ (bwrS s1 j l).off = true ∧ (∃ m, (bwrS s1 j l).f = bput s1.f (j.toNat * 64) (l.take m)) ∧ s1.fu ≠ none ∧ (bwrS s1 j l).fu = none ∧ (bwrS s1 j l).cnt = s1.cnt + 1 ∧ ∀ a b, s1.fu = some (a, b) → a = 0) := by
  have hm : bmayE s1 j = 0 := by unfold bmayE; rw [hon, if_neg (by simp), if_pos ⟨h0, h1⟩]
  unfold bwrE bwrS
  rw [hm, if_pos rfl, if_pos hl, if_pos ⟨rfl, hl⟩]
  cases hf : s1.fu with
  | none => left; exact ⟨rfl, rfl, hon, rfl, fun _ => rfl, rfl, fun a b h => by cases h⟩
  | some x =>
    obtain ⟨a, b⟩ := x
    by_cases ha : a = 0
    · right
      simp only [ha, if_true]
      exact ⟨trivial, trivial, trivial, ⟨_, rfl⟩, by simp, trivial, trivial, fun c e h => by injection h with h; injection h with h1 h2; omega⟩
    · left
      simp only [ha, if_false]
      exact ⟨trivial, trivial, hon, trivial, by simp, trivial, fun c e h => by injection h with h; injection h with h1 h2; rw [h1, h2]⟩

theorem bput_at (f : Nat → UInt8) (o : Nat) (l : List UInt8) (j : Nat) : bput f o l j = if o ≤ j ∧ j < o + l.length then l[j - o]?.getD 0 else f j := rfl

/-- the block was written -/
theorem WipeR.step (h : WipeR s d (max p ((i + 1) * 64)) k s1 d1) (hs : Sync s d) (hb : d.b.length = d.n * 64) (hi : i < d.n) (hp : p < i * 64 + 64) (hfit : d.fr + d.n ≤ s.n)
    (hE : bwrE s1 ((d.fr : Int) + i) (lclean d1.b i p) = 0) : WipeR s d (max p (i * 64)) (k + 1) (bwrS s1 ((d.fr : Int) + i) (lclean d1.b i p)) { d1 with b := lput d1.b i (lclean d1.b i p) } := by
  have hbi : i * 64 + 64 ≤ d.b.length := by rw [hb]; omega
  have e1 := h.d1
  rcases bwr_on s1 ((d.fr : Int) + i) (lclean d1.b i p) h.on (by omega) (by rw [h.n]; omega) (lclean_len _ _ _) with ⟨_, q1, q2, q3, q4, q5, q6⟩ | ⟨q0, _⟩
  · refine ⟨q1.trans h.n, q2, fun j => ?_, fun hf => q4 (h.fu hf), by rw [q5]; have := h.lo; omega, by rw [q5]; have := h.hi; omega, fun a b hf => by obtain ⟨a', h1, h2⟩ := h.fz a b hf; exact ⟨a' - 1, q6 a' b h1, by omega⟩, ?_⟩
    · rw [q3, bput_at, show (((d.fr : Int) + i).toNat) = d.fr + i by omega, lclean_len, h.f]
      have hm : (d.fr + i) * 64 = d.fr * 64 + i * 64 := Nat.add_mul _ _ _
      have hm2 : (d.fr + d.n) * 64 = d.fr * 64 + d.n * 64 := Nat.add_mul _ _ _
      by_cases h1 : (d.fr + i) * 64 ≤ j ∧ j < (d.fr + i) * 64 + 64
      · rw [if_pos h1, e1, lclean_get (by rw [lcut_len]; exact hbi) (by omega), lcut_get]
        by_cases h2 : i * 64 + (j - (d.fr + i) * 64) < p
        · rw [if_pos h2, if_pos (by omega), if_neg (by omega), List.getElem?_eq_getElem (by omega)]
          have := hs (i * 64 + (j - (d.fr + i) * 64)) _ (List.getElem?_eq_getElem (by omega))
          rw [show d.fr * 64 + (i * 64 + (j - (d.fr + i) * 64)) = j by omega] at this
          rw [this]; rfl
        · rw [if_neg h2, if_pos (by omega)]; rfl
      · rw [if_neg h1]
        by_cases h2 : d.fr * 64 + max p ((i + 1) * 64) ≤ j ∧ j < (d.fr + d.n) * 64
        · rw [if_pos h2, if_pos (by omega)]
        · rw [if_neg h2, if_neg (by omega)]
    · rw [e1]
      simp only
      rw [lput_clean hbi hp]
  · rw [q0] at hE; exact absurd hE (by decide)
/-- the power went -/
theorem WipeR.torn (h : WipeR s d (max p ((i + 1) * 64)) k s1 d1) (hs : Sync s d) (hb : d.b.length = d.n * 64) (hi : i < d.n) (hp : p < i * 64 + 64) (hfit : d.fr + d.n ≤ s.n)
    (hE : bwrE s1 ((d.fr : Int) + i) (lclean d1.b i p) = 50) : TornR s d p (k + 1) (bwrS s1 ((d.fr : Int) + i) (lclean d1.b i p)) { d1 with dead := true } := by
  have hbi : i * 64 + 64 ≤ d.b.length := by rw [hb]; omega
  have e1 := h.d1
  rcases bwr_on s1 ((d.fr : Int) + i) (lclean d1.b i p) h.on (by omega) (by rw [h.n]; omega) (lclean_len _ _ _) with ⟨q0, _⟩ | ⟨_, q1, q2, ⟨m, q3⟩, q4, q5, q6, q7⟩
  · rw [q0] at hE; exact absurd hE (by decide)
  · refine ⟨q1.trans h.n, q2, fun hf => q4 (h.fu hf), q5, fun j => ?_, by rw [q6]; have := h.lo; omega, by rw [q6]; have := h.hi; omega, fun a b hf => by obtain ⟨a', h1, h2⟩ := h.fz a b hf; have := q7 a' b h1; omega, by rw [e1], by rw [e1], by rw [e1], by rw [e1], rfl⟩
    rw [q3, bput_at, show (((d.fr : Int) + i).toNat) = d.fr + i by omega, List.length_take, lclean_len, h.f]
    have hm : (d.fr + i) * 64 = d.fr * 64 + i * 64 := Nat.add_mul _ _ _
    have hm2 : (d.fr + d.n) * 64 = d.fr * 64 + d.n * 64 := Nat.add_mul _ _ _
    by_cases h1 : (d.fr + i) * 64 ≤ j ∧ j < (d.fr + i) * 64 + min m 64
    · rw [if_pos h1, List.getElem?_take, if_pos (by omega), e1, lclean_get (by rw [lcut_len]; exact hbi) (by omega), lcut_get]
      by_cases h2 : i * 64 + (j - (d.fr + i) * 64) < p
      · left
        rw [if_pos h2, if_pos (by omega), List.getElem?_eq_getElem (by omega)]
        have := hs (i * 64 + (j - (d.fr + i) * 64)) _ (List.getElem?_eq_getElem (by omega))
        rw [show d.fr * 64 + (i * 64 + (j - (d.fr + i) * 64)) = j by omega] at this
        rw [this]; rfl
      · right
        rw [if_neg h2]
        exact ⟨by omega, by omega, rfl⟩
    · rw [if_neg h1]
      by_cases h2 : d.fr * 64 + max p ((i + 1) * 64) ≤ j ∧ j < (d.fr + d.n) * 64
      · right; rw [if_pos h2]; exact ⟨by omega, by omega, rfl⟩
      · left; rw [if_neg h2]
end

end Go.Proofs.Ytbonapdainlpjaa
