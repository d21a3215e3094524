/- Layer 35 (log), plain: what an append does to the region's bytes and the store; the log's row set anew; Clear. -/
import Derived.Test.YtbonapdainlpjaaLg7
set_option linter.unusedSimpArgs false
namespace Go.Proofs.Ytbonapdainlpjaa
open Go.RowKit Go.Sort

/-- the region's bytes with a record behind the others -/
def lapp (d : Lg) (r : List UInt8) : List UInt8 := d.b.take d.fin ++ lstands r ++ List.replicate (d.n * 64 - (d.fin + (lstands r).length)) 0
/-- noughts behind the records -/
def Tail (d : Lg) : Prop := ∀ j, d.fin ≤ j → j < d.n * 64 → d.b[j]? = some 0

/-- up to a place the new bytes, behind it the old ones -/
def AppF (s : BSt) (d : Lg) (al : List UInt8) (c : Nat) (f : Nat → UInt8) : Prop := ∀ j, f j = if d.fr * 64 ≤ j ∧ j < d.fr * 64 + c then (al[j - d.fr * 64]?).getD 0 else s.f j

structure AppR (s : BSt) (d : Lg) (al : List UInt8) (i k : Nat) (s1 : BSt) (d1 : Lg) : Prop where
  n : s1.n = s.n
  on : s1.off = false
  f : AppF s d al (i * 64) s1.f
  fu : s.fu = none → s1.fu = none
  lo : s.cnt ≤ s1.cnt
  hi : s1.cnt ≤ s.cnt + k
  fz : ∀ a b, s.fu = some (a, b) → ∃ a', s1.fu = some (a', b) ∧ a ≤ a' + k
  d1 : d1 = { d with b := al.take (i * 64) ++ d.b.drop (i * 64) }
structure TornA (s : BSt) (d : Lg) (al : List UInt8) (k : Nat) (s1 : BSt) (d1 : Lg) : Prop where
  n : s1.n = s.n
  off : s1.off = true
  fu0 : s.fu ≠ none
  fu : s1.fu = none
  f : ∃ c, c ≤ d.n * 64 ∧ AppF s d al c s1.f
  lo : s.cnt ≤ s1.cnt
  hi : s1.cnt ≤ s.cnt + k
  fz : ∀ a b, s.fu = some (a, b) → a < k
  fr : d1.fr = d.fr
  nn : d1.n = d.n
  recs : d1.recs = d.recs
  fin : d1.fin = d.fin
  dead : d1.dead = true

section
variable {s s1 : BSt} {d d1 : Lg} {al r : List UInt8} {i k : Nat}
theorem lapp_len (hb : d.b.length = d.n * 64) (hf : d.fin + (lstands r).length ≤ d.n * 64) : (lapp d r).length = d.n * 64 := by
  unfold lapp
  simp; omega
theorem lapp_lo (hb : d.b.length = d.n * 64) (hf : d.fin + (lstands r).length ≤ d.n * 64) {j : Nat} (hj : j < d.fin) : (lapp d r)[j]? = d.b[j]? := by
  unfold lapp
  rw [List.append_assoc, List.getElem?_append_left (by simp; omega), List.getElem?_take, if_pos hj]
theorem lapp_mid (hb : d.b.length = d.n * 64) (hf : d.fin + (lstands r).length ≤ d.n * 64) {j : Nat} (hj : j < (lstands r).length) : (lapp d r)[d.fin + j]? = (lstands r)[j]? := by
  unfold lapp
  have : (d.b.take d.fin).length = d.fin := by simp; omega
  rw [List.append_assoc, List.getElem?_append_right (by omega), this, Nat.add_sub_cancel_left, List.getElem?_append_left hj]
theorem lapp_hi (hb : d.b.length = d.n * 64) (hf : d.fin + (lstands r).length ≤ d.n * 64) {j : Nat} (h1 : d.fin + (lstands r).length ≤ j) (h2 : j < d.n * 64) : (lapp d r)[j]? = some 0 := by
  unfold lapp
  rw [List.getElem?_append_right (by simp; omega), List.getElem?_replicate, if_pos (by simp; omega)]

/-- at the start: all blocks ahead of the end's are as they were -/
theorem AppR.start (hon : s.off = false) (hs : Sync s d) (hb : d.b.length = d.n * 64) (hf : d.fin + (lstands r).length ≤ d.n * 64) (hi : i * 64 ≤ d.fin) : AppR s d (lapp d r) i 0 s d := by
  refine ⟨rfl, hon, fun j => ?_, fun h => h, Int.le_refl _, by omega, fun a b h => ⟨a, h, by omega⟩, ?_⟩
  · split
    · rename_i h
      rw [lapp_lo hb hf (by omega), List.getElem?_eq_getElem (by omega)]
      have := hs (j - d.fr * 64) _ (List.getElem?_eq_getElem (by omega))
      rw [show d.fr * 64 + (j - d.fr * 64) = j by omega] at this
      rw [this]; rfl
    · rfl
  · have : (lapp d r).take (i * 64) = d.b.take (i * 64) := by
      apply List.ext_getElem?
      intro j
      rw [List.getElem?_take, List.getElem?_take]
      split
      · exact lapp_lo hb hf (by omega)
      · rfl
    rw [this, List.take_append_drop]

theorem AppR.more (h : AppR s d al i k s1 d1) {k' : Nat} (hk : k ≤ k') : AppR s d al i k' s1 d1 := ⟨h.n, h.on, h.f, h.fu, h.lo, by have := h.hi; omega, fun a b hf => by obtain ⟨a', h1, h2⟩ := h.fz a b hf; exact ⟨a', h1, by omega⟩, h.d1⟩

theorem appF_step {f : Nat → UInt8} (h : AppF s d al (i * 64) f) (ha : i * 64 + 64 ≤ al.length) (m : Nat) (hm : m ≤ 64) : AppF s d al (i * 64 + m) (bput f ((d.fr + i) * 64) ((lpt al i).take m)) := by
  intro j
  have hme : (d.fr + i) * 64 = d.fr * 64 + i * 64 := Nat.add_mul _ _ _
  have hl : ((lpt al i).take m).length = m := by rw [List.length_take, lpt_len ha]; omega
  rw [bput_at, hl]
  by_cases h1 : (d.fr + i) * 64 ≤ j ∧ j < (d.fr + i) * 64 + m
  · rw [if_pos h1, if_pos (by omega), List.getElem?_take, if_pos (by omega), lpt_get _ _ _ (by omega)]
    congr 2; omega
  · rw [if_neg h1, h j]
    by_cases h2 : d.fr * 64 ≤ j ∧ j < d.fr * 64 + i * 64
    · rw [if_pos h2, if_pos (by omega)]
    · rw [if_neg h2, if_neg (by omega)]

theorem lput_app {b : List UInt8} (hl : al.length = b.length) (ha : i * 64 + 64 ≤ al.length) : lput (al.take (i * 64) ++ b.drop (i * 64)) i (lpt al i) = al.take ((i + 1) * 64) ++ b.drop ((i + 1) * 64) := by
  apply List.ext_getElem?
  intro j
  have h0 : (al.take (i * 64) ++ b.drop (i * 64)).length = b.length := by simp; omega
  rw [lput_get (lpt_len ha) (by omega)]
  by_cases h : i * 64 ≤ j ∧ j < i * 64 + 64
  · rw [if_pos h, lpt_get _ _ _ (by omega), List.getElem?_append_left (by simp; omega), List.getElem?_take, if_pos (by omega)]
    congr 1; omega
  · rw [if_neg h]
    by_cases h2 : j < i * 64
    · rw [List.getElem?_append_left (by simp; omega), List.getElem?_append_left (by simp; omega), List.getElem?_take, List.getElem?_take, if_pos h2, if_pos (by omega)]
    · rw [List.getElem?_append_right (by simp; omega), List.getElem?_append_right (by simp; omega), List.getElem?_drop, List.getElem?_drop]
      congr 1
      simp; omega

/-- a block more -/
theorem AppR.step (h : AppR s d al i k s1 d1) (hb : d.b.length = d.n * 64) (ha : al.length = d.n * 64) (hi : i < d.n) (hfit : d.fr + d.n ≤ s.n)
    (hE : bwrE s1 ((d.fr : Int) + i) (lpt al i) = 0) : AppR s d al (i + 1) (k + 1) (bwrS s1 ((d.fr : Int) + i) (lpt al i)) { d1 with b := lput d1.b i (lpt al i) } := by
  have hai : i * 64 + 64 ≤ al.length := by rw [ha]; omega
  rcases bwr_on s1 ((d.fr : Int) + i) (lpt al i) h.on (by omega) (by rw [h.n]; omega) (lpt_len hai) with ⟨_, q1, q2, q3, q4, q5, q6⟩ | ⟨q0, _⟩
  · refine ⟨q1.trans h.n, q2, ?_, fun hf => q4 (h.fu hf), by rw [q5]; have := h.lo; omega, by rw [q5]; have := h.hi; omega, fun a b hf => by obtain ⟨a', h1, h2⟩ := h.fz a b hf; exact ⟨a' - 1, q6 a' b h1, by omega⟩, ?_⟩
    · rw [q3, show (((d.fr : Int) + i).toNat) = d.fr + i by omega]
      have := appF_step h.f hai 64 (Nat.le_refl _)
      rw [List.take_of_length_le (by rw [lpt_len hai]; exact Nat.le_refl _), show i * 64 + 64 = (i + 1) * 64 by omega] at this
      exact this
    · rw [h.d1]
      simp only
      rw [lput_app (by rw [ha, hb]) hai]
  · rw [q0] at hE; exact absurd hE (by decide)
theorem AppR.torn (h : AppR s d al i k s1 d1) (ha : al.length = d.n * 64) (hi : i < d.n) (hfit : d.fr + d.n ≤ s.n)
    (hE : bwrE s1 ((d.fr : Int) + i) (lpt al i) = 50) : TornA s d al (k + 1) (bwrS s1 ((d.fr : Int) + i) (lpt al i)) { d1 with dead := true } := by
  have hai : i * 64 + 64 ≤ al.length := by rw [ha]; omega
  have e1 := h.d1
  rcases bwr_on s1 ((d.fr : Int) + i) (lpt al i) h.on (by omega) (by rw [h.n]; omega) (lpt_len hai) with ⟨q0, _⟩ | ⟨_, q1, q2, ⟨m, q3⟩, q4, q5, q6, q7⟩
  · rw [q0] at hE; exact absurd hE (by decide)
  · refine ⟨q1.trans h.n, q2, fun hf => q4 (h.fu hf), q5, ⟨i * 64 + min m 64, by omega, ?_⟩, by rw [q6]; have := h.lo; omega, by rw [q6]; have := h.hi; omega, fun a b hf => by obtain ⟨a', h1, h2⟩ := h.fz a b hf; have := q7 a' b h1; omega, by rw [e1], by rw [e1], by rw [e1], by rw [e1], rfl⟩
    rw [q3, show (((d.fr : Int) + i).toNat) = d.fr + i by omega]
    have := appF_step h.f hai (min m 64) (Nat.min_le_right _ _)
    rwa [show (lpt al i).take (min m 64) = (lpt al i).take m by rw [← List.take_take, List.take_of_length_le (l := (lpt al i)) (i := 64) (by rw [lpt_len hai]; exact Nat.le_refl _)]] at this

/-- all is written: the region is the new bytes -/
theorem AppR.done (h : AppR s d (lapp d r) i k s1 d1) (hb : d.b.length = d.n * 64) (hf : d.fin + (lstands r).length ≤ d.n * 64) (ht : Tail d) (hs : Sync s d) (hi : d.fin + (lstands r).length ≤ i * 64) (hin : i ≤ d.n) :
    AppF s d (lapp d r) (d.n * 64) s1.f ∧ d1 = { d with b := lapp d r } := by
  constructor
  · intro j
    rw [h.f j]
    by_cases h1 : d.fr * 64 ≤ j ∧ j < d.fr * 64 + d.n * 64
    · rw [if_pos h1]
      by_cases h2 : j < d.fr * 64 + i * 64
      · rw [if_pos ⟨h1.1, h2⟩]
      · rw [if_neg (by omega), lapp_hi hb hf (by omega) (by omega)]
        have := hs (j - d.fr * 64) 0 (ht _ (by omega) (by omega))
        rw [show d.fr * 64 + (j - d.fr * 64) = j by omega] at this
        rw [this]; rfl
    · rw [if_neg h1]
      by_cases h2 : d.fr * 64 ≤ j ∧ j < d.fr * 64 + i * 64
      · omega
      · rw [if_neg h2]
  · rw [h.d1]
    congr 1
    apply List.ext_getElem?
    intro j
    by_cases h1 : j < i * 64
    · by_cases h3 : j < d.n * 64
      · rw [List.getElem?_append_left (by simp [lapp_len hb hf]; omega), List.getElem?_take, if_pos h1]
      · rw [List.getElem?_eq_none (by simp [lapp_len hb hf, hb]; omega), List.getElem?_eq_none (by rw [lapp_len hb hf]; omega)]
    · by_cases h3 : j < d.n * 64
      · rw [lapp_hi hb hf (by omega) h3, List.getElem?_append_right (by simp [lapp_len hb hf]; omega), List.getElem?_drop]
        have : i * 64 + (j - ((lapp d r).take (i * 64)).length) = j := by simp [lapp_len hb hf]; omega
        rw [this]
        exact ht j (by omega) h3
      · rw [List.getElem?_eq_none (by simp [lapp_len hb hf, hb]; omega), List.getElem?_eq_none (by rw [lapp_len hb hf]; omega)]
end

end Go.Proofs.Ytbonapdainlpjaa
