/- Layer 36 (snap), plain: what stays of a store; a fuse that is long enough; which bank is used. -/
import Derived.Test.YtbonapdainlpjaaSp6
set_option linter.unusedSimpArgs false
namespace Go.Proofs.Ytbonapdainlpjaa
open Go.RowKit Go.Sort

/-- a store, and what becomes of it with at most m writes -/
structure Kp (s s' : BSt) (m : Nat) : Prop where
  n : s'.n = s.n
  on : s'.off = false
  fu : s.fu = none → s'.fu = none
  lo : s.cnt ≤ s'.cnt
  hi : s'.cnt ≤ s.cnt + m
  fz : ∀ a b, s.fu = some (a, b) → ∃ a', s'.fu = some (a', b) ∧ a ≤ a' + m
/-- the fuse is long enough -/
def Safe (s : BSt) (k : Nat) : Prop := ∀ a b, s.fu = some (a, b) → (k : Int) ≤ a

section
variable {s s1 s2 s' : BSt} {d d' d1 : Lg} {m k : Nat}
theorem Kp.refl (h : s.off = false) (m : Nat) : Kp s s m := ⟨rfl, h, fun h => h, Int.le_refl _, by omega, fun a b h => ⟨a, h, by omega⟩⟩
theorem Kp.trans {m1 m2 m : Nat} (h1 : Kp s s1 m1) (h2 : Kp s1 s2 m2) (hm : m1 + m2 ≤ m) : Kp s s2 m := by
  refine ⟨h2.n.trans h1.n, h2.on, fun h => h2.fu (h1.fu h), Int.le_trans h1.lo h2.lo, ?_, ?_⟩
  · have := h1.hi; have := h2.hi; omega
  · intro a b h
    obtain ⟨a1, q1, q2⟩ := h1.fz a b h
    obtain ⟨a2, q3, q4⟩ := h2.fz a1 b q1
    exact ⟨a2, q3, by omega⟩
theorem Safe.kp {j : Nat} (hs : Safe s k) (h : Kp s s' m) (hj : m + j ≤ k) : Safe s' j := by
  intro a b hf
  cases hn : s.fu with
  | none => rw [h.fu hn] at hf; cases hf
  | some x =>
    obtain ⟨a0, b0⟩ := x
    obtain ⟨a', q1, q2⟩ := h.fz a0 b0 hn
    rw [q1] at hf
    obtain ⟨rfl, rfl⟩ := Prod.mk.inj (Option.some.inj hf)
    have := hs a0 b0 hn
    omega
theorem Safe.less {j : Nat} (hs : Safe s k) (hj : j ≤ k) : Safe s j := fun a b h => by have := hs a b h; omega
theorem Safe.none (h : s.fu = Option.none) (k : Nat) : Safe s k := fun a b hf => by rw [h] at hf; cases hf
theorem WipeR.kp {c : Nat} (h : WipeR s d c k s1 d1) : Kp s s1 k := ⟨h.n, h.on, h.fu, h.lo, h.hi, h.fz⟩
theorem AppOk.kp {r : List UInt8} (h : AppOk s d r k s' d') : Kp s s' k := ⟨h.n, h.on, h.fu, h.lo, h.hi, h.fz⟩
theorem TornR.not {p : Nat} (h : TornR s d p k s1 d1) (hs : Safe s k) : False := by
  cases hn : s.fu with
  | none => exact h.fu0 hn
  | some x =>
    have h1 := h.fz x.1 x.2 hn
    have h2 := hs x.1 x.2 hn
    omega
theorem TornA.not {al : List UInt8} (h : TornA s d al k s1 d1) (hs : Safe s k) : False := by
  cases hn : s.fu with
  | none => exact h.fu0 hn
  | some x =>
    have h1 := h.fz x.1 x.2 hn
    have h2 := hs x.1 x.2 hn
    omega
/-- a renewal, where the fuse is long enough -/
theorem RenR.safe {r : List UInt8} {E : Int} (h : RenR s d r s' d' E) (hs : Safe s (2 * d.n)) : E = 0 ∧ ∃ s1 d1, WipeR s d 0 d.n s1 d1 ∧ AppOk s1 { d1 with fin := 0, recs := [] } r d.n s' d' := by
  cases h with
  | ok s1 d1 h1 h2 => exact ⟨rfl, s1, d1, h1, h2⟩
  | wipe h => exact (h.not (hs.less (by omega))).elim
  | app s1 d1 h1 h2 => exact (h2.not (hs.kp h1.kp (by omega))).elim
end

/-- which bank is used; whether the first is made new; the banks' records -/
def snew (R0 R1 : List (List UInt8)) : Bool := decide (¬ sok R0 ∧ ¬ sok R1)
def spick (R0 R1 : List (List UInt8)) : Bool := decide (sok R1 ∧ (¬ sok R0 ∨ sgen R0 < sgen R1))
def sbank (R0 R1 : List (List UInt8)) (i : Bool) : List (List UInt8) := if i then R1 else if snew R0 R1 then [srec 1 []] else R0
theorem sbank_true (R0 R1 : List (List UInt8)) : sbank R0 R1 true = R1 := rfl
theorem sbank_false (R0 R1 : List (List UInt8)) : sbank R0 R1 false = if snew R0 R1 then [srec 1 []] else R0 := rfl

/-- a renewed log -/
theorem ren_ok {s s1 s' : BSt} {d d1 d' : Lg} {r : List UInt8} (hok : LOk s d) (hr : lgood r) (hf : (lstands r).length ≤ d.n * 64) (h1 : WipeR s d 0 d.n s1 d1) (h2 : AppOk s1 { d1 with fin := 0, recs := [] } r d.n s' d') :
    LOk s' d' ∧ d'.recs = [r] ∧ d'.fr = d.fr ∧ d'.n = d.n ∧ d'.fin = (lstands r).length ∧ (∀ j, ¬ (d.fr * 64 ≤ j ∧ j < (d.fr + d.n) * 64) → s'.f j = s.f j) := by
  have hd1 := h1.d1
  have hn1 : d1.n = d.n := by rw [hd1]
  have hfr1 : d1.fr = d.fr := by rw [hd1]
  have hok1 := clear_ok hok h1
  have hok2 := app_ok hok1 hr (by show 0 + (lstands r).length ≤ d1.n * 64; rw [hn1]; omega) h2
  have hd2 := h2.d1
  refine ⟨hok2, by rw [hd2]; rfl, by rw [hd2]; exact hfr1, by rw [hd2]; exact hn1, by rw [hd2]; show 0 + _ = _; omega, fun j hj => ?_⟩
  have hm : (d.fr + d.n) * 64 = d.fr * 64 + d.n * 64 := Nat.add_mul _ _ _
  have e2 := h2.f j
  have e1 := h1.f j
  have hx : ¬ (d1.fr * 64 ≤ j ∧ j < d1.fr * 64 + d1.n * 64) := by rw [hfr1, hn1]; omega
  have e2 : s'.f j = s1.f j := e2.trans (if_neg hx)
  rw [if_neg (by omega)] at e1
  rw [e2, e1]

theorem lreg_of {s s' : BSt} {fr n : Nat} (h : ∀ j, fr * 64 ≤ j → j < (fr + n) * 64 → s'.f j = s.f j) : lreg s' fr n = lreg s fr n := by
  unfold lreg
  apply List.map_congr_left
  intro j hj
  have := List.mem_range.1 hj
  have hm : (fr + n) * 64 = fr * 64 + n * 64 := Nat.add_mul _ _ _
  exact h _ (by omega) (by omega)

/-- one of two regions lies apart from the other -/
theorem apart_reg (h : Nat) (i : Bool) (j : Nat) (h1 : bi (!i) * h * 64 ≤ j) (h2 : j < (bi (!i) * h + h) * 64) : ¬ (bi i * h * 64 ≤ j ∧ j < (bi i * h + h) * 64) := by
  cases i <;> simp [bi] at * <;> omega

end Go.Proofs.Ytbonapdainlpjaa
