/- Layer 12 (revoke): the plain laws. No function of the program stands here. -/
import Derived.Test.YtjnbdeopoohnmaaBase
set_option linter.unusedSimpArgs false
namespace Go.Proofs.Ytjnbdeopoohnmaa

/-- something revoked: its trip, until when -/
abbrev RT := Int × Int
def rone (x : RT) : Bool := decide (1 ≤ x.1) && (decide (x.1 ≤ 2147483648) && (decide (0 ≤ x.2) && decide (x.2 ≤ 1099511627776)))
def rinc (last : Int) : List RT → Bool
  | [] => true
  | x :: r => rone x && (decide (last < x.1) && rinc x.1 r)
def rright (l : List RT) : Bool := decide (l.length ≤ 4096) && rinc 0 l

/-- the trips go up -/
def rlt (last : Int) : List RT → Prop
  | [] => True
  | x :: r => last < x.1 ∧ rlt x.1 r
theorem rinc_lt {last : Int} : ∀ {l : List RT}, rinc last l = true → rlt last l
  | [], _ => trivial
  | x :: r, h => by
    simp only [rinc, Bool.and_eq_true, decide_eq_true_eq] at h
    exact ⟨h.2.1, rinc_lt h.2.2⟩
theorem rlt_mono {a b : Int} (h : a ≤ b) : ∀ {l : List RT}, rlt b l → rlt a l
  | [], _ => trivial
  | _ :: _, h' => ⟨by have := h'.1; omega, h'.2⟩
theorem rlt_all {a : Int} : ∀ {l : List RT}, rlt a l → ∀ x ∈ l, a < x.1
  | [], _, _, h => by simp at h
  | y :: r, h, x, hx => by
    rcases List.mem_cons.1 hx with rfl | hx
    · exact h.1
    · have := rlt_all h.2 x hx
      have := h.1
      omega

/-- one more -/
def rins : List RT → RT → List RT
  | [], x => [x]
  | y :: r, x => if y.1 = x.1 then (y.1, max y.2 x.2) :: r else if x.1 < y.1 then x :: y :: r else y :: rins r x
theorem rins_lt {k : Int} : ∀ {l : List RT} {x : RT}, rlt k l → k < x.1 → rlt k (rins l x)
  | [], _, _, h => ⟨h, trivial⟩
  | y :: r, x, h, hk => by
    unfold rins
    by_cases h1 : y.1 = x.1
    · rw [if_pos h1]
      exact ⟨h.1, h.2⟩
    · rw [if_neg h1]
      by_cases h2 : x.1 < y.1
      · rw [if_pos h2]
        exact ⟨hk, h2, h.2⟩
      · rw [if_neg h2]
        exact ⟨h.1, rins_lt h.2 (by omega)⟩
theorem rins_len : ∀ (l : List RT) (x : RT), (rins l x).length ≤ l.length + 1
  | [], _ => by simp [rins]
  | y :: r, x => by
    unfold rins
    by_cases h1 : y.1 = x.1
    · rw [if_pos h1]; simp
    · rw [if_neg h1]
      by_cases h2 : x.1 < y.1
      · rw [if_pos h2]; simp
      · rw [if_neg h2]
        have := rins_len r x
        simp; omega

/-- two lists as one -/
def rmerge : List RT → List RT → List RT
  | [], b => b
  | x :: a, [] => x :: a
  | x :: a, y :: b => if x.1 < y.1 then x :: rmerge a (y :: b) else if y.1 < x.1 then y :: rmerge (x :: a) b else (x.1, max x.2 y.2) :: rmerge a b
termination_by a b => a.length + b.length
theorem rmerge_nil (a : List RT) : rmerge a [] = a := by cases a <;> simp [rmerge]
theorem rmerge_lt {x y : RT} {a b : List RT} (h : x.1 < y.1) : rmerge (x :: a) (y :: b) = x :: rmerge a (y :: b) := by rw [rmerge, if_pos h]
theorem rmerge_gt {x y : RT} {a b : List RT} (h : y.1 < x.1) : rmerge (x :: a) (y :: b) = y :: rmerge (x :: a) b := by rw [rmerge, if_neg (by omega), if_pos h]
theorem rmerge_eq {x y : RT} {a b : List RT} (h : x.1 = y.1) : rmerge (x :: a) (y :: b) = (x.1, max x.2 y.2) :: rmerge a b := by rw [rmerge, if_neg (by omega), if_neg (by omega)]
theorem rmerge_low {x : RT} {a b : List RT} (h : rlt x.1 b) : rmerge (x :: a) b = x :: rmerge a b := by
  cases b with
  | nil => rw [rmerge_nil, rmerge_nil]
  | cons y b => exact rmerge_lt h.1
theorem rmerge_len : ∀ (n : Nat) (a b : List RT), a.length + b.length ≤ n → (rmerge a b).length ≤ a.length + b.length
  | _, [], b, _ => by simp [rmerge]
  | _, x :: a, [], _ => by simp [rmerge]
  | 0, x :: a, y :: b, h => by simp at h
  | n + 1, x :: a, y :: b, h => by
    simp only [List.length_cons] at h
    rw [rmerge]
    split
    · have := rmerge_len n a (y :: b) (by simp; omega)
      simp at this ⊢; omega
    · split
      · have := rmerge_len n (x :: a) b (by simp; omega)
        simp at this ⊢; omega
      · have := rmerge_len n a b (by omega)
        simp at this ⊢; omega
theorem rmerge_ins : ∀ {a b : List RT} {y : RT}, rlt y.1 b → rmerge (rins a y) b = rmerge a (y :: b)
  | [], b, y, h => by
    rw [rins, rmerge_low h]
    simp [rmerge]
  | z :: a, b, y, h => by
    unfold rins
    by_cases h1 : z.1 = y.1
    · rw [if_pos h1, rmerge_eq h1]
      exact rmerge_low (by show rlt z.1 b; rw [h1]; exact h)
    · rw [if_neg h1]
      by_cases h2 : y.1 < z.1
      · rw [if_pos h2, rmerge_gt h2, rmerge_low h]
      · rw [if_neg h2, rmerge_lt (by omega), ← rmerge_ins h]
        exact rmerge_low (rlt_mono (by omega) h)
theorem rmerge_fold : ∀ {b a : List RT} {k : Int}, rlt k b → rmerge a b = b.foldl rins a
  | [], a, _, _ => by rw [rmerge_nil]; rfl
  | y :: b, a, _, h => by
    rw [← rmerge_ins h.2, rmerge_fold h.2]
    rfl

/-- one more, as the document goes through it -/
def radd (done : Bool) : List RT → RT → List RT
  | [], x => if done = true then [] else [x]
  | y :: r, x => (if x.1 < y.1 ∧ done = false then [x] else []) ++ (if y.1 = x.1 then (y.1, max y.2 x.2) else y) :: radd (done || decide (y.1 = x.1) || decide (x.1 < y.1)) r x
theorem radd_done {k : Int} : ∀ {l : List RT} {x : RT}, rlt k l → x.1 ≤ k → radd true l x = l
  | [], _, _, _ => by simp [radd]
  | y :: r, x, h, hk => by
    have h1 := h.1
    have ih := radd_done (x := x) h.2 (by omega)
    simp only [radd, Bool.true_or, ih]
    rw [if_neg (by simp), if_neg (by omega)]
    rfl
theorem radd_ins {k : Int} : ∀ {l : List RT} {x : RT}, rlt k l → radd false l x = rins l x
  | [], _, _ => by simp [radd, rins]
  | y :: r, x, h => by
    unfold rins
    by_cases h1 : y.1 = x.1
    · rw [if_pos h1]
      simp only [radd, h1, decide_true, Bool.or_true, Bool.true_or]
      rw [if_neg (by omega), radd_done h.2 (by omega)]
      simp
    · rw [if_neg h1]
      by_cases h2 : x.1 < y.1
      · rw [if_pos h2]
        simp only [radd, h2, decide_true, Bool.or_true]
        rw [if_pos (by simp), if_neg h1, radd_done h.2 (by omega)]
        rfl
      · rw [if_neg h2]
        simp only [radd, decide_eq_false h1, decide_eq_false h2, Bool.or_false]
        rw [if_neg (by omega), if_neg h1, radd_ins h.2]
        rfl

end Go.Proofs.Ytjnbdeopoohnmaa
