/- Layer 12 (revoke): the plain laws of RevokeFits. -/
import Derived.Test.YtjnbdeopoohnmaaRv10
set_option linter.unusedSimpArgs false
namespace Go.Proofs.Ytjnbdeopoohnmaa
open Go.RowKit Go.Sort

theorem rinc_mono {a b : Int} (h : a ≤ b) : ∀ {l : List RT}, rinc b l = true → rinc a l = true
  | [], _ => rfl
  | x :: r, hr => by
    simp only [rinc, Bool.and_eq_true, decide_eq_true_eq] at hr ⊢
    exact ⟨hr.1, by omega, hr.2.2⟩
theorem rinc_all {k : Int} : ∀ {l : List RT}, rinc k l = true → ∀ x ∈ l, rone x = true
  | [], _, _, h => by simp at h
  | y :: r, h, x, hx => by
    simp only [rinc, Bool.and_eq_true, decide_eq_true_eq] at h
    rcases List.mem_cons.1 hx with rfl | hx
    · exact h.1
    · exact rinc_all h.2.2 x hx
theorem rone_max {x y : RT} (hx : rone x = true) (hy : rone y = true) : rone (y.1, max y.2 x.2) = true := by
  unfold rone at hx hy ⊢
  simp only [Bool.and_eq_true, decide_eq_true_eq] at hx hy ⊢
  omega
theorem rinc_ins {k : Int} : ∀ {l : List RT} {x : RT}, rinc k l = true → rone x = true → k < x.1 → rinc k (rins l x) = true
  | [], x, _, hx, hk => by simp [rins, rinc, hx, hk]
  | y :: r, x, h, hx, hk => by
    simp only [rinc, Bool.and_eq_true, decide_eq_true_eq] at h
    unfold rins
    by_cases h1 : y.1 = x.1
    · rw [if_pos h1]
      simp only [rinc, Bool.and_eq_true, decide_eq_true_eq]
      exact ⟨rone_max hx h.1, h.2.1, h.2.2⟩
    · rw [if_neg h1]
      by_cases h2 : x.1 < y.1
      · rw [if_pos h2]
        simp only [rinc, Bool.and_eq_true, decide_eq_true_eq]
        exact ⟨hx, hk, h.1, h2, h.2.2⟩
      · rw [if_neg h2]
        simp only [rinc, Bool.and_eq_true, decide_eq_true_eq]
        exact ⟨h.1, h.2.1, rinc_ins h.2.2 hx (by omega)⟩
theorem rinc_fold : ∀ {b a : List RT}, rinc 0 a = true → (∀ x ∈ b, rone x = true) → rinc 0 (b.foldl rins a) = true
  | [], _, h, _ => h
  | x :: b, a, h, hb => rinc_fold (b := b) (rinc_ins h (hb x (by simp)) (by have := rone_pos (hb x (by simp)); omega)) (fun y hy => hb y (by simp [hy]))
theorem rinc_since {k z : Int} : ∀ {l : List RT}, rinc k l = true → rinc k (vsince l z) = true
  | [], _ => rfl
  | x :: r, h => by
    simp only [rinc, Bool.and_eq_true, decide_eq_true_eq] at h
    have ih := rinc_since (z := z) h.2.2
    unfold vsince at ih ⊢
    rw [List.filter_cons]
    split
    · simp only [rinc, Bool.and_eq_true, decide_eq_true_eq]
      exact ⟨h.1, h.2.1, ih⟩
    · exact rinc_mono (by omega) ih
theorem rhas_ins (z t : Int) : ∀ (l : List RT) (x : RT), rhas (rins l x) z t = (rhas l z t || (decide (x.1 = z) && decide (t ≤ x.2)))
  | [], x => by simp [rins, rhas]
  | y :: r, x => by
    unfold rins
    by_cases h1 : y.1 = x.1
    · rw [if_pos h1]
      unfold rhas
      rw [Bool.eq_iff_iff]
      simp only [List.any_cons, Bool.or_eq_true, Bool.and_eq_true, decide_eq_true_eq]
      constructor
      · rintro (⟨a, b⟩ | h)
        · by_cases hy : t ≤ y.2
          · exact .inl (.inl ⟨a, hy⟩)
          · exact .inr ⟨by omega, by omega⟩
        · exact .inl (.inr h)
      · rintro ((⟨a, b⟩ | h) | ⟨a, b⟩)
        · exact .inl ⟨a, by omega⟩
        · exact .inr h
        · exact .inl ⟨by omega, by omega⟩
    · rw [if_neg h1]
      by_cases h2 : x.1 < y.1
      · rw [if_pos h2]
        unfold rhas
        simp only [List.any_cons]
        cases (decide (x.1 = z) && decide (t ≤ x.2)) <;> simp
      · rw [if_neg h2]
        have ih := rhas_ins z t r x
        unfold rhas at ih ⊢
        simp only [List.any_cons, ih, Bool.or_assoc]
theorem rhas_fold (z t : Int) : ∀ (b a : List RT), rhas (b.foldl rins a) z t = (rhas a z t || rhas b z t)
  | [], a => by simp [rhas]
  | x :: b, a => by
    rw [List.foldl_cons, rhas_fold z t b, rhas_ins]
    unfold rhas
    simp only [List.any_cons, Bool.or_assoc]
theorem rhas_since (l : List RT) (z t : Int) : rhas (vsince l t) z t = rhas l z t := by
  unfold rhas vsince
  rw [Bool.eq_iff_iff, List.any_eq_true, List.any_eq_true]
  constructor
  · rintro ⟨x, hx, h⟩
    exact ⟨x, (List.mem_filter.1 hx).1, h⟩
  · rintro ⟨x, hx, h⟩
    refine ⟨x, List.mem_filter.2 ⟨hx, ?_⟩, h⟩
    simp only [Bool.and_eq_true, decide_eq_true_eq] at h
    exact decide_eq_true (by omega)
theorem rhas_self (l : List RT) (x : RT) : rhas (rins l x) x.1 x.2 = true := by
  rw [rhas_ins]; simp

end Go.Proofs.Ytjnbdeopoohnmaa
