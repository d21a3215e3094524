/- Layer 56 (roster): a spell put among others, plainly. -/
import Derived.Test.YtjnbdeopoohnmaaRt12
set_option linter.unusedSimpArgs false
namespace Go.Proofs.Ytjnbdeopoohnmaa
open Go.RowKit Go.Sort

theorem aone_up {a : AcD} (h : aone a = true) : a.sp.Pairwise fun x y => x.1 < y.1 := by
  obtain ⟨-, -, -, -, -, -, -, h8⟩ := aone_wf h
  refine up_of_steps (fun s : SpT => s.1) a.sp fun k x y hx hy => ?_
  have hk := (List.getElem?_eq_some_iff.1 hy).1
  have h9 := spTo_at h8 hk
  rw [spAtS (by omega) hy (by rw [Nat.add_sub_cancel]; exact hx)] at h9
  simp only [Bool.and_eq_true, decide_eq_true_eq] at h9
  exact h9.2.1

def snot (l : List SpT) (f : Int) : List SpT := l.filter fun x => decide (¬ x.1 = f)
theorem sput_at {sp : List SpT} {f c : Int} {i : Nat} (hup : sp.Pairwise fun x y => x.1 < y.1) (hlo : ∀ (j : Nat) (y : SpT), j < i → (snot sp f)[j]? = some y → y.1 < f) (hhi : ∀ y, (snot sp f)[i]? = some y → ¬ y.1 < f) : (snot sp f).take i ++ (f, c) :: (snot sp f).drop i = sput sp f c := by
  obtain ⟨D, hD⟩ : ∃ D, snot sp f = D := ⟨_, rfl⟩
  have hDu : D.Pairwise fun x y => x.1 < y.1 := by rw [← hD]; exact hup.filter _
  have hDn : ∀ y ∈ D, ¬ y.1 = f := fun y hy => by
    rw [← hD] at hy
    exact of_decide_eq_true (List.mem_filter.1 hy).2
  have e1 : (sp.filter fun s => decide (s.1 < f)) = D.filter fun s => decide (s.1 < f) := by
    rw [← hD]
    unfold snot
    rw [List.filter_filter]
    refine List.filter_congr fun x _ => ?_
    by_cases h : x.1 < f
    · have : ¬ x.1 = f := by omega
      simp [h, this]
    · simp [h]
  have e2 : (sp.filter fun s => decide (f < s.1)) = D.filter fun s => decide (f < s.1) := by
    rw [← hD]
    unfold snot
    rw [List.filter_filter]
    refine List.filter_congr fun x _ => ?_
    by_cases h : f < x.1
    · have : ¬ x.1 = f := by omega
      simp [h, this]
    · simp [h]
  rw [hD] at hlo hhi ⊢
  unfold sput
  rw [e1, e2]
  have hT : ∀ y ∈ D.take i, y.1 < f := fun y hy => by
    obtain ⟨j, hj⟩ := List.getElem?_of_mem hy
    rw [List.getElem?_take] at hj
    by_cases hji : j < i
    · rw [if_pos hji] at hj; exact hlo j y hji hj
    · rw [if_neg hji] at hj; cases hj
  have hR : ∀ y ∈ D.drop i, f < y.1 := fun y hy => by
    obtain ⟨j, hj⟩ := List.getElem?_of_mem hy
    rw [List.getElem?_drop] at hj
    have hjl := (List.getElem?_eq_some_iff.1 hj).1
    obtain ⟨z, hz⟩ : ∃ z, D[i]? = some z := ⟨_, List.getElem?_eq_getElem (by omega)⟩
    have h1 := hhi z hz
    have h2 := hDn z (List.mem_of_getElem? hz)
    by_cases h0 : j = 0
    · subst h0
      rw [Nat.add_zero, hz] at hj
      cases hj
      omega
    · have h3 := List.pairwise_iff_getElem.1 hDu i (i + j) (by omega) hjl (by omega)
      rw [List.getElem?_eq_getElem (by omega)] at hz
      rw [List.getElem?_eq_getElem hjl] at hj
      rw [Option.some.inj hz, Option.some.inj hj] at h3
      omega
  have f1 : D.filter (fun s => decide (s.1 < f)) = D.take i := by
    conv => lhs; rw [← List.take_append_drop i D]
    rw [List.filter_append, List.filter_eq_self.2 (fun x hx => decide_eq_true (hT x hx)), List.filter_eq_nil_iff.2 (fun x hx => by have := hR x hx; simp; omega), List.append_nil]
  have f2 : D.filter (fun s => decide (f < s.1)) = D.drop i := by
    conv => lhs; rw [← List.take_append_drop i D]
    rw [List.filter_append, List.filter_eq_nil_iff.2 (fun x hx => by have := hT x hx; simp; omega), List.filter_eq_self.2 (fun x hx => decide_eq_true (hR x hx)), List.nil_append]
  rw [f1, f2]

theorem spush_sub {acc : List SpT} {x s : SpT} (h : s ∈ spush acc x) : s ∈ acc ∨ s = x := by
  unfold spush at h
  split at h
  · simpa using h
  · split at h
    · exact .inl h
    · simpa using h
theorem scomp_sub : ∀ {l : List SpT} {s : SpT}, s ∈ scomp l → s ∈ l := by
  intro l
  have key : ∀ (l acc : List SpT) (s : SpT), s ∈ l.foldl spush acc → s ∈ acc ∨ s ∈ l := by
    intro l
    induction l with
    | nil => intro acc s h; exact .inl h
    | cons x r ih =>
      intro acc s h
      rcases ih _ s h with h | h
      · rcases spush_sub h with h | h
        · exact .inl h
        · exact .inr (by simp [h])
      · exact .inr (by simp [h])
  intro s h
  rcases key l [] s h with h | h
  · cases h
  · exact h
theorem sset_sub {sp : List SpT} {f c : Int} {s : SpT} (h : s ∈ sset sp f c) : s ∈ sp ∨ s = (f, c) := by
  have h := scomp_sub h
  unfold sput at h
  rw [List.mem_append, List.mem_cons] at h
  rcases h with h | h | h
  · exact .inl (List.mem_filter.1 h).1
  · exact .inr h
  · exact .inl (List.mem_filter.1 h).1
end Go.Proofs.Ytjnbdeopoohnmaa
