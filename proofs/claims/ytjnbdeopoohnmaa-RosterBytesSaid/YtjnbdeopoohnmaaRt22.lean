/- Layer 56 (roster): the document's Set, plainly: the spells, time by time. -/
import Derived.Test.YtjnbdeopoohnmaaRt19
set_option linter.unusedSimpArgs false
namespace Go.Proofs.Ytjnbdeopoohnmaa
open Go.RowKit Go.Sort

/-- what has been pushed when the first k are done -/
def rQ (sp : List SpT) (f c : Int) (i0 : Nat) : Nat → List SpT
  | 0 => []
  | k + 1 => (rQ sp f c i0 k ++ (if k = i0 then [(f, c)] else [])) ++ (match sp[k]? with
    | none => []
    | some s => if s.1 = f then [] else [s])
def rQ1 (sp : List SpT) (f c : Int) (i0 k : Nat) : List SpT := rQ sp f c i0 k ++ (if k = i0 then [(f, c)] else [])

/-- where something begins at f or later -/
structure SPl (sp : List SpT) (f : Int) (i : Nat) : Prop where
  le : i ≤ sp.length
  lo : ∀ (j : Nat) (y : SpT), j < i → sp[j]? = some y → y.1 < f
  hi : ∀ (j : Nat) (y : SpT), i ≤ j → sp[j]? = some y → ¬ y.1 < f
theorem spl_ex : ∀ (sp : List SpT) (f : Int), (sp.Pairwise fun x y => x.1 < y.1) → ∃ i, SPl sp f i
  | [], f, _ => ⟨0, Nat.le_refl _, fun _ _ h _ => by omega, fun _ _ _ h => by simp at h⟩
  | y :: r, f, hu => by
    by_cases h : y.1 < f
    · obtain ⟨i, hi⟩ := spl_ex r f (List.pairwise_cons.1 hu).2
      refine ⟨i + 1, by have := hi.le; simpa using this, fun j z hj hz => ?_, fun j z hj hz => ?_⟩
      · cases j with
        | zero => obtain rfl : y = z := by simpa using hz
                  exact h
        | succ j => exact hi.lo j z (by omega) (by simpa using hz)
      · cases j with
        | zero => omega
        | succ j => exact hi.hi j z (by omega) (by simpa using hz)
    · refine ⟨0, Nat.zero_le _, fun _ _ h _ => by omega, fun j z _ hz => ?_⟩
      cases j with
      | zero => obtain rfl : y = z := by simpa using hz
                exact h
      | succ j =>
        have := (List.pairwise_cons.1 hu).1 z (List.mem_of_getElem? (by simpa using hz))
        omega

theorem rQ_lo {sp : List SpT} {f c : Int} {i0 : Nat} (h : SPl sp f i0) : ∀ k, k ≤ i0 → rQ sp f c i0 k = sp.take k
  | 0, _ => by simp [rQ]
  | k + 1, hk => by
    show (rQ sp f c i0 k ++ _) ++ _ = _
    have hl := h.le
    obtain ⟨s, hs⟩ : ∃ s, sp[k]? = some s := ⟨_, List.getElem?_eq_getElem (by omega)⟩
    have h1 := h.lo k s (by omega) hs
    rw [rQ_lo h k (by omega), if_neg (by omega), hs, List.append_nil]
    show _ ++ (if s.1 = f then [] else [s]) = _
    rw [if_neg (by omega), take_next hs]
theorem rQ_hi {sp : List SpT} {f c : Int} {i0 : Nat} (h : SPl sp f i0) : ∀ k, i0 < k → k ≤ sp.length + 1 → rQ sp f c i0 k = sp.take i0 ++ (f, c) :: snot ((sp.take k).drop i0) f
  | 0, h0, _ => by omega
  | k + 1, hk, hk2 => by
    show (rQ sp f c i0 k ++ _) ++ _ = _
    have hadd : snot ((sp.take (k + 1)).drop i0) f = snot ((sp.take k).drop i0) f ++ (match sp[k]? with
      | none => []
      | some s => if s.1 = f then [] else [s]) := by
      rw [List.take_add_one, List.drop_append_of_le_length (by rw [List.length_take]; have := h.le; omega)]
      unfold snot
      rw [List.filter_append]
      congr 1
      cases sp[k]? with
      | none => rfl
      | some s =>
        by_cases e : s.1 = f
        · simp [e]
        · simp [e]
    rw [hadd]
    by_cases e : k = i0
    · subst e
      rw [rQ_lo h k (Nat.le_refl _), if_pos rfl]
      have : (sp.take k).drop k = [] := List.drop_eq_nil_of_le (by rw [List.length_take]; omega)
      rw [this]
      simp [snot]
    · rw [rQ_hi h k (by omega) (by omega), if_neg e]
      simp
theorem rQ_all {sp : List SpT} {f c : Int} {i0 : Nat} (h : SPl sp f i0) : rQ sp f c i0 (sp.length + 1) = sput sp f c := by
  rw [rQ_hi h _ (by have := h.le; omega) (Nat.le_refl _), List.take_of_length_le (Nat.le_succ _)]
  unfold sput
  have hT : ∀ y ∈ sp.take i0, y.1 < f := fun y hy => by
    obtain ⟨j, hj⟩ := List.getElem?_of_mem hy
    rw [List.getElem?_take] at hj
    by_cases hji : j < i0
    · rw [if_pos hji] at hj; exact h.lo j y hji hj
    · rw [if_neg hji] at hj; cases hj
  have hR : ∀ y ∈ sp.drop i0, ¬ y.1 < f := fun y hy => by
    obtain ⟨j, hj⟩ := List.getElem?_of_mem hy
    rw [List.getElem?_drop] at hj
    exact h.hi (i0 + j) y (by omega) hj
  have f1 : sp.filter (fun s => decide (s.1 < f)) = sp.take i0 := by
    conv => lhs; rw [← List.take_append_drop i0 sp]
    rw [List.filter_append, List.filter_eq_self.2 (fun x hx => decide_eq_true (hT x hx)), List.filter_eq_nil_iff.2 (fun x hx => by have := hR x hx; simp; omega), List.append_nil]
  have f2 : sp.filter (fun s => decide (f < s.1)) = snot (sp.drop i0) f := by
    conv => lhs; rw [← List.take_append_drop i0 sp]
    rw [List.filter_append, List.filter_eq_nil_iff.2 (fun x hx => by have := hT x hx; simp; omega), List.nil_append]
    unfold snot
    refine List.filter_congr fun x hx => ?_
    have := hR x hx
    by_cases e : f < x.1
    · have : ¬ x.1 = f := by omega
      simp [e, this]
    · have : x.1 = f := by omega
      simp [e, this]
  rw [f1, f2]
theorem spush_len (acc : List SpT) (x : SpT) : (spush acc x).length ≤ acc.length + 1 := by
  unfold spush
  split
  · simp
  · split
    · omega
    · simp
theorem rQ_len {sp : List SpT} {f c : Int} {i0 : Nat} : ∀ k, (rQ sp f c i0 k).length ≤ 2 * k
  | 0 => Nat.le_refl _
  | k + 1 => by
    show ((rQ sp f c i0 k ++ _) ++ _).length ≤ _
    have h0 : (rQ sp f c i0 k).length ≤ 2 * k := rQ_len k
    have h1 : (if k = i0 then [(f, c)] else ([] : List SpT)).length ≤ 1 := by split <;> simp
    have h2 : (match sp[k]? with
      | none => ([] : List SpT)
      | some s => if s.1 = f then [] else [s]).length ≤ 1 := by
      split
      · simp
      · split <;> simp
    rw [List.length_append, List.length_append]
    omega
theorem scomp_len (l : List SpT) : (scomp l).length ≤ l.length := by
  have key : ∀ (l acc : List SpT), (l.foldl spush acc).length ≤ acc.length + l.length := by
    intro l
    induction l with
    | nil => intro acc; exact Nat.le_refl _
    | cons x r ih =>
      intro acc
      have h1 := ih (spush acc x)
      have h2 := spush_len acc x
      simp only [List.foldl_cons, List.length_cons]
      omega
  simpa [scomp] using key l []
/-- a push: what stands last tells -/
theorem spush_nil {acc : List SpT} (h : acc.length = 0) (x : SpT) : spush acc x = acc ++ [x] := by
  obtain rfl := List.length_eq_zero_iff.1 h
  rfl
theorem spush_some {acc : List SpT} {n : Nat} {y : SpT} (hn : acc.length = n + 1) (hy : acc[n]? = some y) (x : SpT) : spush acc x = if y.2 = x.2 then acc else acc ++ [x] := by
  have : acc.getLast? = some y := by rw [List.getLast?_eq_getElem?, hn]; exact hy
  unfold spush
  rw [this]
theorem rQ1_no {sp : List SpT} {f c : Int} {i0 k : Nat} (h : k ≠ i0) : scomp (rQ1 sp f c i0 k) = scomp (rQ sp f c i0 k) := by unfold rQ1; rw [if_neg h, List.append_nil]
theorem rQ1_at {sp : List SpT} {f c : Int} {i0 : Nat} : scomp (rQ1 sp f c i0 i0) = spush (scomp (rQ sp f c i0 i0)) (f, c) := by unfold rQ1; rw [if_pos rfl, scomp_app]
theorem rQ_no {sp : List SpT} {f c : Int} {i0 k : Nat} {s : SpT} (hs : sp[k]? = some s) (h : s.1 = f) : scomp (rQ sp f c i0 (k + 1)) = scomp (rQ1 sp f c i0 k) := by
  show scomp (rQ1 sp f c i0 k ++ _) = _
  rw [hs]
  show scomp (rQ1 sp f c i0 k ++ (if s.1 = f then [] else [s])) = _
  rw [if_pos h, List.append_nil]
theorem rQ_put {sp : List SpT} {f c : Int} {i0 k : Nat} {s : SpT} (hs : sp[k]? = some s) (h : s.1 ≠ f) : scomp (rQ sp f c i0 (k + 1)) = spush (scomp (rQ1 sp f c i0 k)) s := by
  show scomp (rQ1 sp f c i0 k ++ _) = _
  rw [hs]
  show scomp (rQ1 sp f c i0 k ++ (if s.1 = f then [] else [s])) = _
  rw [if_neg h, scomp_app]
theorem rQ_end {sp : List SpT} {f c : Int} {i0 : Nat} : scomp (rQ sp f c i0 (sp.length + 1)) = scomp (rQ1 sp f c i0 sp.length) := by
  show scomp (rQ1 sp f c i0 sp.length ++ _) = _
  rw [List.getElem?_eq_none (Nat.le_refl _), List.append_nil]
end Go.Proofs.Ytjnbdeopoohnmaa
