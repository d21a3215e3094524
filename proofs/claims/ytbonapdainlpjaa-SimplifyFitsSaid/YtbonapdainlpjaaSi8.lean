/- Layer 53 (simplify): plain: what stays is right, has its ends, and is left so. -/
import Derived.Test.YtbonapdainlpjaaSi6
set_option linter.unusedSimpArgs false
set_option linter.unusedVariables false
namespace Go.Proofs.Ytbonapdainlpjaa
open Go.RowKit Go.Sort

theorem sdrop_ind {so : Nat → Int → Bool} {P : List Smp → List Smp → Prop} (h0 : ∀ l, (sleast l = none ∨ ∃ j u, sleast l = some (j, u) ∧ so l.length u = false) → P l l)
    (h1 : ∀ l j u r, sleast l = some (j, u) → so l.length u = true → P (l.eraseIdx j) r → P l r) : ∀ (n : Nat) (l : List Smp), l.length = n → P l (sdrop so l) := by
  intro n
  induction n with
  | zero =>
    intro l hl
    have : sleast l = none := by
      rcases hs : sleast l with _ | ⟨j, u⟩
      · rfl
      · have := sleast_in hs; omega
    rw [sdrop_none this]
    exact h0 l (.inl this)
  | succ n ih =>
    intro l hl
    rcases hs : sleast l with _ | ⟨j, u⟩
    · rw [sdrop_none hs]
      exact h0 l (.inl hs)
    · rcases hso : so l.length u with _ | _
      · rw [sdrop_stop hs hso]
        exact h0 l (.inr ⟨j, u, hs, hso⟩)
      · rw [sdrop_go hs hso]
        have := sleast_in hs
        exact h1 l j u _ hs hso (ih _ (by rw [List.length_eraseIdx_of_lt (by omega)]; omega))

theorem lp_min {l : List Smp} : ∀ {k j : Nat} {u : Int}, lp l k = some (j, u) → ∀ i, 1 ≤ i → i ≤ k → u ≤ areaAt l i
  | 0, j, u, h => by simp [lp] at h
  | k + 1, j, u, h => by
    intro i hi hik
    unfold lp at h
    rcases hk : lp l k with _ | ⟨j', u'⟩
    · rw [hk] at h
      unfold lstep at h
      simp only [Option.some.injEq, Prod.mk.injEq] at h
      obtain ⟨rfl, rfl⟩ := h
      rcases k with _ | k
      · obtain rfl : i = 1 := by omega
        exact Int.le_refl _
      · obtain ⟨a, b, hc⟩ := lp_some (l := l) k
        rw [hc] at hk; cases hk
    · rw [hk] at h
      unfold lstep at h
      simp only at h
      have ih := lp_min hk
      split at h
      · rename_i hlt
        simp only [Option.some.injEq, Prod.mk.injEq] at h
        obtain ⟨rfl, rfl⟩ := h
        by_cases he : i = k + 1
        · subst he; exact Int.le_refl _
        · have := ih i hi (by omega); omega
      · rename_i hlt
        simp only [Option.some.injEq, Prod.mk.injEq] at h
        obtain ⟨rfl, rfl⟩ := h
        by_cases he : i = k + 1
        · subst he; omega
        · exact ih i hi (by omega)
theorem sleast_none {l : List Smp} (h : sleast l = none) : l.length ≤ 2 := by
  unfold sleast at h
  rcases hk : l.length - 2 with _ | k
  · omega
  · rw [hk] at h
    obtain ⟨a, b, hc⟩ := lp_some (l := l) k
    rw [hc] at h; cases h

/-- what is left: part of the list, with its ends -/
structure Left (l r : List Smp) : Prop where
  sub : r.Sublist l
  head : r[0]? = l[0]?
  last : r[r.length - 1]? = l[l.length - 1]?
  len : r.length ≤ l.length
  pos : 0 < l.length → 0 < r.length
  right : SRight l → SRight r
theorem Left.refl (l : List Smp) : Left l l := ⟨List.Sublist.refl _, rfl, rfl, Nat.le_refl _, id, id⟩
theorem erase_left {l : List Smp} {j : Nat} (h1 : 1 ≤ j) (h2 : j + 1 < l.length) : Left l (l.eraseIdx j) := by
  have hl : (l.eraseIdx j).length = l.length - 1 := List.length_eraseIdx_of_lt (by omega)
  refine ⟨List.eraseIdx_sublist _ _, ?_, ?_, by omega, by omega, ?_⟩
  · rw [List.getElem?_eraseIdx, if_pos (by omega)]
  · rw [hl, List.getElem?_eraseIdx, if_neg (by omega), show l.length - 1 - 1 + 1 = l.length - 1 by omega]
  · intro hR i s hs
    rw [List.getElem?_eraseIdx] at hs
    by_cases hij : i < j
    · rw [if_pos hij] at hs
      refine ⟨(hR i s hs).1, fun h0 p hp => ?_⟩
      rw [List.getElem?_eraseIdx, if_pos (by omega)] at hp
      exact (hR i s hs).2 h0 p hp
    · rw [if_neg hij] at hs
      refine ⟨(hR _ s hs).1, fun h0 p hp => ?_⟩
      rw [List.getElem?_eraseIdx] at hp
      by_cases hi : i = j
      · subst hi
        rw [if_pos (by omega)] at hp
        obtain ⟨q, hq⟩ : ∃ q, l[i]? = some q := ⟨_, List.getElem?_eq_getElem (by omega)⟩
        have a1 := (hR (i + 1) s hs).2 (by omega) q (by rw [Nat.add_sub_cancel]; exact hq)
        have a2 := (hR i q hq).2 h0 p hp
        omega
      · rw [if_neg (by omega), show i - 1 + 1 = i by omega] at hp
        exact (hR (i + 1) s hs).2 (by omega) p (by rw [Nat.add_sub_cancel]; exact hp)
theorem Left.trans {a b c : List Smp} (h : Left a b) (k : Left b c) : Left a c :=
  ⟨k.sub.trans h.sub, k.head.trans h.head, k.last.trans h.last, Nat.le_trans k.len h.len, fun x => k.pos (h.pos x), fun x => k.right (h.right x)⟩
theorem sdrop_left (so : Nat → Int → Bool) (l : List Smp) : Left l (sdrop so l) :=
  sdrop_ind (P := Left) (fun l _ => Left.refl l) (fun l j u r hs _ hr => (erase_left (sleast_in hs).1 (sleast_in hs).2.1).trans hr) _ l rfl
theorem sdrop_end (so : Nat → Int → Bool) (l : List Smp) : sleast (sdrop so l) = none ∨ ∃ j u, sleast (sdrop so l) = some (j, u) ∧ so (sdrop so l).length u = false :=
  sdrop_ind (P := fun _ r => sleast r = none ∨ ∃ j u, sleast r = some (j, u) ∧ so r.length u = false) (fun l h => h) (fun l j u r _ _ hr => hr) _ l rfl
theorem sdrop_again (so : Nat → Int → Bool) (l : List Smp) : sdrop so (sdrop so l) = sdrop so l := by
  rcases sdrop_end so l with h | ⟨j, u, h, hs⟩
  · exact sdrop_none h
  · exact sdrop_stop h hs
theorem sdrop_area {low : Int} (l : List Smp) (i : Nat) (h1 : 1 ≤ i) (h2 : i + 1 < (sdrop (soS low) l).length) : low ≤ areaAt (sdrop (soS low) l) i := by
  rcases sdrop_end (soS low) l with h | ⟨j, u, h, hs⟩
  · have := sleast_none h; omega
  · have h3 := lp_min h i h1 (by omega)
    have h4 : ¬ u < low := by simpa [soS] using hs
    omega
theorem sdrop_more {low high : Int} (hle : low ≤ high) (l : List Smp) : sdrop (soS high) l = sdrop (soS high) (sdrop (soS low) l) :=
  sdrop_ind (P := fun l r => sdrop (soS high) l = sdrop (soS high) r) (fun l _ => rfl) (fun l j u r hs hso hr => by
    have h1 : u < low := by simpa [soS] using hso
    rw [sdrop_go hs (by simp [soS]; omega)]
    exact hr) _ l rfl
theorem sdrop_most {m : Nat} (hm : 2 ≤ m) (l : List Smp) : (sdrop (soT (m : Int)) l).length = min l.length m :=
  sdrop_ind (P := fun l r => r.length = min l.length m) (fun l h => by
    rcases h with h | ⟨j, u, _, hs⟩
    · have := sleast_none h; omega
    · have : ¬ (m : Int) < l.length := by simpa [soT] using hs
      omega) (fun l j u r hs hso hr => by
    have h1 : (m : Int) < l.length := by simpa [soT] using hso
    have h2 := sleast_in hs
    rw [hr, List.length_eraseIdx_of_lt (by omega)]
    omega) _ l rfl

/-- the greedy way through: a part is found whole -/
theorem greedy_step {a l : List Smp} {k i : Nat} {s : Smp} (h : (a.drop k).Sublist (l.drop i)) (hs : l[i]? = some s) :
    (∀ x, a[k]? = some x → x = s → (a.drop (k + 1)).Sublist (l.drop (i + 1))) ∧ ((∀ x, a[k]? = some x → x ≠ s) → (a.drop k).Sublist (l.drop (i + 1))) := by
  obtain ⟨hi, hsi⟩ := List.getElem?_eq_some_iff.1 hs
  rw [List.drop_eq_getElem_cons hi, hsi] at h
  constructor
  · intro x hx hxs
    obtain ⟨hk, hxk⟩ := List.getElem?_eq_some_iff.1 hx
    rw [List.drop_eq_getElem_cons hk, hxk, hxs] at h
    exact List.Sublist.of_cons_cons h
  · intro hno
    by_cases hk : k < a.length
    · obtain ⟨x, hx⟩ : ∃ x, a[k] = x := ⟨_, rfl⟩
      have hne := hno x (by rw [List.getElem?_eq_getElem hk, hx])
      rw [List.drop_eq_getElem_cons hk, hx] at h ⊢
      cases h with
      | cons _ h => exact h
      | cons_cons _ h => exact absurd rfl hne
    · rw [List.drop_of_length_le (by omega)]
      exact List.nil_sublist _

end Go.Proofs.Ytbonapdainlpjaa
