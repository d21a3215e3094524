/- The plain law: samples that are put are taken; what is taken is put so. No program stands here. -/
import Derived.Test.YtjnbdeopoohnmaaGreatDoorSamp5
namespace Go.Proofs.YtjnbdeopoohnmaaGreatDoor

def schain : Nat → Smp → List Smp → Prop
  | _, _, [] => True
  | i, a, s :: r => SMay s ∧ (0 < i → a.t < s.t) ∧ schain (i + 1) s r

theorem SRight.tail {s : Smp} {r : List Smp} (h : SRight (s :: r)) : SRight r := by
  intro i x hi
  have h1 := h (i + 1) x (by simpa using hi)
  refine ⟨h1.1, fun h0 p hp => h1.2 (by omega) p ?_⟩
  obtain ⟨j, rfl⟩ : ∃ j, i = j + 1 := ⟨i - 1, by omega⟩
  simpa using hp

theorem schain_of {l : List Smp} : ∀ (i : Nat) (a : Smp), SRight l → (0 < i → ∀ s, l[0]? = some s → a.t < s.t) → schain i a l := by
  induction l with
  | nil => intro i a _ _; trivial
  | cons s r ih =>
    intro i a h h0
    refine ⟨(h 0 s rfl).1, fun hi => h0 hi s rfl, ih (i + 1) s h.tail fun _ x hx => ?_⟩
    exact (h 1 x (by simpa using hx)).2 (by omega) s rfl

theorem SRight.cons {s : Smp} {r : List Smp} (h : SRight r) (hs : SMay s) (h1 : ∀ x, r[0]? = some x → s.t < x.t) : SRight (s :: r) := by
  intro i x hi
  cases i with
  | zero =>
    simp at hi
    subst hi
    exact ⟨hs, fun h => by omega⟩
  | succ i =>
    have hi' : r[i]? = some x := by simpa using hi
    refine ⟨(h i x hi').1, fun _ p hp => ?_⟩
    simp only [Nat.add_sub_cancel] at hp
    cases i with
    | zero =>
      simp at hp
      subst hp
      exact h1 x hi'
    | succ j =>
      exact (h (j + 1) x hi').2 (by omega) p (by simpa using hp)

theorem schain_right {l : List Smp} : ∀ (i : Nat) (a : Smp), schain i a l → SRight l := by
  induction l with
  | nil => intro i a _ j s h; simp at h
  | cons s r ih =>
    intro i a h
    obtain ⟨h1, h2, h3⟩ := h
    refine (ih (i + 1) s h3).cons h1 fun x hx => ?_
    cases r with
    | nil => simp at hx
    | cons y r =>
      simp at hx
      subst hx
      exact h3.2.1 (by omega)

theorem sgo_put (l b : List UInt8) (r : List Smp) : ∀ (i pos : Nat) (a : Smp) (acc : List Smp), l.drop pos = sputs a r ++ b → schain i a r → (a = szero ∨ SMay a) → (i = 0 → a = szero) → sgo l r.length i a pos acc = (acc ++ r, pos + (sputs a r).length, 0) := by
  induction r with
  | nil => intro i pos a acc _ _ _ _; simp [sgo, sputs]
  | cons s r ih =>
    intro i pos a acc hd hc ha hi0
    obtain ⟨hs, hlt, hc⟩ := hc
    have hd0 : (0 ≤ a.t ∧ a.t ≤ 1099511627776) ∧ (0 ≤ a.x ∧ a.x < 67108864) ∧ (0 ≤ a.y ∧ a.y < 67108864) := by
      rcases ha with e | e
      · rw [e]; simp [szero]
      · unfold SMay at e; omega
    have hs' := hs
    unfold SMay at hs'
    have hta : 0 ≤ s.t - a.t := by
      rcases Nat.eq_zero_or_pos i with h | h
      · rw [hi0 h]; simp only [szero]; omega
      · have := hlt h; omega
    rw [sputs, sput1, List.append_assoc, List.append_assoc, List.append_assoc] at hd
    have h1 := rnum_vput (most := 1099511627776) hd (by omega) (by omega)
    have hd2 := drop_more hd
    have h2 := rsig_vput (most := 67108864) hd2 (by omega) (by omega)
    have hd3 := drop_more hd2
    have h3 := rsig_vput (most := 67108864) hd3 (by omega) (by omega)
    have hd4 := drop_more hd3
    have hn : snext a ((s.t - a.t).toNat : Nat) (vback (vturn (s.x - a.x)).toNat) (vback (vturn (s.y - a.y)).toNat) = s := by
      unfold snext
      rw [vback_vturn _ (by omega) (by omega), vback_vturn _ (by omega) (by omega), show a.t + ((s.t - a.t).toNat : Int) = s.t by omega, show a.x + (s.x - a.x) = s.x by omega, show a.y + (s.y - a.y) = s.y by omega]
    rw [List.length_cons, sgo_bad h1 h2 h3, if_neg (by simp), hn, if_neg, ih (i + 1) _ s _ hd4 hc (.inr hs) (by omega)]
    · simp only [sputs, sput1, List.length_append, List.append_assoc, List.singleton_append, Prod.mk.injEq, and_true, true_and]
      omega
    · rw [(mayB_iff s).2 hs]
      simp only [Bool.true_eq_false, false_or, not_and]
      intro h
      have := hlt h
      omega

theorem stake_put (l : List Smp) (b : List UInt8) (h : SRight l) (hn : l.length ≤ 2048) : stake (sputs szero l ++ b) l.length = (l, (sputs szero l).length, 0) := by
  unfold stake
  rw [if_neg (by omega), Int.toNat_natCast, sgo_put _ b l 0 0 szero [] (by simp) (schain_of 0 szero h (by omega)) (.inl rfl) (fun _ => rfl)]
  simp

theorem vtake_of_raw {may : Nat → Bool} {l : List UInt8} {pos n p : Nat} (h : rraw may l pos 0 = (n, p, 0)) : may n = true ∧ p = pos + (vput n).length ∧ p ≤ l.length - pos + pos ∧ (l.drop pos).take (vput n).length = vput n ∧ n < 18446744073709551616 := by
  unfold rraw at h
  rw [if_neg (by simp)] at h
  split at h
  · next hf => simp at h; omega
  · next hf =>
    split at h
    · next hm =>
      obtain ⟨h1, h2, h3, h4⟩ := vtake_good (l.drop pos) (by omega)
      simp only [Prod.mk.injEq, and_true] at h
      obtain ⟨rfl, rfl⟩ := h
      have hl : (vput (vtake (l.drop pos)).1).length = (vtake (l.drop pos)).2.1 := by rw [h4, List.length_take]; omega
      refine ⟨hm, by omega, ?_, ?_, h1⟩
      · simp only [List.length_drop] at h3; omega
      · rw [hl]; exact h4.symm
    · simp at h

theorem sgo_take (l : List UInt8) : ∀ (m i pos : Nat) (a : Smp) (acc out : List Smp) (used : Nat), sgo l m i a pos acc = (out, used, 0) → pos ≤ l.length → (a = szero ∨ SMay a) →
    ∃ r, out = acc ++ r ∧ r.length = m ∧ schain i a r ∧ pos ≤ used ∧ used ≤ l.length ∧ (l.drop pos).take (used - pos) = sputs a r := by
  intro m
  induction m with
  | zero =>
    intro i pos a acc out used h hp _
    simp only [sgo, Prod.mk.injEq, and_true] at h
    obtain ⟨rfl, rfl⟩ := h
    exact ⟨[], by simp, rfl, trivial, Nat.le_refl _, hp, by simp [sputs]⟩
  | succ m ih =>
    intro i pos a acc out used h hp ha
    obtain ⟨n1, p1, b1, h1⟩ : ∃ n p b, rnum 1099511627776 l pos 0 = (n, p, b) := ⟨_, _, _, rfl⟩
    obtain ⟨n2, p2, b2, h2⟩ : ∃ n p b, rsig 67108864 l p1 b1 = (n, p, b) := ⟨_, _, _, rfl⟩
    obtain ⟨n3, p3, b3, h3⟩ : ∃ n p b, rsig 67108864 l p2 b2 = (n, p, b) := ⟨_, _, _, rfl⟩
    rw [sgo_bad h1 h2 h3] at h
    split at h
    · next hb => simp at h; omega
    · next hb =>
      have hb3 : b3 = 0 := by omega
      obtain ⟨rfl, rfl, k1, k2, k3, m1, m2, m3⟩ := three_ok h1 h2 h3 hb3
      subst hb3
      split at h
      · simp at h
      · next hc =>
        obtain ⟨s, hs⟩ : ∃ s, snext a n1 (vback n2) (vback n3) = s := ⟨_, rfl⟩
        rw [hs] at h hc
        have hc1 : mayB s = true := by cases hm : mayB s <;> simp_all
        have hsm := (mayB_iff s).1 hc1
        have hst : s.t = a.t + n1 := by rw [← hs]; rfl
        have hsx : s.x = a.x + vback n2 := by rw [← hs]; rfl
        have hsy : s.y = a.y + vback n3 := by rw [← hs]; rfl
        have g1 := vtake_of_raw (may := mayN 1099511627776) h1
        have g2 := vtake_of_raw (may := mayS 67108864) h2
        have g3 := vtake_of_raw (may := mayS 67108864) h3
        have l1 : p1 ≤ l.length := by omega
        have l2 : p2 ≤ l.length := by omega
        have l3 : p3 ≤ l.length := by omega
        obtain ⟨r, hr1, hr2, hr3, hr4, hr5, hr6⟩ := ih (i + 1) p3 s (acc ++ [s]) out used h l3 (.inr hsm)
        refine ⟨s :: r, by rw [hr1]; simp, by simp [hr2], ⟨hsm, fun hi => ?_, hr3⟩, by omega, hr5, ?_⟩
        · have : n1 ≠ 0 := fun e => hc (.inr ⟨hi, e⟩)
          omega
        · have e1 : (s.t - a.t).toNat = n1 := by omega
          have e2 : (vturn (s.x - a.x)).toNat = n2 := by rw [hsx, show a.x + vback n2 - a.x = vback n2 by omega, vturn_vback]; omega
          have e3 : (vturn (s.y - a.y)).toNat = n3 := by rw [hsy, show a.y + vback n3 - a.y = vback n3 by omega, vturn_vback]; omega
          rw [sputs, sput1, e1, e2, e3]
          have d1 : l.drop p1 = (l.drop pos).drop (vput n1).length := by rw [List.drop_drop, k1]
          have d2 : l.drop p2 = (l.drop p1).drop (vput n2).length := by rw [List.drop_drop, k2]
          have d3 : l.drop p3 = (l.drop p2).drop (vput n3).length := by rw [List.drop_drop, k3]
          have t1 : l.drop pos = vput n1 ++ l.drop p1 := by rw [d1]; conv => lhs; rw [← List.take_append_drop (vput n1).length (l.drop pos), g1.2.2.2.1]
          have t2 : l.drop p1 = vput n2 ++ l.drop p2 := by rw [d2]; conv => lhs; rw [← List.take_append_drop (vput n2).length (l.drop p1), g2.2.2.2.1]
          have t3 : l.drop p2 = vput n3 ++ l.drop p3 := by rw [d3]; conv => lhs; rw [← List.take_append_drop (vput n3).length (l.drop p2), g3.2.2.2.1]
          rw [t1, t2, t3, ← hr6]
          rw [← List.append_assoc, ← List.append_assoc, List.take_append, List.take_of_length_le (by simp; omega)]
          congr 2
          simp
          omega

theorem stake_taken (b : List UInt8) (n : Int) (out : List Smp) (used : Nat) (h : stake b n = (out, used, 0)) : SRight out ∧ (out.length : Int) = n ∧ used ≤ b.length ∧ b.take used = sputs szero out ∧ out.length ≤ 2048 := by
  unfold stake at h
  split at h
  · simp at h
  · next hn =>
    obtain ⟨r, h1, h2, h3, h4, h5, h6⟩ := sgo_take b n.toNat 0 0 szero [] out used h (by omega) (.inl rfl)
    simp at h1
    subst h1
    exact ⟨schain_right 0 szero h3, by omega, h5, by simpa using h6, by omega⟩

theorem stake_fail (b : List UInt8) (n : Int) (out : List Smp) (used err : Nat) (h : stake b n = (out, used, err)) (he : err ≠ 0) : out = [] ∧ used = 0 := by
  have key : ∀ (m i pos : Nat) (a : Smp) (acc : List Smp), sgo b m i a pos acc = (out, used, err) → out = [] ∧ used = 0 := by
    intro m
    induction m with
    | zero => intro i pos a acc h; simp only [sgo, Prod.mk.injEq] at h; omega
    | succ m ih =>
      intro i pos a acc h
      simp only [sgo] at h
      split at h
      · simp at h; exact ⟨h.1, by have := h.2.1; omega⟩
      · split at h
        · simp at h; exact ⟨h.1, by have := h.2.1; omega⟩
        · exact ih _ _ _ _ h
  unfold stake at h
  split at h
  · simp at h; exact ⟨h.1, by have := h.2.1; omega⟩
  · exact key _ _ _ _ _ h

end Go.Proofs.YtjnbdeopoohnmaaGreatDoor
