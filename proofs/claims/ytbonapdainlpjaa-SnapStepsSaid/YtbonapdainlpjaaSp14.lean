/- Layer 36 (snap), plain: what stands in the banks where the power went. -/
import Derived.Test.YtbonapdainlpjaaSp10
set_option linter.unusedSimpArgs false
namespace Go.Proofs.Ytbonapdainlpjaa
open Go.RowKit Go.Sort

theorem lreg_get (s : BSt) (fr n j : Nat) : (lreg s fr n)[j]? = if j < n * 64 then some (s.f (fr * 64 + j)) else none := by
  unfold lreg
  rw [List.getElem?_map]
  by_cases h : j < n * 64
  · rw [if_pos h, List.getElem?_range h]; rfl
  · rw [if_neg h, List.getElem?_eq_none (by simpa using h)]; rfl

/-- the region of a log that is well -/
theorem LOk.regb {s : BSt} {d : Lg} (h : LOk s d) : lreg s d.fr d.n = d.b := by
  apply List.ext_getElem?
  intro j
  have hb := h.blen
  rw [lreg_get]
  by_cases hj : j < d.n * 64
  · rw [if_pos hj, List.getElem?_eq_getElem (by omega)]
    rw [h.sync j _ (List.getElem?_eq_getElem (by omega))]
  · rw [if_neg hj, List.getElem?_eq_none (by omega)]
theorem LOk.regr {s : BSt} {d : Lg} (h : LOk s d) : (lrecs (lreg s d.fr d.n)).1 = d.recs := by rw [h.regb, h.recs]

/-- the banks: the one used counts, the other does not, or is older -/
def InvR (R : Bool → List (List UInt8)) (u : Bool) : Prop := sok (R u) ∧ (sok (R (!u)) → sgen (R (!u)) < sgen (R u))
theorem InvR.pick {R : Bool → List (List UInt8)} {u : Bool} (h : InvR R u) : spick (R false) (R true) = u ∧ ∀ i, sbank (R false) (R true) i = R i := by
  obtain ⟨h1, h2⟩ := h
  have hn : snew (R false) (R true) = false := by
    cases u
    · exact decide_eq_false (fun h => h.1 h1)
    · exact decide_eq_false (fun h => h.2 h1)
  refine ⟨?_, fun i => ?_⟩
  · cases u
    · refine decide_eq_false (fun h => ?_)
      have := h2 h.1
      rcases h.2 with h3 | h3
      · exact h3 h1
      · simp only [Bool.not_false] at this; omega
    · refine decide_eq_true ⟨h1, ?_⟩
      by_cases h3 : sok (R false)
      · exact .inr (h2 h3)
      · exact .inl h3
  · cases i
    · rw [sbank_false, hn]; rfl
    · rfl

/-- what is torn is no record (also where it has two bytes of length) -/
theorem lfirst_torn2 (r X : List UInt8) (h1 : 1 ≤ r.length) (h2 : r.length ≤ 16383) (hX : ∀ j, j < (lstands r).length → X[j]? = some 0 ∨ X[j]? = (lstands r)[j]?) (hl : X[(lstands r).length - 1]? ≠ some 165) : lfirst X = none := by
  have hlen := lstands_len r
  have hp := vput_pos r.length
  by_cases hs : r.length < 128
  · have hv := vput_small hs
    have e0 : (lstands r)[0]? = some (UInt8.ofNat r.length) := by simp [lstands, hv]
    have hvl : (vput r.length).length = 1 := by rw [hv]; rfl
    cases X with
    | nil => exact lfirst_nil
    | cons x t =>
      have h0 := hX 0 (by omega)
      rw [e0] at h0
      simp only [List.getElem?_cons_zero, Option.some.injEq] at h0
      rcases h0 with rfl | rfl
      · exact lfirst_zero t
      · have hv2 : vtake (UInt8.ofNat r.length :: t) = (r.length, 1, 0) := by
          have := vtake_vput r.length (by omega) t
          rw [hv] at this
          exact this
        unfold lfirst
        rw [if_neg]
        rintro ⟨_, _, _, h5⟩
        rw [hv2] at h5
        apply hl
        rw [hlen, hvl, Nat.add_sub_cancel]
        exact h5
  · have hv := vput_big hs
    have hv2 := vput_small (n := r.length / 128) (by omega)
    rw [hv2] at hv
    have hvl : (vput r.length).length = 2 := by rw [hv]; rfl
    have e0 : (lstands r)[0]? = some (UInt8.ofNat (128 + r.length % 128)) := by simp [lstands, hv]
    have e1 : (lstands r)[1]? = some (UInt8.ofNat (r.length / 128)) := by simp [lstands, hv]
    match X, hX, hl with
    | [], _, _ => exact lfirst_nil
    | [x], hX, hl => have := hX 1 (by omega); rw [e1] at this; simp at this
    | x :: y :: t, hX, hl =>
      have h0 := hX 0 (by omega)
      rw [e0] at h0
      simp only [List.getElem?_cons_zero, Option.some.injEq] at h0
      have h1' := hX 1 (by omega)
      rw [e1] at h1'
      simp only [List.getElem?_cons_succ, List.getElem?_cons_zero, Option.some.injEq] at h1'
      rcases h0 with rfl | rfl
      · exact lfirst_zero _
      · rcases h1' with rfl | rfl
        · unfold lfirst
          rw [if_neg]
          rintro ⟨h3, _⟩
          have hx : (UInt8.ofNat (128 + r.length % 128)).toNat = 128 + r.length % 128 := by simp; omega
          generalize UInt8.ofNat (128 + r.length % 128) = c at hx h3
          have hb : ¬ c.toNat < 128 := by omega
          simp [vtake, vgo, hb] at h3
        · have hv3 : vtake (UInt8.ofNat (128 + r.length % 128) :: UInt8.ofNat (r.length / 128) :: t) = (r.length, 2, 0) := by
            have := vtake_vput r.length (by omega) t
            rw [hv] at this
            exact this
          unfold lfirst
          rw [if_neg]
          rintro ⟨_, _, _, h5⟩
          rw [hv3] at h5
          apply hl
          rw [hlen, hvl, Nat.add_sub_cancel]
          exact h5

theorem slast_165 (r : List UInt8) : (lstands r)[(lstands r).length - 1]? = some 165 := by
  unfold lstands
  rw [List.getElem?_append_right (by simp)]
  simp

/-- an append that was torn: the records are as they were, or the new one is there, whole -/
theorem torn_recs {s s' : BSt} {d d' : Lg} {r : List UInt8} {k : Nat} (hok : LOk s d) (hr : lgood r) (hr2 : r.length ≤ 16383) (hf : d.fin + (lstands r).length ≤ d.n * 64) (hT : TornA s d (lapp d r) k s' d') :
    (lrecs (lreg s' d.fr d.n)).1 = d.recs ∨ (lrecs (lreg s' d.fr d.n)).1 = d.recs ++ [r] := by
  obtain ⟨c, hc, hF⟩ := hT.f
  have hbl := hok.blen
  have hp : 1 ≤ (lstands r).length := by rw [lstands_len]; omega
  have htk : d.b.take d.fin = lall d.recs := by rw [hok.b, List.take_append_of_le_length (by rw [← hok.fin]; exact Nat.le_refl _), List.take_of_length_le (by rw [← hok.fin]; exact Nat.le_refl _)]
  have hX : ∀ j, j < d.n * 64 → (lreg s' d.fr d.n)[j]? = if j < c then (lapp d r)[j]? else d.b[j]? := fun j hj => by
    rw [lreg_get, if_pos hj, hF]
    by_cases h1 : j < c
    · rw [if_pos ⟨by omega, by omega⟩, if_pos h1, Nat.add_sub_cancel_left, List.getElem?_eq_getElem (by rw [lapp_len hbl hf]; exact hj)]; rfl
    · rw [if_neg (by omega), if_neg h1, List.getElem?_eq_getElem (by omega), hok.sync j _ (List.getElem?_eq_getElem (by omega))]
  have hXl : (lreg s' d.fr d.n).length = d.n * 64 := lreg_len _ _ _
  by_cases hcc : d.fin + (lstands r).length ≤ c
  · right
    have e : lreg s' d.fr d.n = lall (d.recs ++ [r]) ++ List.replicate (d.n * 64 - (d.fin + (lstands r).length)) 0 := by
      have e1 : lreg s' d.fr d.n = lapp d r := by
        apply List.ext_getElem?
        intro j
        by_cases hj : j < d.n * 64
        · rw [hX j hj]
          split
          · rfl
          · rw [hok.tail j (by omega) hj, lapp_hi hbl hf (by omega) hj]
        · rw [List.getElem?_eq_none (by omega), List.getElem?_eq_none (by rw [lapp_len hbl hf]; omega)]
      rw [e1]
      unfold lapp
      rw [htk, lall_app, lall_one]
    rw [e, lrecs_full _ (fun y hy => ?_) _ (lfirst_zeros _)]
    rcases List.mem_append.1 hy with hy | hy
    · exact hok.good y hy
    · simp only [List.mem_singleton] at hy; rw [hy]; exact hr
  · left
    have e1 : (lreg s' d.fr d.n).take d.fin = lall d.recs := by
      rw [← htk]
      apply List.ext_getElem?
      intro j
      rw [List.getElem?_take, List.getElem?_take]
      by_cases hj : j < d.fin
      · rw [if_pos hj, if_pos hj, hX j (by have := hok.le; omega)]
        split
        · exact lapp_lo hbl hf hj
        · rfl
      · rw [if_neg hj, if_neg hj]
    have e2 : lfirst ((lreg s' d.fr d.n).drop d.fin) = none := by
      refine lfirst_torn2 r _ hr.1 hr2 (fun j hj => ?_) ?_
      · rw [List.getElem?_drop, hX _ (by omega)]
        by_cases h1 : d.fin + j < c
        · rw [if_pos h1, lapp_mid hbl hf hj]; exact .inr rfl
        · rw [if_neg h1, hok.tail _ (by omega) (by omega)]; exact .inl rfl
      · rw [List.getElem?_drop, hX _ (by omega), if_neg (by omega), hok.tail _ (by omega) (by omega)]
        decide
    rw [← List.take_append_drop d.fin (lreg s' d.fr d.n), e1, lrecs_full _ hok.good _ e2]

/-! a wipe that was torn -/
theorem sbe_mono : ∀ (l m : List UInt8) (a b : Nat), l.length = m.length → (∀ j : Nat, l[j]? = m[j]? ∨ l[j]? = some 0) → a ≤ b → l.foldl (fun n c => n * 256 + c.toNat) a ≤ m.foldl (fun n c => n * 256 + c.toNat) b
  | [], [], a, b, _, _, hab => hab
  | x :: l, y :: m, a, b, hl, h, hab => by
    simp only [List.foldl_cons]
    refine sbe_mono l m _ _ (by simpa using hl) (fun j => by have := h (j + 1); simpa using this) ?_
    have h0 := h 0
    simp only [List.getElem?_cons_zero, Option.some.injEq] at h0
    have : x.toNat ≤ y.toNat := by
      rcases h0 with h0 | h0
      · rw [h0]; exact Nat.le_refl _
      · rw [h0]; exact Nat.zero_le _
    omega
  | [], _ :: _, _, _, hl, _, _ => by simp at hl
  | _ :: _, [], _, _, hl, _, _ => by simp at hl

theorem vput_nz {n : Nat} (h1 : 1 ≤ n) (h2 : n ≤ 16383) : ∀ (j : Nat) (x : UInt8), (vput n)[j]? = some x → x ≠ 0 := by
  intro j x hx
  by_cases hs : n < 128
  · rw [vput_small hs] at hx
    match j with
    | 0 =>
      simp only [List.getElem?_cons_zero, Option.some.injEq] at hx
      intro h0
      have := congrArg UInt8.toNat (hx.trans h0)
      simp at this
      omega
    | j + 1 => simp at hx
  · rw [vput_big hs, vput_small (n := n / 128) (by omega)] at hx
    match j with
    | 0 =>
      simp only [List.getElem?_cons_zero, Option.some.injEq] at hx
      intro h0
      have := congrArg UInt8.toNat (hx.trans h0)
      simp at this
      omega
    | 1 =>
      simp only [List.getElem?_cons_succ, List.getElem?_cons_zero, Option.some.injEq] at hx
      intro h0
      have := congrArg UInt8.toNat (hx.trans h0)
      simp at this
      omega
    | j + 2 => simp at hx

/-- the first record of what is wiped in part was the first record, with noughts in it -/
theorem lfirst_less {X Y r : List UInt8} {k : Nat} (hl : X.length = Y.length) (h : ∀ j : Nat, X[j]? = Y[j]? ∨ X[j]? = some 0) (hs : X.length ≤ 16000) (hf : lfirst X = some (r, k)) :
    ∃ r2, lfirst Y = some (r2, k) ∧ r.length = r2.length ∧ ∀ j : Nat, r[j]? = r2[j]? ∨ r[j]? = some 0 := by
  unfold lfirst at hf
  split at hf
  · rename_i hc
    obtain ⟨h0, h1, h2, h3⟩ := hc
    simp only [Option.some.injEq, Prod.mk.injEq] at hf
    obtain ⟨hr, rfl⟩ := hf
    obtain ⟨g1, g2, g3, g4⟩ := vtake_good X h0
    generalize (vtake X).1 = n at h1 h2 h3 g1 g4 hr ⊢
    generalize (vtake X).2.1 = q at h3 g2 g3 g4 hr ⊢
    obtain ⟨h4, -⟩ := List.getElem?_eq_some_iff.1 h3
    have hn : n ≤ 16383 := by omega
    have hnz : ∀ j : Nat, j < q → X[j]? = Y[j]? := fun j hj => by
      rcases h j with h5 | h5
      · exact h5
      · have h6 : (vput n)[j]? = some 0 := by rw [g4, List.getElem?_take, if_pos hj]; exact h5
        exact absurd rfl (vput_nz h1 hn j 0 h6)
    have hY : Y = vput n ++ Y.drop q := by
      have : vput n = Y.take q := by
        rw [g4]
        apply List.ext_getElem?
        intro j
        rw [List.getElem?_take, List.getElem?_take]
        by_cases hj : j < q
        · rw [if_pos hj, if_pos hj, hnz j hj]
        · rw [if_neg hj, if_neg hj]
      rw [this, List.take_append_drop]
    have hq : (vput n).length = q := by rw [g4, List.length_take]; omega
    have hv := vtake_vput n (by omega) (Y.drop q)
    rw [← hY, hq] at hv
    have h5 : Y[q + n]? = some 165 := by
      rcases h (q + n) with h6 | h6
      · rw [← h6]; exact h3
      · rw [h3] at h6; exact absurd (Option.some.inj h6) (by decide)
    refine ⟨(Y.drop q).take n, ?_, ?_, fun j => ?_⟩
    · unfold lfirst
      rw [hv, if_pos ⟨rfl, h1, h2, h5⟩]
    · rw [← hr]; simp; omega
    · rw [← hr, List.getElem?_take, List.getElem?_take, List.getElem?_drop, List.getElem?_drop]
      by_cases hj : j < n
      · rw [if_pos hj, if_pos hj]; exact h _
      · rw [if_neg hj, if_neg hj]; exact .inl rfl
  · cases hf

/-- what is wiped in part counts only if it did, and is not later -/
theorem sgen_less {X Y : List UInt8} (hl : X.length = Y.length) (h : ∀ j : Nat, X[j]? = Y[j]? ∨ X[j]? = some 0) (hs : X.length ≤ 16000) (hk : sok (lrecs X).1) : sok (lrecs Y).1 ∧ sgen (lrecs X).1 ≤ sgen (lrecs Y).1 := by
  cases hf : lfirst X with
  | none => rw [lrecs_none hf] at hk; exact absurd hk sok_nil
  | some x =>
    obtain ⟨r, k⟩ := x
    obtain ⟨r2, h1, h2, h3⟩ := lfirst_less hl h hs hf
    have hx := lrecs_some hf
    have hy := lrecs_some h1
    have h8 : 8 ≤ r.length := by
      obtain ⟨a, b, h4, h5⟩ := hk
      rw [hx] at h4
      injection h4 with h6
      rw [h6]; exact h5
    have hk2 : sok (lrecs Y).1 := by rw [hy]; exact ⟨_, _, rfl, by omega⟩
    refine ⟨hk2, ?_⟩
    unfold sgen
    rw [if_pos hk, if_pos hk2, hx, hy]
    simp only [List.headD_cons]
    unfold sbe
    refine sbe_mono _ _ _ _ (by simp; omega) (fun j => ?_) (Nat.le_refl _)
    rw [List.getElem?_take, List.getElem?_take]
    by_cases hj : j < 8
    · rw [if_pos hj, if_pos hj]; exact h3 j
    · rw [if_neg hj, if_neg hj]; exact .inl rfl

end Go.Proofs.Ytbonapdainlpjaa
