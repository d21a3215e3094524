/- Layer 35 (log), plain: what stands on the store where the power went, and behind a wipe that was torn. -/
import Derived.Test.YtbonapdainlpjaaLg15
set_option linter.unusedSimpArgs false
namespace Go.Proofs.Ytbonapdainlpjaa
open Go.RowKit Go.Sort

/-- noughts, or what is torn of a record -/
def TX (r X : List UInt8) : Prop := (∀ (j : Nat) (x : UInt8), X[j]? = some x → x = 0) ∨ ((lstands r).length ≤ X.length ∧ (∀ j, j < (lstands r).length → X[j]? = some 0 ∨ X[j]? = (lstands r)[j]?) ∧ X[(lstands r).length - 1]? ≠ some 165)

theorem TX.no {r X : List UInt8} (h1 : 1 ≤ r.length) (h2 : r.length ≤ 400) (h : TX r X) : lfirst X = none := by
  rcases h with h | ⟨_, h3, h4⟩
  · cases X with
    | nil => exact lfirst_nil
    | cons x t =>
      obtain rfl := h 0 x rfl
      exact lfirst_zero t
  · exact lfirst_torn r X h1 h2 h3 h4

def rng (f : Nat → UInt8) : List UInt8 := (List.range 3840).map f
theorem rng_len (f : Nat → UInt8) : (rng f).length = 3840 := by simp [rng]
theorem rng_get (f : Nat → UInt8) {j : Nat} (h : j < 3840) : (rng f)[j]? = some (f j) := by
  unfold rng; rw [List.getElem?_map, List.getElem?_range h]; rfl
theorem lreg0 (s : BSt) : lreg s 0 60 = rng s.f := by
  unfold lreg rng
  apply List.map_congr_left
  intro j _
  rw [Nat.zero_mul, Nat.zero_add]

def Reg (r : List UInt8) (f : Nat → UInt8) (R : List (List UInt8)) : Prop := (∀ y ∈ R, lgood y) ∧ ∃ X, rng f = lall R ++ X ∧ TX r X

theorem Reg.recs {r : List UInt8} {f : Nat → UInt8} {R : List (List UInt8)} (h1 : 1 ≤ r.length) (h2 : r.length ≤ 400) (h : Reg r f R) : lrecs (rng f) = (R, (lall R).length) := by
  obtain ⟨hg, X, hX, hT⟩ := h
  rw [hX, lrecs_full R hg X (hT.no h1 h2)]

theorem Reg.zero {r : List UInt8} {f f' : Nat → UInt8} {R : List (List UInt8)} (h : Reg r f R) (hf : ∀ j, f' j = f j ∨ ((lall R).length ≤ j ∧ j < 3840 ∧ f' j = 0)) : Reg r f' R := by
  obtain ⟨hg, X, hX, hT⟩ := h
  have hlen : (lall R).length + X.length = 3840 := by rw [← List.length_append, ← hX, rng_len]
  obtain ⟨Y, hY⟩ : ∃ Y, (rng f').drop (lall R).length = Y := ⟨_, rfl⟩
  have hYl : Y.length = X.length := by rw [← hY, List.length_drop, rng_len]; omega
  have hXg : ∀ j, j < X.length → X[j]? = some (f ((lall R).length + j)) := fun j hj => by
    have : (rng f)[(lall R).length + j]? = (lall R ++ X)[(lall R).length + j]? := by rw [hX]
    rw [rng_get f (by omega), List.getElem?_append_right (by omega), Nat.add_sub_cancel_left] at this
    exact this.symm
  have hYg : ∀ j, j < X.length → Y[j]? = some (f' ((lall R).length + j)) := fun j hj => by
    rw [← hY, List.getElem?_drop, rng_get f' (by omega)]
  have hstep : ∀ j, j < X.length → Y[j]? = some 0 ∨ Y[j]? = X[j]? := fun j hj => by
    rw [hYg j hj, hXg j hj]
    rcases hf ((lall R).length + j) with h1 | ⟨_, _, h1⟩
    · right; rw [h1]
    · left; rw [h1]
  refine ⟨hg, Y, ?_, ?_⟩
  · rw [← hY]
    have htk : (rng f').take (lall R).length = lall R := by
      apply List.ext_getElem?
      intro j
      rw [List.getElem?_take]
      by_cases hj : j < (lall R).length
      · rw [if_pos hj, rng_get f' (by omega)]
        have h2 : (rng f)[j]? = (lall R ++ X)[j]? := by rw [hX]
        rw [rng_get f (by omega), List.getElem?_append_left hj] at h2
        rw [← h2]
        rcases hf j with h1 | ⟨h1, _⟩
        · rw [h1]
        · omega
      · rw [if_neg hj, List.getElem?_eq_none (by omega)]
    conv => rhs; lhs; rw [← htk]
    exact (List.take_append_drop _ _).symm
  · rcases hT with h0 | ⟨h3, h4, h5⟩
    · left
      intro j x hx
      have hj : j < X.length := by rw [← hYl]; exact (List.getElem?_eq_some_iff.1 hx).1
      rcases hstep j hj with h1 | h1
      · rw [h1] at hx; exact (Option.some.inj hx).symm
      · rw [h1] at hx; exact h0 j x hx
    · right
      refine ⟨by omega, fun j hj => ?_, ?_⟩
      · rcases hstep j (by omega) with h1 | h1
        · exact .inl h1
        · rw [h1]; exact h4 j hj
      · have hp : 1 ≤ (lstands r).length := by rw [lstands_len]; omega
        rcases hstep ((lstands r).length - 1) (by omega) with h1 | h1
        · rw [h1]; decide
        · rw [h1]; exact h5

theorem LOk.rng_b {s : BSt} {d : Lg} (h : LOk s d) (h0 : d.fr = 0) (h60 : d.n = 60) : rng s.f = d.b := by
  apply List.ext_getElem?
  intro j
  have hb := h.blen
  rw [h60] at hb
  by_cases hj : j < 3840
  · rw [rng_get s.f hj, List.getElem?_eq_getElem (by omega)]
    have := h.sync j _ (List.getElem?_eq_getElem (by omega))
    rw [h0, Nat.zero_mul, Nat.zero_add] at this
    rw [this]
  · rw [List.getElem?_eq_none (by rw [rng_len]; omega), List.getElem?_eq_none (by omega)]

theorem LOk.reg {s : BSt} {d : Lg} (r : List UInt8) (h : LOk s d) (h0 : d.fr = 0) (h60 : d.n = 60) : Reg r s.f d.recs := by
  refine ⟨h.good, _, (h.rng_b h0 h60).trans h.b, .inl fun j x hx => ?_⟩
  rw [List.getElem?_replicate] at hx
  split at hx
  · exact (Option.some.inj hx).symm
  · cases hx

theorem last_165 (r : List UInt8) : (lstands r)[(lstands r).length - 1]? = some 165 := by
  unfold lstands
  rw [List.getElem?_append_right (by simp)]
  simp

/-- what the power left -/
theorem torn_reg {s s' : BSt} {d d' : Lg} {r : List UInt8} {k : Nat} (hok : LOk s d) (h0 : d.fr = 0) (h60 : d.n = 60) (hr : lgood r) (hf : d.fin + (lstands r).length ≤ d.n * 64) (hT : TornA s d (lapp d r) k s' d') :
    ∃ b : Bool, s'.f (d.fin + (lstands r).length - 1) = (if b then 165 else 0) ∧ Reg r s'.f (if b then d.recs ++ [r] else d.recs) := by
  obtain ⟨c, hc, hF⟩ := hT.f
  have hp : 1 ≤ (lstands r).length := by rw [lstands_len]; omega
  have hF' : ∀ j, s'.f j = if j < c then ((lapp d r)[j]?).getD 0 else s.f j := fun j => by
    have := hF j
    rw [h0, Nat.zero_mul, Nat.zero_add, Nat.sub_zero] at this
    rw [this]
    by_cases h1 : j < c
    · rw [if_pos ⟨Nat.zero_le _, h1⟩, if_pos h1]
    · rw [if_neg (fun h => h1 h.2), if_neg h1]
  have hbl := hok.blen
  rw [h60] at hbl hc
  have hf' := hf
  rw [h60] at hf'
  have hS0 : ∀ j, d.fin ≤ j → j < 3840 → s.f j = 0 := fun j h1 h2 => by
    have := hok.sync j 0 (hok.tail j h1 (by rw [h60]; exact h2))
    rwa [h0, Nat.zero_mul, Nat.zero_add] at this
  by_cases hcc : d.fin + (lstands r).length ≤ c
  · refine ⟨true, ?_, ?_⟩
    · rw [hF', if_pos (by omega), show d.fin + (lstands r).length - 1 = d.fin + ((lstands r).length - 1) by omega, lapp_mid hok.blen hf (by omega), last_165]
      rfl
    · show Reg r s'.f (d.recs ++ [r])
      have hal : rng s'.f = lapp d r := by
        apply List.ext_getElem?
        intro j
        by_cases hj : j < 3840
        · rw [rng_get _ hj, hF']
          have hjl : j < (lapp d r).length := by rw [lapp_len hok.blen hf, h60]; exact hj
          by_cases h1 : j < c
          · rw [if_pos h1, List.getElem?_eq_getElem hjl]; rfl
          · rw [if_neg h1, hS0 j (by omega) hj, lapp_hi hok.blen hf (by omega) (by rw [h60]; exact hj)]
        · rw [List.getElem?_eq_none (by rw [rng_len]; omega), List.getElem?_eq_none (by rw [lapp_len hok.blen hf, h60]; omega)]
      have htk : d.b.take d.fin = lall d.recs := by rw [hok.b, List.take_append_of_le_length (by rw [← hok.fin]; exact Nat.le_refl _), List.take_of_length_le (by rw [← hok.fin]; exact Nat.le_refl _)]
      refine ⟨fun y hy => ?_, List.replicate (d.n * 64 - (d.fin + (lstands r).length)) 0, ?_, .inl fun j x hx => ?_⟩
      · rcases List.mem_append.1 hy with hy | hy
        · exact hok.good y hy
        · simp only [List.mem_singleton] at hy
          subst hy; exact hr
      · rw [hal]
        unfold lapp
        rw [htk, lall_app, lall_one]
      · rw [List.getElem?_replicate] at hx
        split at hx
        · exact (Option.some.inj hx).symm
        · cases hx
  · refine ⟨false, ?_, ?_⟩
    · rw [hF', if_neg (by omega), hS0 _ (by omega) (by omega)]
      rfl
    · show Reg r s'.f d.recs
      have hlo : ∀ j, j < d.fin → s'.f j = s.f j := fun j hj => by
        rw [hF']
        split
        · rw [lapp_lo hok.blen hf hj, List.getElem?_eq_getElem (by omega)]
          have := hok.sync j _ (List.getElem?_eq_getElem (by omega))
          rw [h0, Nat.zero_mul, Nat.zero_add] at this
          rw [this]; rfl
        · rfl
      refine ⟨hok.good, (rng s'.f).drop d.fin, ?_, .inr ⟨by rw [List.length_drop, rng_len]; omega, fun j hj => ?_, ?_⟩⟩
      · have htk : (rng s'.f).take d.fin = lall d.recs := by
          have h1 : (rng s.f).take d.fin = lall d.recs := by
            rw [hok.rng_b h0 h60, hok.b, List.take_append_of_le_length (by rw [← hok.fin]; exact Nat.le_refl _), List.take_of_length_le (by rw [← hok.fin]; exact Nat.le_refl _)]
          rw [← h1]
          apply List.ext_getElem?
          intro j
          rw [List.getElem?_take, List.getElem?_take]
          by_cases hj : j < d.fin
          · rw [if_pos hj, if_pos hj, rng_get _ (by omega), rng_get _ (by omega), hlo j hj]
          · rw [if_neg hj, if_neg hj]
        conv => rhs; lhs; rw [← htk]
        exact (List.take_append_drop _ _).symm
      · rw [List.getElem?_drop, rng_get _ (by omega), hF']
        by_cases h1 : d.fin + j < c
        · right
          rw [if_pos h1, lapp_mid hok.blen hf hj, List.getElem?_eq_getElem hj]; rfl
        · left
          rw [if_neg h1, hS0 _ (by omega) (by omega)]
      · rw [List.getElem?_drop, rng_get _ (by omega), hF', if_neg (by omega), hS0 _ (by omega) (by omega)]
        decide

/-- setting the fuse keeps all but the fuse -/
theorem bset_eq (s : BSt) (a b : Int) (ha : 0 ≤ a) (hb : 0 ≤ b) : bset s a b = ⟨s.n, s.f, s.off, some (a, b), s.cnt⟩ := by unfold bset; rw [if_pos ⟨ha, hb⟩]
theorem LOk.set {s : BSt} {d : Lg} (h : LOk s d) (a b : Int) (ha : 0 ≤ a) (hb : 0 ≤ b) : LOk (bset s a b) d := by
  rw [bset_eq s a b ha hb]
  exact ⟨h.on, h.live, h.sync, h.fit, h.good, h.fin, h.le, h.b⟩
theorem bpow_f (s : BSt) : (bpow s).f = s.f ∧ (bpow s).n = s.n ∧ (bpow s).off = false ∧ (bpow s).cnt = s.cnt := by
  unfold bpow
  cases h : s.off with
  | true => exact ⟨rfl, rfl, rfl, rfl⟩
  | false => exact ⟨rfl, rfl, h, rfl⟩

end Go.Proofs.Ytbonapdainlpjaa
