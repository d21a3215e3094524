/- Layer 35 (log): what a log that is opened, appended to, cleared is; the chapter's example. -/
import Derived.Test.YtbonapdainlpjaaLg13
set_option linter.unusedSimpArgs false
namespace Go.Proofs.Ytbonapdainlpjaa
open Go.RowKit Go.Sort

structure LOk (s : BSt) (d : Lg) : Prop where
  on : s.off = false
  live : d.dead = false
  sync : Sync s d
  fit : d.fr + d.n ≤ s.n
  good : ∀ r ∈ d.recs, lgood r
  fin : d.fin = (lall d.recs).length
  le : d.fin ≤ d.n * 64
  b : d.b = lall d.recs ++ List.replicate (d.n * 64 - d.fin) 0

theorem LOk.blen {s : BSt} {d : Lg} (h : LOk s d) : d.b.length = d.n * 64 := by
  rw [h.b, List.length_append, List.length_replicate, ← h.fin]
  have := h.le
  omega
theorem LOk.tail {s : BSt} {d : Lg} (h : LOk s d) : Tail d := by
  intro j h1 h2
  rw [h.b, List.getElem?_append_right (by rw [← h.fin]; exact h1), List.getElem?_replicate, if_pos (by rw [← h.fin]; omega)]
theorem LOk.recs {s : BSt} {d : Lg} (h : LOk s d) : lrecs d.b = (d.recs, d.fin) := by
  rw [h.b, lrecs_full _ h.good _ (lfirst_zeros _), h.fin]

theorem opened_ok {s s' : BSt} {d' : Lg} {fr n k : Nat} (hfit : fr + n ≤ s.n) (h : WipeR s (lopen s fr n) (lopen s fr n).fin k s' d') : LOk s' d' ∧ d'.fr = fr ∧ d'.n = n ∧ d'.recs = (lrecs (lreg s fr n)).1 ∧ d'.fin = (lrecs (lreg s fr n)).2 := by
  have hd := h.d1
  have hle : (lrecs (lreg s fr n)).2 ≤ n * 64 := by have := lrecs_end (lreg s fr n); rwa [lreg_len] at this
  have hl := lrecs_len (lreg s fr n)
  have ht := lrecs_take (lreg s fr n)
  have hcut : lcut (lreg s fr n) (lrecs (lreg s fr n)).2 = lall (lrecs (lreg s fr n)).1 ++ List.replicate (n * 64 - (lrecs (lreg s fr n)).2) 0 := by
    unfold lcut
    rw [lreg_len]
    congr 1
    have h3 := congrArg (List.take (lrecs (lreg s fr n)).2) ht
    rw [List.take_append_of_le_length (by omega), List.take_of_length_le (l := lall _) (by omega)] at h3
    exact h3
  subst hd
  refine ⟨⟨h.on, rfl, ?_, by show fr + n ≤ s'.n; rw [h.n]; exact hfit, lrecs_good _, hl, hle, hcut⟩, rfl, rfl, rfl, rfl⟩
  intro j x hx
  have hx' : (lcut (lreg s fr n) (lrecs (lreg s fr n)).2)[j]? = some x := hx
  show s'.f (fr * 64 + j) = x
  have hf := h.f (fr * 64 + j)
  have hf' : s'.f (fr * 64 + j) = if fr * 64 + (lrecs (lreg s fr n)).2 ≤ fr * 64 + j ∧ fr * 64 + j < (fr + n) * 64 then 0 else s.f (fr * 64 + j) := hf
  rw [hf']
  rw [lcut_get, lreg_len] at hx'
  have hm : (fr + n) * 64 = fr * 64 + n * 64 := Nat.add_mul _ _ _
  by_cases h1 : j < (lrecs (lreg s fr n)).2
  · rw [if_pos h1] at hx'
    rw [if_neg (by omega)]
    exact lopen_sync s fr n j x hx'
  · rw [if_neg h1] at hx'
    by_cases h2 : j < n * 64
    · rw [if_pos h2] at hx'
      rw [if_pos ⟨by omega, by omega⟩]
      exact Option.some.inj hx'
    · rw [if_neg h2] at hx'; cases hx'

theorem app_ok {s s' : BSt} {d d' : Lg} {r : List UInt8} {k : Nat} (hok : LOk s d) (hr : lgood r) (hf : d.fin + (lstands r).length ≤ d.n * 64) (h : AppOk s d r k s' d') : LOk s' d' := by
  have hd := h.d1
  subst hd
  have hlen : (lall d.recs ++ lstands r).length = d.fin + (lstands r).length := by rw [List.length_append, ← hok.fin]
  have htk : d.b.take d.fin = lall d.recs := by rw [hok.b, List.take_append_of_le_length (by rw [← hok.fin]; exact Nat.le_refl _), List.take_of_length_le (by rw [← hok.fin]; exact Nat.le_refl _)]
  refine ⟨h.on, hok.live, ?_, by show d.fr + d.n ≤ s'.n; rw [h.n]; exact hok.fit, ?_, ?_, hf, ?_⟩
  · intro j x hx
    have hx' : (lapp d r)[j]? = some x := hx
    show s'.f (d.fr * 64 + j) = x
    have hj : j < d.n * 64 := by have := (List.getElem?_eq_some_iff.1 hx').1; rwa [lapp_len hok.blen hf] at this
    rw [h.f, if_pos ⟨by omega, by omega⟩, show d.fr * 64 + j - d.fr * 64 = j by omega, hx']
    rfl
  · intro y hy
    rcases List.mem_append.1 hy with hy | hy
    · exact hok.good y hy
    · simp only [List.mem_singleton] at hy
      subst hy
      exact hr
  · show d.fin + _ = (lall (d.recs ++ [r])).length
    rw [lall_app, lall_one, hlen]
  · show lapp d r = lall (d.recs ++ [r]) ++ _
    unfold lapp
    rw [htk, lall_app, lall_one]

theorem clear_ok {s s' : BSt} {d d1 : Lg} {k : Nat} (hok : LOk s d) (h : WipeR s d 0 k s' d1) : LOk s' { d1 with fin := 0, recs := [] } := by
  have hd := h.d1
  subst hd
  have hb : lcut d.b 0 = List.replicate (d.n * 64) 0 := by unfold lcut; rw [hok.blen]; simp
  refine ⟨h.on, hok.live, ?_, by show d.fr + d.n ≤ s'.n; rw [h.n]; exact hok.fit, by simp, rfl, Nat.zero_le _, ?_⟩
  · intro j x hx
    have hx' : (lcut d.b 0)[j]? = some x := hx
    rw [hb, List.getElem?_replicate] at hx'
    show s'.f (d.fr * 64 + j) = x
    have hm : (d.fr + d.n) * 64 = d.fr * 64 + d.n * 64 := Nat.add_mul _ _ _
    by_cases h2 : j < d.n * 64
    · rw [if_pos h2] at hx'
      rw [h.f, if_pos ⟨by omega, by omega⟩]
      exact Option.some.inj hx'
    · rw [if_neg h2] at hx'; cases hx'
  · show lcut d.b 0 = lall [] ++ List.replicate (d.n * 64 - 0) 0
    rw [hb]
    simp [lall]

theorem StAt.fo_none {w : World} {B g gb : Nat} {fo : Option Nat} {s : BSt} (h : StAt w B g gb fo s) (hf : s.fu = none) : fo = none := by
  rcases h.fus with h1 | ⟨j, a, b, _, h1, _⟩
  · exact h1.1
  · rw [hf] at h1; cases h1

theorem lrecs_zeros (n : Nat) : lrecs (List.replicate n 0) = ([], 0) := lrecs_none (lfirst_zeros n)
theorem lreg_zero (n fr k : Nat) : lreg (bzero n) fr k = List.replicate (k * 64) 0 := by
  unfold lreg bzero
  simp only
  rw [List.eq_replicate_iff]
  refine ⟨by simp, fun x hx => ?_⟩
  obtain ⟨_, _, h⟩ := List.mem_map.1 hx
  exact h.symm

theorem stands9 : lstands [9] = [1, 9, 165] := by
  unfold lstands
  rw [show ([9] : List UInt8).length = 1 from rfl, vput_small (by omega)]
  rfl

end Go.Proofs.Ytbonapdainlpjaa
