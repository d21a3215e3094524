/- Layer 36 (snap), plain: both banks where the power went. -/
import Derived.Test.YtbonapdainlpjaaSp14
set_option linter.unusedSimpArgs false
namespace Go.Proofs.Ytbonapdainlpjaa
open Go.RowKit Go.Sort

def Bank (s : BSt) (h : Nat) (R : Bool → List (List UInt8)) : Prop := ∀ i, (lrecs (lreg s (bi i * h) h)).1 = R i
def TornP (s : BSt) (h m : Nat) (S : List UInt8) (Q : List (List UInt8)) (S' : List UInt8) (Q' : List (List UInt8)) : Prop :=
  ∃ (u : Bool) (R : Bool → List (List UInt8)), Bank s h R ∧ InvR R u ∧ sgen (R u) ≤ m ∧ ((ssnap (R u) = S ∧ srecs (R u) = Q) ∨ (ssnap (R u) = S' ∧ srecs (R u) = Q'))

def rtwo (u : Bool) (x y : List (List UInt8)) : Bool → List (List UInt8) := fun i => if i = u then x else y
theorem rtwo_same (u : Bool) (x y : List (List UInt8)) : rtwo u x y u = x := if_pos rfl
theorem rtwo_other (u : Bool) (x y : List (List UInt8)) : rtwo u x y (!u) = y := if_neg (by cases u <;> decide)

theorem sok_app {R : List (List UInt8)} (h : sok R) (r : List UInt8) : sok (R ++ [r]) ∧ sgen (R ++ [r]) = sgen R ∧ ssnap (R ++ [r]) = ssnap R ∧ srecs (R ++ [r]) = srecs R ++ [r] := by
  obtain ⟨x, L, rfl, h8⟩ := h
  have h1 : sok (x :: L) := ⟨x, L, rfl, h8⟩
  have h2 : sok (x :: L ++ [r]) := ⟨x, L ++ [r], rfl, h8⟩
  refine ⟨h2, ?_, ?_, ?_⟩
  · unfold sgen; rw [if_pos h1, if_pos h2]; rfl
  · unfold ssnap; rw [if_pos h1, if_pos h2]; rfl
  · unfold srecs; rw [if_pos h1, if_pos h2]; rfl

section
variable {s s' : BSt} {h : Nat} {d : Bool → Lg} {u : Bool} {r : List UInt8} {d' : Lg} {m : Nat}
theorem bank_two {R : Bool → List (List UInt8)} (i : Bool) (h1 : (lrecs (lreg s (bi i * h) h)).1 = R i) (h2 : (lrecs (lreg s (bi (!i) * h) h)).1 = R (!i)) : Bank s h R := fun j => by
  rcases bool_two i j with rfl | rfl
  · exact h1
  · exact h2

theorem Bank.of (hok : ∀ i, LOk s (d i)) (hfr : ∀ i, (d i).fr = bi i * h) (hnn : ∀ i, (d i).n = h) : Bank s h (fun i => (d i).recs) := fun i => by
  have := (hok i).regr
  rw [hfr, hnn] at this
  exact this

/-- a region that a write elsewhere leaves -/
theorem reg_keep (hok : ∀ i, LOk s (d i)) (hfr : ∀ i, (d i).fr = bi i * h) (hnn : ∀ i, (d i).n = h) (i : Bool) (hf : ∀ j, ¬ (bi i * h * 64 ≤ j ∧ j < (bi i * h + h) * 64) → s'.f j = s.f j) : (lrecs (lreg s' (bi (!i) * h) h)).1 = (d (!i)).recs := by
  refine Eq.trans ?_ (Bank.of hok hfr hnn (!i))
  congr 2
  exact lreg_of fun j h1 h2 => hf j (apart_reg h i j h1 h2)

theorem torn_app (hok : ∀ i, LOk s (d i)) (hfr : ∀ i, (d i).fr = bi i * h) (hnn : ∀ i, (d i).n = h) (hI : InvR (fun i => (d i).recs) u) (hm : sgen (d u).recs ≤ m) (hr : lgood r) (hr2 : r.length ≤ 16383) (hf : (d u).fin + (lstands r).length ≤ h * 64) (hT : TornA s (d u) (lapp (d u) r) h s' d') :
    TornP s' h m (ssnap (d u).recs) (srecs (d u).recs) (ssnap (d u).recs) (srecs (d u).recs ++ [r]) := by
  have h1 := torn_recs (hok u) hr hr2 (by rw [hnn]; exact hf) hT
  rw [hfr, hnn] at h1
  obtain ⟨c, hc, hF⟩ := hT.f
  rw [hnn] at hc
  have hk := reg_keep (s' := s') hok hfr hnn u (fun j hj => by
    rw [hF, if_neg]
    rw [hfr]
    have : (bi u * h + h) * 64 = bi u * h * 64 + h * 64 := Nat.add_mul _ _ _
    omega)
  obtain ⟨k1, k2⟩ := hI
  rcases h1 with h1 | h1
  · exact ⟨u, fun i => (d i).recs, bank_two u h1 hk, ⟨k1, k2⟩, hm, .inl ⟨rfl, rfl⟩⟩
  · obtain ⟨q1, q2, q3, q4⟩ := sok_app k1 r
    refine ⟨u, rtwo u ((d u).recs ++ [r]) (d (!u)).recs, bank_two u (by rw [rtwo_same]; exact h1) (by rw [rtwo_other]; exact hk), ⟨?_, ?_⟩, ?_, .inr ⟨?_, ?_⟩⟩
    · rw [rtwo_same]; exact q1
    · rw [rtwo_same, rtwo_other, q2]; exact k2
    · rw [rtwo_same, q2]; exact hm
    · rw [rtwo_same, q3]
    · rw [rtwo_same, q4]

theorem torn_com {sn : List UInt8} (hok : ∀ i, LOk s (d i)) (hfr : ∀ i, (d i).fr = bi i * h) (hnn : ∀ i, (d i).n = h) (hh : h ≤ 200) (hI : InvR (fun i => (d i).recs) u) (hm : sgen (d u).recs ≤ m) (hm2 : m ≤ 1000000) (hsn : sn.length ≤ 16000) (hf : (lstands (srec (sgen (d u).recs + 1) sn)).length ≤ h * 64)
    (hT : RenR s (d (!u)) (srec (sgen (d u).recs + 1) sn) s' d' 50) : TornP s' h (m + 1) (ssnap (d u).recs) (srecs (d u).recs) sn [] := by
  obtain ⟨k1, k2⟩ := hI
  have hlg : lgood (srec (sgen (d u).recs + 1) sn) := ⟨by rw [srec_len]; omega, by rw [srec_len]; omega⟩
  have hb2 : (bi (!u) * h + h) * 64 = bi (!u) * h * 64 + h * 64 := Nat.add_mul _ _ _
  cases hT with
  | wipe hT =>
    have hF := hT.f
    rw [hfr, hnn, Nat.add_zero] at hF
    have hk := reg_keep (s' := s') hok hfr hnn (!u) (fun j hj => by
      rcases hF j with h1 | ⟨h1, h2, _⟩
      · exact h1
      · omega)
    rw [Bool.not_not] at hk
    have hX := sgen_less (X := lreg s' (bi (!u) * h) h) (Y := lreg s (bi (!u) * h) h) (by rw [lreg_len, lreg_len]) (fun j => by
      rw [lreg_get, lreg_get]
      by_cases hj : j < h * 64
      · rw [if_pos hj, if_pos hj]
        rcases hF (bi (!u) * h * 64 + j) with h1 | ⟨_, _, h1⟩
        · rw [h1]; exact .inl rfl
        · rw [h1]; exact .inr rfl
      · rw [if_neg hj, if_neg hj]; exact .inl rfl) (by rw [lreg_len]; omega)
    rw [Bank.of hok hfr hnn (!u)] at hX
    obtain ⟨R', hR'⟩ : ∃ R', (lrecs (lreg s' (bi (!u) * h) h)).1 = R' := ⟨_, rfl⟩
    rw [hR'] at hX
    refine ⟨u, rtwo u (d u).recs R', bank_two u (by rw [rtwo_same]; exact hk) (by rw [rtwo_other]; exact hR'), ⟨?_, ?_⟩, ?_, .inl ⟨?_, ?_⟩⟩
    · rw [rtwo_same]; exact k1
    · rw [rtwo_same, rtwo_other]
      intro h1
      obtain ⟨h2, h3⟩ := hX h1
      have h4 := k2 h2
      simp only at h4 h3
      omega
    · rw [rtwo_same]; omega
    · rw [rtwo_same]
    · rw [rtwo_same]
  | app s1 d1 hW hT =>
    have hd1 := hW.d1
    have hok1 := clear_ok (hok (!u)) hW
    have hn1 : d1.n = h := by rw [hd1]; exact hnn _
    have hfr1 : d1.fr = bi (!u) * h := by rw [hd1]; exact hfr _
    have hTT : TornA s1 { d1 with fin := 0, recs := [] } (lapp { d1 with fin := 0, recs := [] } (srec (sgen (d u).recs + 1) sn)) (d (!u)).n s' d' := hT
    have h1 := torn_recs hok1 hlg (by rw [srec_len]; omega) (by show 0 + (lstands _).length ≤ d1.n * 64; rw [hn1]; omega) hTT
    have h1 : (lrecs (lreg s' (bi (!u) * h) h)).1 = [] ∨ (lrecs (lreg s' (bi (!u) * h) h)).1 = [srec (sgen (d u).recs + 1) sn] := by
      rw [← hfr1, ← hn1]; exact h1
    obtain ⟨c, hc, hF⟩ := hT.f
    have hc' : c ≤ h * 64 := by rw [← hn1]; exact hc
    have hk := reg_keep (s' := s') hok hfr hnn (!u) (fun j hj => by
      have e1 := hF j
      have hx : ¬ (d1.fr * 64 ≤ j ∧ j < d1.fr * 64 + c) := by rw [hfr1]; omega
      rw [e1.trans (if_neg hx), hW.f, if_neg]
      rw [hfr, hnn]
      omega)
    rw [Bool.not_not] at hk
    rcases h1 with h1 | h1
    · refine ⟨u, rtwo u (d u).recs [], bank_two u (by rw [rtwo_same]; exact hk) (by rw [rtwo_other]; exact h1), ⟨?_, ?_⟩, ?_, .inl ⟨?_, ?_⟩⟩
      · rw [rtwo_same]; exact k1
      · rw [rtwo_other]
        exact fun h => absurd h sok_nil
      · rw [rtwo_same]; omega
      · rw [rtwo_same]
      · rw [rtwo_same]
    · have hg := sgen_srec (g := sgen (d u).recs + 1) (by omega) sn []
      refine ⟨!u, rtwo u (d u).recs [srec (sgen (d u).recs + 1) sn], bank_two u (by rw [rtwo_same]; exact hk) (by rw [rtwo_other]; exact h1), ⟨?_, ?_⟩, ?_, .inr ⟨?_, ?_⟩⟩
      · rw [rtwo_other]; exact sok_srec _ _ _
      · rw [Bool.not_not, rtwo_same, rtwo_other, hg]
        intro _; omega
      · rw [rtwo_other, hg]; omega
      · rw [rtwo_other, ssnap_srec]
      · rw [rtwo_other, srecs_srec]
end

end Go.Proofs.Ytbonapdainlpjaa
