/- Layer 56 (roster): rosters as bytes, plainly. -/
import Derived.Test.YtjnbdeopoohnmaaRt0
import Derived.Test.YtjnbdeopoohnmaaRspec
set_option linter.unusedSimpArgs false
namespace Go.Proofs.Ytjnbdeopoohnmaa

def spB (s : SpT) : List UInt8 := vput s.1.toNat ++ vput s.2.toNat
def spsB (l : List SpT) : List UInt8 := l.flatMap spB
def acB (a : AcD) : List UInt8 := vput a.id.toNat ++ (vput (vturn a.bl).toNat ++ (vput a.sp.length ++ spsB a.sp))
def rosB (D : List AcD) : List UInt8 := vput D.length ++ D.flatMap acB

theorem spsB_next {l : List SpT} {k : Nat} {s : SpT} (h : l[k]? = some s) : spsB (l.take (k + 1)) = spsB (l.take k) ++ spB s := by
  rw [List.take_add_one, h]
  simp [spsB]
theorem acsB_next {l : List AcD} {k : Nat} {a : AcD} (h : l[k]? = some a) : (l.take (k + 1)).flatMap acB = (l.take k).flatMap acB ++ acB a := by
  rw [List.take_add_one, h]
  simp
theorem spB_len (s : SpT) (h : spW s = true) : (spB s).length ≤ 20 := by
  unfold spW at h
  simp only [Bool.and_eq_true, decide_eq_true_eq] at h
  have h1 := vput_len10 s.1.toNat (by omega)
  have h2 := vput_len10 s.2.toNat (by omega)
  unfold spB
  rw [List.length_append]
  omega
theorem one_spW {a : AcD} (h : aone a = true) : ∀ s ∈ a.sp, spW s = true := by
  obtain ⟨-, -, -, -, -, -, -, h8⟩ := aone_wf h
  intro s hs
  obtain ⟨k, hk⟩ := List.getElem?_of_mem hs
  have h9 := spTo_at h8 (List.getElem?_eq_some_iff.1 hk).1
  unfold spAt at h9
  rw [hk] at h9
  simp only [Bool.and_eq_true] at h9
  exact h9.1
theorem spsB_len : ∀ {l : List SpT}, (∀ s ∈ l, spW s = true) → (spsB l).length ≤ 20 * l.length
  | [], _ => by simp [spsB]
  | s :: l, h => by
    have h1 := spB_len s (h s (by simp))
    have h2 := spsB_len (l := l) fun t ht => h t (by simp [ht])
    show (spB s ++ spsB l).length ≤ _
    rw [List.length_append, List.length_cons]
    omega
theorem acB_len {a : AcD} (h : aone a = true) : (acB a).length ≤ 1000 := by
  have h3 := spsB_len (one_spW h)
  obtain ⟨h1, h2, h4, h5, h6, h7, -, -⟩ := aone_wf h
  have k1 := vput_len10 a.id.toNat (by omega)
  have k2 := vput_len10 (vturn a.bl).toNat (vturn_bound a.bl (by omega) (by omega))
  have k3 := vput_len10 a.sp.length (by omega)
  unfold acB
  simp only [List.length_append]
  omega
theorem acsB_len : ∀ {D : List AcD}, (∀ a ∈ D, aone a = true) → (D.flatMap acB).length ≤ 1000 * D.length
  | [], _ => by simp
  | a :: D, h => by
    have h1 := acB_len (h a (by simp))
    have h2 := acsB_len (D := D) fun t ht => h t (by simp [ht])
    rw [List.flatMap_cons, List.length_append, List.length_cons]
    omega

/-- reading: where, and what was wrong first -/
abbrev RSt := Nat × Nat
def rdSp (c : List UInt8) (st : RSt) : SpT × RSt :=
  ((((rnum 1099511627776 c st.1 st.2).1 : Int), ((rnum 15 c (rnum 1099511627776 c st.1 st.2).2.1 (rnum 1099511627776 c st.1 st.2).2.2).1 : Int)), (rnum 15 c (rnum 1099511627776 c st.1 st.2).2.1 (rnum 1099511627776 c st.1 st.2).2.2).2)
def rdSps (c : List UInt8) (st : RSt) : Nat → List SpT × RSt
  | 0 => ([], st)
  | k + 1 => ((rdSps c st k).1 ++ [(rdSp c (rdSps c st k).2).1], (rdSp c (rdSps c st k).2).2)
def rdA1 (c : List UInt8) (st : RSt) : Nat × RSt := rnum 2147483648 c st.1 st.2
def rdA2 (c : List UInt8) (st : RSt) : Nat × RSt := rsig 1099511627776 c (rdA1 c st).2.1 (rdA1 c st).2.2
def rdA3 (c : List UInt8) (st : RSt) : Nat × RSt := rnum 32 c (rdA2 c st).2.1 (rdA2 c st).2.2
def rdAc (c : List UInt8) (st : RSt) : AcD × RSt := (⟨((rdA1 c st).1 : Int), vback (rdA2 c st).1, (rdSps c (rdA3 c st).2 (rdA3 c st).1).1⟩, (rdSps c (rdA3 c st).2 (rdA3 c st).1).2)
def rdAcs (c : List UInt8) (st : RSt) : Nat → List AcD × RSt
  | 0 => ([], st)
  | k + 1 => ((rdAcs c st k).1 ++ [(rdAc c (rdAcs c st k).2).1], (rdAc c (rdAcs c st k).2).2)
def rtN (c : List UInt8) : Nat × RSt := rnum 4096 c 0 0
def rtL (c : List UInt8) : List AcD × RSt := rdAcs c (rtN c).2 (rtN c).1
def rtD (c : List UInt8) : Nat := rdone c (rtL c).2.1 (rtL c).2.2
def rtE (c : List UInt8) : Nat := if rtD c ≠ 0 then rtD c else if aright (rtL c).1 = true then 0 else 2
def rtk (c : List UInt8) : List AcD := if rtE c = 0 then (rtL c).1 else []

theorem rnum_le {most : Int} (hm : 0 ≤ most) (c : List UInt8) (pos bad : Nat) : ((rnum most c pos bad).1 : Int) ≤ most := by
  by_cases h : (rnum most c pos bad).2.2 = 0
  · exact ((rnum_most most c pos bad).2 h).2
  · have := (rraw_bad (mayN most) c pos bad h).1
    unfold rnum
    rw [this]
    exact hm
theorem rdSps_len (c : List UInt8) (st : RSt) : ∀ k, (rdSps c st k).1.length = k
  | 0 => rfl
  | k + 1 => by simp only [rdSps, List.length_append, rdSps_len c st k]; rfl
theorem rdAcs_len (c : List UInt8) (st : RSt) : ∀ k, (rdAcs c st k).1.length = k
  | 0 => rfl
  | k + 1 => by simp only [rdAcs, List.length_append, rdAcs_len c st k]; rfl

/-- there and back -/
theorem rdSp_back {c r : List UInt8} {pos : Nat} {s : SpT} (h : c.drop pos = spB s ++ r) (hs : spW s = true) : rdSp c (pos, 0) = (s, (pos + (spB s).length, 0)) := by
  unfold spW at hs
  simp only [Bool.and_eq_true, decide_eq_true_eq] at hs
  unfold spB at h ⊢
  rw [List.append_assoc] at h
  have h1 := rnum_vput (most := 1099511627776) h (by omega) (by omega)
  have h2 := rnum_vput (most := 15) (drop_more h) (by omega) (by omega)
  unfold rdSp
  simp only
  rw [h1]
  simp only
  rw [h2]
  simp only [Prod.mk.injEq, List.length_append, and_true]
  exact ⟨by obtain ⟨a, b⟩ := s; simp only [Prod.mk.injEq] at hs ⊢; omega, by omega⟩
theorem rdSps_back {c r : List UInt8} {pos : Nat} {S : List SpT} (h : c.drop pos = spsB S ++ r) (hs : ∀ s ∈ S, spW s = true) : ∀ k, k ≤ S.length → rdSps c (pos, 0) k = (S.take k, (pos + (spsB (S.take k)).length, 0))
  | 0, _ => by simp [rdSps, spsB]
  | k + 1, hk => by
    obtain ⟨s, hsk⟩ : ∃ s, S[k]? = some s := ⟨_, List.getElem?_eq_getElem (by omega)⟩
    have hsp : spsB S = spsB (S.take k) ++ (spB s ++ spsB (S.drop (k + 1))) := by
      have : S = S.take k ++ s :: S.drop (k + 1) := by
        rw [List.getElem?_eq_getElem (by omega)] at hsk
        rw [← Option.some.inj hsk, ← List.drop_eq_getElem_cons, List.take_append_drop]
      conv => lhs; rw [this]
      simp [spsB]
    rw [hsp, List.append_assoc, List.append_assoc] at h
    have h1 := rdSp_back (drop_more h) (hs s (List.mem_of_getElem? hsk))
    show ((rdSps c (pos, 0) k).1 ++ [(rdSp c (rdSps c (pos, 0) k).2).1], (rdSp c (rdSps c (pos, 0) k).2).2) = _
    rw [rdSps_back (by rw [hsp, List.append_assoc, List.append_assoc]; exact h) hs k (by omega)]
    simp only
    rw [h1, spsB_next hsk, List.take_add_one, hsk]
    simp [Nat.add_assoc]
theorem rdAc_back {c r : List UInt8} {pos : Nat} {a : AcD} (h : c.drop pos = acB a ++ r) (ha : aone a = true) : rdAc c (pos, 0) = (a, (pos + (acB a).length, 0)) := by
  obtain ⟨h1, h2, h4, h5, h6, h7, -, -⟩ := aone_wf ha
  unfold acB at h
  rw [List.append_assoc, List.append_assoc, List.append_assoc] at h
  have k1 := rnum_vput (most := 2147483648) h (by omega) (by omega)
  have h' := drop_more h
  have k2 := rsig_vput (most := 1099511627776) h' (by omega) (by omega)
  have h'' := drop_more h'
  have k3 := rnum_vput (most := 32) h'' (by omega) (by omega)
  have k4 := rdSps_back (drop_more h'') (one_spW ha) a.sp.length (Nat.le_refl _)
  have e1 : rdA1 c (pos, 0) = (a.id.toNat, (pos + (vput a.id.toNat).length, 0)) := k1
  have e2 : rdA2 c (pos, 0) = ((vturn a.bl).toNat, (pos + (vput a.id.toNat).length + (vput (vturn a.bl).toNat).length, 0)) := by unfold rdA2; rw [e1]; exact k2
  have e3 : rdA3 c (pos, 0) = (a.sp.length, (pos + (vput a.id.toNat).length + (vput (vturn a.bl).toNat).length + (vput a.sp.length).length, 0)) := by unfold rdA3; rw [e2]; exact k3
  unfold rdAc
  rw [e3]
  simp only
  rw [k4, e1, e2]
  simp only
  rw [vback_vturn a.bl (by omega) (by omega), List.take_length, Int.toNat_of_nonneg (by omega)]
  unfold acB
  simp only [List.length_append, Prod.mk.injEq, and_true, true_and]
  omega
theorem rdAcs_back {c r : List UInt8} {pos : Nat} {D : List AcD} (h : c.drop pos = D.flatMap acB ++ r) (hs : ∀ a ∈ D, aone a = true) : ∀ k, k ≤ D.length → rdAcs c (pos, 0) k = (D.take k, (pos + ((D.take k).flatMap acB).length, 0))
  | 0, _ => by simp [rdAcs]
  | k + 1, hk => by
    obtain ⟨s, hsk⟩ : ∃ s, D[k]? = some s := ⟨_, List.getElem?_eq_getElem (by omega)⟩
    have hsp : D.flatMap acB = (D.take k).flatMap acB ++ (acB s ++ (D.drop (k + 1)).flatMap acB) := by
      have : D = D.take k ++ s :: D.drop (k + 1) := by
        rw [List.getElem?_eq_getElem (by omega)] at hsk
        rw [← Option.some.inj hsk, ← List.drop_eq_getElem_cons, List.take_append_drop]
      conv => lhs; rw [this]
      simp
    rw [hsp, List.append_assoc, List.append_assoc] at h
    have h1 := rdAc_back (drop_more h) (hs s (List.mem_of_getElem? hsk))
    show ((rdAcs c (pos, 0) k).1 ++ [(rdAc c (rdAcs c (pos, 0) k).2).1], (rdAc c (rdAcs c (pos, 0) k).2).2) = _
    rw [rdAcs_back (by rw [hsp, List.append_assoc, List.append_assoc]; exact h) hs k (by omega)]
    simp only
    rw [h1, acsB_next hsk, List.take_add_one, hsk]
    simp [Nat.add_assoc]
theorem rtk_back {D : List AcD} (h : aright D = true) : rtk (rosB D) = D ∧ rtE (rosB D) = 0 := by
  obtain ⟨-, hall, hlen⟩ := aright_up h
  have h0 : (rosB D).drop 0 = vput D.length ++ D.flatMap acB := rfl
  have k1 : rtN (rosB D) = (D.length, (0 + (vput D.length).length, 0)) := rnum_vput (most := 4096) h0 (by omega) (by omega)
  have k2 := rdAcs_back (c := rosB D) (r := []) (pos := 0 + (vput D.length).length) (by rw [List.append_nil]; exact drop_more h0) hall D.length (Nat.le_refl _)
  rw [List.take_length] at k2
  have k3 : rtL (rosB D) = (D, (0 + (vput D.length).length + (D.flatMap acB).length, 0)) := by unfold rtL; rw [k1]; exact k2
  have k4 : rtD (rosB D) = 0 := by
    unfold rtD rdone
    rw [k3]
    simp only
    rw [if_neg]
    unfold rosB
    rw [List.length_append]
    omega
  have k5 : rtE (rosB D) = 0 := by
    unfold rtE
    rw [if_neg (by simp [k4]), k3, if_pos h]
  exact ⟨by unfold rtk; rw [if_pos k5, k3], k5⟩
end Go.Proofs.Ytjnbdeopoohnmaa
