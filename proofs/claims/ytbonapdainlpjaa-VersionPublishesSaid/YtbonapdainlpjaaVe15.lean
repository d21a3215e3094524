/- Layer 19 (version): the statement VersionFinds, the walk. -/
import Derived.Test.YtbonapdainlpjaaVe13
import Derived.Deep.RegionLaw
import Derived.Deep.DeepCutAuto
import Derived.Deep.CutBlock
import Derived.Lib.QuietBelow
set_option linter.unusedSimpArgs false
namespace Go.Proofs.Ytbonapdainlpjaa
open Go.RowKit Go.Sort

/-- versions that are right go up -/
theorem vinc_get {last : Int} : ∀ {L : List Int}, vinc last L = true → (∀ (j : Nat) (y : Int), L[j]? = some y → last < y) ∧ ∀ (i j : Nat) (x y : Int), i < j → L[i]? = some x → L[j]? = some y → x < y
  | [], _ => ⟨fun j y h => by simp at h, fun i j x y _ h => by simp at h⟩
  | v :: r, h => by
    unfold vinc at h
    simp only [Bool.and_eq_true, decide_eq_true_eq] at h
    obtain ⟨h1, h2, h3⟩ := h
    obtain ⟨k1, k2⟩ := vinc_get h3
    refine ⟨fun j y hj => ?_, fun i j x y hij hi hj => ?_⟩
    · cases j with
      | zero => simp at hj; omega
      | succ j => have := k1 j y (by simpa using hj); omega
    · cases j with
      | zero => omega
      | succ j =>
        cases i with
        | zero => simp at hi; subst hi; exact k1 j y (by simpa using hj)
        | succ i => exact k2 i j x y (by omega) (by simpa using hi) (by simpa using hj)

/-- what is published has no version twice -/
theorem pub_inj {l : List NetX} {x : NetX} (h : pubE l x.1 = 0) : ∀ (i j : Nat) (a b : NetX), (l ++ [x])[i]? = some a → (l ++ [x])[j]? = some b → a.1.ver = b.1.ver → i = j := by
  unfold pubE at h
  have h0 : netE x.1 = 0 := by
    by_cases hc : netE x.1 = 0
    · exact hc
    · rw [if_pos hc] at h
      exact absurd h hc
  rw [if_neg (by simpa using h0)] at h
  have h1 : ¬ (vright (vers l) = false ∨ vLate l x.1.ver = true) := fun hc => by rw [if_pos hc] at h; exact absurd h (by decide)
  have hr : vinc 0 (vers l) = true := by
    cases hv : vright (vers l) with
    | false => exact absurd (.inl hv) h1
    | true => unfold vright at hv; simp only [Bool.and_eq_true] at hv; exact hv.2
  have hlate : vLate l x.1.ver = false := by
    cases hv : vLate l x.1.ver with
    | true => exact absurd (.inr hv) h1
    | false => rfl
  obtain ⟨-, hup⟩ := vinc_get hr
  have hup' : ∀ (i j : Nat) (a b : NetX), i < j → l[i]? = some a → l[j]? = some b → a.1.ver < b.1.ver := fun i j a b hij ha hb =>
    hup i j _ _ hij (by unfold vers; rw [List.getElem?_map, ha]; rfl) (by unfold vers; rw [List.getElem?_map, hb]; rfl)
  have hlast : ∀ (i : Nat) (a : NetX), l[i]? = some a → a.1.ver < x.1.ver := by
    intro i a ha
    have hi : i < l.length := (List.getElem?_eq_some_iff.1 ha).1
    obtain ⟨z, hz⟩ : ∃ z, l[l.length - 1]? = some z := ⟨_, List.getElem?_eq_getElem (by omega)⟩
    have hzx : z.1.ver < x.1.ver := by
      unfold vLate at hlate
      rw [hz] at hlate
      simpa using hlate
    by_cases he : i = l.length - 1
    · subst he
      rw [hz] at ha
      cases ha
      exact hzx
    · have := hup' i _ a z (by omega) ha hz
      omega
  have key : ∀ (i j : Nat) (a b : NetX), i < j → (l ++ [x])[i]? = some a → (l ++ [x])[j]? = some b → a.1.ver < b.1.ver := by
    intro i j a b hij ha hb
    have hj := (List.getElem?_eq_some_iff.1 hb).1
    simp at hj
    rw [List.getElem?_append_left (by omega)] at ha
    by_cases hjl : j < l.length
    · rw [List.getElem?_append_left hjl] at hb
      exact hup' i j a b hij ha hb
    · obtain rfl : j = l.length := by omega
      rw [List.getElem?_append_right (by omega)] at hb
      simp at hb
      subst hb
      exact hlast i a ha
  intro i j a b ha hb he
  rcases Nat.lt_trichotomy i j with h | h | h
  · have := key i j a b h ha hb; omega
  · exact h
  · have := key j i b a h hb ha; omega

/-- a network's own block -/
def NB (w : World) (q : Nat) (x : NetX) : Prop := w.heap[q]? = some (.cells #[.int .i64 x.1.ver, Sl3.v x.2.1, Sl3.v x.2.2] 95 (0, 0))
theorem NB.below {w w' : World} {q : Nat} {x : NetX} (h : NB w q x) (hb : Below w.heap.size w w') : NB w' q x := (hb.block q (heap_lt h)).trans h
theorem NB.cells {w : World} {q : Nat} {x : NetX} (h : NB w q x) : w.cell? ⟨q, 0, none⟩ = some (.int .i64 x.1.ver) ∧ w.cell? ⟨q, 1, none⟩ = some (Sl3.v x.2.1) ∧ w.cell? ⟨q, 2, none⟩ = some (Sl3.v x.2.2) := net_cells h
theorem NB.new (w : World) (x : NetX) : NB (w.alloc (.cells #[.int .i64 x.1.ver, Sl3.v x.2.1, Sl3.v x.2.2] 95)) w.heap.size x := heap_alloc_new _ _

/-- what Find answers, as the walk uses it -/
def Fnd (l : List NetX) (z : Int) (ok : Bool) (x : NetX) : Prop := (∀ (k : Nat) (y : NetX), vnone l z k → l[k]? = some y → y.1.ver = z → ok = true ∧ x = y) ∧ (vnone l z l.length → ok = false)
theorem FindPost.fnd {l : List NetX} {z : Int} {w : World} {e : Ending} {w' : World} (h : FindPost l z w e w') : ∃ ok x, e = .returned (.tuple #[x.agg, .bool ok]) ∧ Fnd l z ok x ∧ Below w.heap.size w w' := by
  obtain ⟨h | ⟨hn, he⟩, hb⟩ := h
  · obtain ⟨k, x, hk, hx, hv, he⟩ := h
    refine ⟨true, x, he, ⟨fun j y hj hy hyv => ?_, fun hn => absurd hv (hn k x (List.getElem?_eq_some_iff.1 hx).1 hx)⟩, hb⟩
    rcases Nat.lt_trichotomy j k with h | rfl | h
    · exact absurd hyv (hk j y h hy)
    · rw [hx] at hy; cases hy; exact ⟨rfl, rfl⟩
    · exact absurd hv (hj k x h hx)
  · refine ⟨false, netZero, he, ⟨fun j y hj hy hyv => absurd hyv (hn j y (List.getElem?_eq_some_iff.1 hy).1 hy), fun _ => rfl⟩, hb⟩

end Go.Proofs.Ytbonapdainlpjaa
