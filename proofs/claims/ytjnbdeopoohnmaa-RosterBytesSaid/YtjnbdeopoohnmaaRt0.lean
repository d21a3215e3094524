/- Layer 56 (roster): the plain laws. No function of the program stands here. -/
import Derived.Test.YtjnbdeopoohnmaaBase
set_option linter.unusedSimpArgs false
namespace Go.Proofs.Ytjnbdeopoohnmaa

/-- a spell: from when, which class -/
abbrev SpT := Int × Int
def spW (s : SpT) : Bool := decide (0 ≤ s.1 ∧ s.1 ≤ 1099511627776) && decide (0 ≤ s.2 ∧ s.2 ≤ 15)
def spAt (l : List SpT) (i : Nat) : Bool := match l[i]? with
  | none => true
  | some s => spW s && (i == 0 || match l[i - 1]? with
    | none => true
    | some p => decide (p.1 < s.1) && !decide (s.2 = p.2))
def spTo (l : List SpT) (k : Nat) : Bool := (List.range k).all (spAt l)
theorem spTo_next (l : List SpT) (k : Nat) : spTo l (k + 1) = (spTo l k && spAt l k) := by simp [spTo, List.range_succ, List.all_append]
theorem spTo_no {l : List SpT} {k n : Nat} (h : spAt l k = false) (hk : k < n) : spTo l n = false := by
  unfold spTo
  rw [List.all_eq_false]
  exact ⟨k, List.mem_range.2 hk, by rw [h]; simp⟩
theorem spTo_at {l : List SpT} {n k : Nat} (h : spTo l n = true) (hk : k < n) : spAt l k = true := by
  unfold spTo at h
  rw [List.all_eq_true] at h
  exact h k (List.mem_range.2 hk)
theorem spAt0 {l : List SpT} {s : SpT} (h : l[0]? = some s) : spAt l 0 = spW s := by unfold spAt; rw [h]; simp
theorem spAtS {l : List SpT} {k : Nat} {s p : SpT} (hk : 0 < k) (h : l[k]? = some s) (h' : l[k - 1]? = some p) : spAt l k = (spW s && (decide (p.1 < s.1) && !decide (s.2 = p.2))) := by
  unfold spAt
  rw [h, h']
  have : (k == 0) = false := by simp; omega
  simp [this]

/-- an account -/
structure AcD where
  id : Int
  bl : Int
  sp : List SpT
def afirst : List SpT → Bool
  | [] => false
  | s :: _ => decide (s.1 = 0)
def aone (a : AcD) : Bool := decide (1 ≤ a.id ∧ a.id ≤ 2147483648) && (decide (-1 ≤ a.bl ∧ a.bl ≤ 1099511627776) && (decide (1 ≤ a.sp.length ∧ a.sp.length ≤ 32) && (afirst a.sp && spTo a.sp a.sp.length)))
def aAt (l : List AcD) (i : Nat) : Bool := match l[i]? with
  | none => true
  | some a => aone a && (i == 0 || match l[i - 1]? with
    | none => true
    | some p => decide (p.id < a.id))
def aTo (l : List AcD) (k : Nat) : Bool := (List.range k).all (aAt l)
def aright (l : List AcD) : Bool := aTo l l.length && decide (l.length ≤ 4096)
theorem aTo_next (l : List AcD) (k : Nat) : aTo l (k + 1) = (aTo l k && aAt l k) := by simp [aTo, List.range_succ, List.all_append]
theorem aTo_no {l : List AcD} {k n : Nat} (h : aAt l k = false) (hk : k < n) : aTo l n = false := by
  unfold aTo
  rw [List.all_eq_false]
  exact ⟨k, List.mem_range.2 hk, by rw [h]; simp⟩
theorem aTo_at {l : List AcD} {n k : Nat} (h : aTo l n = true) (hk : k < n) : aAt l k = true := by
  unfold aTo at h
  rw [List.all_eq_true] at h
  exact h k (List.mem_range.2 hk)
theorem aAt0 {l : List AcD} {a : AcD} (h : l[0]? = some a) : aAt l 0 = aone a := by unfold aAt; rw [h]; simp
theorem aAtS {l : List AcD} {k : Nat} {a p : AcD} (hk : 0 < k) (h : l[k]? = some a) (h' : l[k - 1]? = some p) : aAt l k = (aone a && decide (p.id < a.id)) := by
  unfold aAt
  rw [h, h']
  have : (k == 0) = false := by simp; omega
  simp [this]
theorem aone_wf {a : AcD} (h : aone a = true) : 1 ≤ a.id ∧ a.id ≤ 2147483648 ∧ -1 ≤ a.bl ∧ a.bl ≤ 1099511627776 ∧ 1 ≤ a.sp.length ∧ a.sp.length ≤ 32 ∧ afirst a.sp = true ∧ spTo a.sp a.sp.length = true := by
  unfold aone at h
  simp only [Bool.and_eq_true, decide_eq_true_eq] at h
  obtain ⟨⟨h1, h2⟩, ⟨h3, h4⟩, ⟨h5, h6⟩, h7, h8⟩ := h
  exact ⟨h1, h2, h3, h4, h5, h6, h7, h8⟩

/-- strictly rising in what f says -/
def Up {α : Type} (f : α → Int) (l : List α) : Prop := l.Pairwise fun x y => f x < f y
theorem up_of_steps {α : Type} (f : α → Int) (l : List α) (h : ∀ k x y, l[k]? = some x → l[k + 1]? = some y → f x < f y) : Up f l := by
  unfold Up
  induction l with
  | nil => exact List.Pairwise.nil
  | cons a l ih =>
    have hl : List.Pairwise (fun x y => f x < f y) l := ih (fun k x y h1 h2 => h (k + 1) x y (by simpa using h1) (by simpa using h2))
    refine List.Pairwise.cons ?_ hl
    intro b hb
    cases l with
    | nil => simp at hb
    | cons c l =>
      have h0 : f a < f c := h 0 a c rfl rfl
      rcases List.mem_cons.1 hb with rfl | hb
      · exact h0
      · have := (List.pairwise_cons.1 hl).1 b hb
        omega
theorem aright_up {l : List AcD} (h : aright l = true) : Up (·.id) l ∧ (∀ a ∈ l, aone a = true) ∧ l.length ≤ 4096 := by
  unfold aright at h
  simp only [Bool.and_eq_true, decide_eq_true_eq] at h
  obtain ⟨h1, h2⟩ := h
  refine ⟨up_of_steps _ _ fun k x y hx hy => ?_, fun a ha => ?_, h2⟩
  · have hk := (List.getElem?_eq_some_iff.1 hy).1
    have := aTo_at h1 hk
    rw [aAtS (by omega) hy (by simpa using hx)] at this
    simp only [Bool.and_eq_true, decide_eq_true_eq] at this
    exact this.2
  · obtain ⟨k, hk⟩ := List.getElem?_of_mem ha
    have hkl := (List.getElem?_eq_some_iff.1 hk).1
    have := aTo_at h1 hkl
    cases k with
    | zero => rwa [aAt0 hk] at this
    | succ k =>
      have h' : l[k]? = some l[k] := List.getElem?_eq_getElem (by omega)
      rw [aAtS (by omega) hk (by rw [Nat.add_sub_cancel]; exact h')] at this
      simp only [Bool.and_eq_true] at this
      exact this.1

/-- classes that follow each other once -/
def spush (acc : List SpT) (x : SpT) : List SpT := match acc.getLast? with
  | none => acc ++ [x]
  | some y => if y.2 = x.2 then acc else acc ++ [x]
def scomp (l : List SpT) : List SpT := l.foldl spush []
theorem scomp_app (l : List SpT) (x : SpT) : scomp (l ++ [x]) = spush (scomp l) x := by simp [scomp, List.foldl_append]
/-- the last that is kept has the last's class -/
theorem scomp_last : ∀ (l : List SpT) (x : SpT), l.getLast? = some x → ∃ y, (scomp l).getLast? = some y ∧ y.2 = x.2 := by
  intro l x h
  obtain ⟨m, rfl⟩ : ∃ m, l = m ++ [x] := by
    have := List.getLast?_eq_some_iff.1 h
    exact this
  rw [scomp_app]
  unfold spush
  cases hc : (scomp m).getLast? with
  | none => exact ⟨x, by simp, rfl⟩
  | some y =>
    simp only
    split
    · rename_i he; exact ⟨y, hc, he⟩
    · exact ⟨x, by simp, rfl⟩
theorem scomp_next (l : List SpT) (x y : SpT) (h : l.getLast? = some y) : scomp (l ++ [x]) = if y.2 = x.2 then scomp l else scomp l ++ [x] := by
  rw [scomp_app]
  obtain ⟨z, h1, h2⟩ := scomp_last l y h
  unfold spush
  rw [h1]
  simp only [h2]

/-- a spell put among others -/
def sput (sp : List SpT) (f c : Int) : List SpT := (sp.filter fun s => decide (s.1 < f)) ++ (f, c) :: (sp.filter fun s => decide (f < s.1))
def sset (sp : List SpT) (f c : Int) : List SpT := scomp (sput sp f c)
/-- the class at a time -/
def sclass (sp : List SpT) (t c0 : Int) : Int := sp.foldl (fun c s => if s.1 ≤ t then s.2 else c) c0
end Go.Proofs.Ytjnbdeopoohnmaa
