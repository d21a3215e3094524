/- Layer 56 (roster): what Set leaves: plain laws for RosterFits. -/
import Derived.Test.YtjnbdeopoohnmaaRt22
import Derived.Test.YtjnbdeopoohnmaaRt9
import Derived.Test.YtjnbdeopoohnmaaRt20
set_option linter.unusedSimpArgs false
namespace Go.Proofs.Ytjnbdeopoohnmaa
open Go.RowKit Go.Sort

/-- steps rise, and no class follows itself -/
def Adj (l : List SpT) : Prop := ∀ (k : Nat) (x y : SpT), l[k]? = some x → l[k + 1]? = some y → x.1 < y.1 ∧ x.2 ≠ y.2
theorem spTo_of {l : List SpT} (hw : ∀ s ∈ l, spW s = true) (hs : Adj l) : spTo l l.length = true := by
  unfold spTo
  rw [List.all_eq_true]
  intro k hk
  have hkl := List.mem_range.1 hk
  cases k with
  | zero =>
    rw [spAt0 (List.getElem?_eq_getElem hkl)]
    exact hw _ (List.getElem_mem _)
  | succ k =>
    have h1 : l[k]? = some l[k] := List.getElem?_eq_getElem (by omega)
    have h2 : l[k + 1]? = some l[k + 1] := List.getElem?_eq_getElem hkl
    rw [spAtS (by omega) h2 (by rw [Nat.add_sub_cancel]; exact h1), hw _ (List.getElem_mem _)]
    obtain ⟨h3, h4⟩ := hs k _ _ h1 h2
    have h5 : ¬ l[k + 1].2 = l[k].2 := fun e => h4 e.symm
    simp [h3, h5]
theorem adj_snoc {acc : List SpT} {x : SpT} (h : Adj acc) (hx : ∀ y, acc.getLast? = some y → y.1 < x.1 ∧ y.2 ≠ x.2) : Adj (acc ++ [x]) := by
  intro k a b ha hb
  have hbl := (List.getElem?_eq_some_iff.1 hb).1
  rw [List.length_append, List.length_singleton] at hbl
  rw [List.getElem?_append_left (by omega)] at ha
  by_cases hk : k + 1 < acc.length
  · rw [List.getElem?_append_left hk] at hb
    exact h k a b ha hb
  · have hke : k + 1 = acc.length := by omega
    rw [List.getElem?_append_right (by omega), hke, Nat.sub_self] at hb
    simp at hb
    subst hb
    refine hx a ?_
    rw [List.getLast?_eq_getElem?, ← hke, Nat.add_sub_cancel]
    exact ha
theorem scomp_adj {l : List SpT} (h : l.Pairwise fun x y => x.1 < y.1) : Adj (scomp l) := by
  have key : ∀ (l acc : List SpT), Adj acc → (∀ y ∈ acc, ∀ x ∈ l, y.1 < x.1) → (l.Pairwise fun x y => x.1 < y.1) → Adj (l.foldl spush acc) := by
    intro l
    induction l with
    | nil => intro acc h _ _; exact h
    | cons x r ih =>
      intro acc h1 h2 h3
      obtain ⟨h4, h5⟩ := List.pairwise_cons.1 h3
      refine ih (spush acc x) ?_ (fun y hy z hz => ?_) h5
      · unfold spush
        cases hc : acc.getLast? with
        | none => exact adj_snoc h1 (fun y hy => by rw [hc] at hy; cases hy)
        | some y =>
          simp only
          split
          · exact h1
          · rename_i hne
            exact adj_snoc h1 (fun z hz => by rw [hc] at hz; cases hz; exact ⟨h2 y (List.mem_of_getLast? hc) x (by simp), hne⟩)
      · rcases spush_sub hy with hy | rfl
        · exact h2 y hy z (by simp [hz])
        · exact h4 z hz
  exact key l [] (fun k x y h => by simp at h) (fun y hy => by cases hy) h
theorem scomp_head (x : SpT) (r : List SpT) : ∃ t, scomp (x :: r) = x :: t := by
  have key : ∀ (r t : List SpT), ∃ t', r.foldl spush (x :: t) = x :: t' := by
    intro r
    induction r with
    | nil => intro t; exact ⟨t, rfl⟩
    | cons y r ih =>
      intro t
      have : ∃ t', spush (x :: t) y = x :: t' := by
        unfold spush
        split
        · exact ⟨t ++ [y], rfl⟩
        · split
          · exact ⟨t, rfl⟩
          · exact ⟨t ++ [y], rfl⟩
      obtain ⟨t', ht'⟩ := this
      rw [List.foldl_cons, ht']
      exact ih t'
  exact key r []
theorem sput_sorted {sp : List SpT} {f c : Int} (h : sp.Pairwise fun x y => x.1 < y.1) : (sput sp f c).Pairwise fun x y => x.1 < y.1 := by
  unfold sput
  rw [List.pairwise_append]
  refine ⟨h.filter _, List.pairwise_cons.2 ⟨fun y hy => of_decide_eq_true (List.mem_filter.1 hy).2, h.filter _⟩, fun a ha b hb => ?_⟩
  have h1 : a.1 < f := of_decide_eq_true (List.mem_filter.1 ha).2
  rcases List.mem_cons.1 hb with rfl | hb
  · exact h1
  · have h2 : f < b.1 := of_decide_eq_true (List.mem_filter.1 hb).2
    omega
theorem sset_one {a : AcD} {f c : Int} (h : aone a = true) (hf : 0 ≤ f ∧ f ≤ 1099511627776) (hc : 0 ≤ c ∧ c ≤ 15) (hl : (sset a.sp f c).length ≤ 32) : aone (setF f c a) = true := by
  have hup := aone_up h
  obtain ⟨h1, h2, h3, h4, h5, h6, h7, h8⟩ := aone_wf h
  have hw : ∀ s ∈ sset a.sp f c, spW s = true := fun s hs => by
    rcases sset_sub hs with hs | rfl
    · obtain ⟨k, hk⟩ := List.getElem?_of_mem hs
      have hkl := (List.getElem?_eq_some_iff.1 hk).1
      have h9 := spTo_at h8 hkl
      unfold spAt at h9
      rw [hk] at h9
      simp only [Bool.and_eq_true] at h9
      exact h9.1
    · simp [spW, hf, hc]
  have hto := spTo_of hw (scomp_adj (sput_sorted hup))
  have hfirst : afirst (sset a.sp f c) = true ∧ 1 ≤ (sset a.sp f c).length := by
    obtain ⟨x, r, hx⟩ : ∃ x r, sput a.sp f c = x :: r ∧ x.1 = 0 := by
      cases hsp : a.sp with
      | nil => rw [hsp] at h5; simp at h5
      | cons y r =>
        rw [hsp] at h7 hup
        have hy0 : y.1 = 0 := of_decide_eq_true h7
        by_cases hf0 : f = 0
        · refine ⟨(f, c), (y :: r).filter (fun s => decide (f < s.1)), ?_, hf0⟩
          unfold sput
          rw [List.filter_eq_nil_iff.2 (fun z hz => ?_), List.nil_append]
          rcases List.mem_cons.1 hz with rfl | hz
          · simp; omega
          · have := (List.pairwise_cons.1 hup).1 z hz
            simp; omega
        · refine ⟨y, (r.filter fun s => decide (s.1 < f)) ++ (f, c) :: ((y :: r).filter fun s => decide (f < s.1)), ?_, hy0⟩
          unfold sput
          rw [List.filter_cons, if_pos (by simp; omega), List.cons_append]
    obtain ⟨t, ht⟩ := scomp_head x r
    unfold sset
    rw [hx.1, ht]
    exact ⟨decide_eq_true hx.2, by simp⟩
  unfold setF aone
  simp only [Bool.and_eq_true, decide_eq_true_eq]
  exact ⟨⟨h1, h2⟩, ⟨h3, h4⟩, ⟨hfirst.2, hl⟩, hfirst.1, hto⟩

/-- classes at a time -/
theorem sclass_app (A B : List SpT) (t c0 : Int) : sclass (A ++ B) t c0 = sclass B t (sclass A t c0) := by simp [sclass, List.foldl_append]
theorem sclass_cons (x : SpT) (B : List SpT) (t c0 : Int) : sclass (x :: B) t c0 = sclass B t (if x.1 ≤ t then x.2 else c0) := rfl
theorem sclass_late : ∀ {B : List SpT} {t c0 : Int}, (∀ s ∈ B, t < s.1) → sclass B t c0 = c0
  | [], _, _, _ => rfl
  | x :: B, t, c0, h => by
    have h1 := h x (by simp)
    rw [sclass_cons, if_neg (by omega)]
    exact sclass_late fun s hs => h s (by simp [hs])
theorem sclass_any : ∀ {B : List SpT} {t : Int} {s : SpT}, s ∈ B → s.1 ≤ t → ∀ x y, sclass B t x = sclass B t y
  | b :: B, t, s, hs, ht, x, y => by
    rw [sclass_cons, sclass_cons]
    rcases List.mem_cons.1 hs with rfl | hs
    · rw [if_pos ht, if_pos ht]
    · exact sclass_any hs ht _ _
theorem sclass_scomp {l : List SpT} (h : l.Pairwise fun x y => x.1 < y.1) (t c0 : Int) : sclass (scomp l) t c0 = sclass l t c0 := by
  have key : ∀ (l acc : List SpT), (∀ y ∈ acc, ∀ x ∈ l, y.1 < x.1) → (l.Pairwise fun x y => x.1 < y.1) → sclass (l.foldl spush acc) t c0 = sclass (acc ++ l) t c0 := by
    intro l
    induction l with
    | nil => intro acc _ _; simp
    | cons x r ih =>
      intro acc h2 h3
      obtain ⟨h4, h5⟩ := List.pairwise_cons.1 h3
      rw [List.foldl_cons, ih (spush acc x) (fun y hy z hz => by
        rcases spush_sub hy with hy | rfl
        · exact h2 y hy z (by simp [hz])
        · exact h4 z hz) h5]
      unfold spush
      cases hc : acc.getLast? with
      | none => simp
      | some y =>
        simp only
        split
        · rename_i he
          obtain ⟨m, rfl⟩ := List.getLast?_eq_some_iff.1 hc
          have hyx := h2 y (by simp) x (by simp)
          rw [sclass_app (m ++ [y]) r, sclass_app (m ++ [y]) (x :: r), sclass_cons]
          congr 1
          rw [sclass_app m [y]]
          show (if y.1 ≤ t then y.2 else sclass m t c0) = if x.1 ≤ t then x.2 else (if y.1 ≤ t then y.2 else sclass m t c0)
          by_cases hx : x.1 ≤ t
          · rw [if_pos (by omega), if_pos hx, he]
          · rw [if_neg hx]
        · simp
  exact key l [] (fun y hy => by cases hy) h

/-- the next beginning behind f -/
def emin (sp : List SpT) (f : Int) : Int := sp.foldl (fun e s => if f < s.1 then min e s.1 else e) 1099511627777
theorem emin_next {sp : List SpT} {k : Nat} {s : SpT} (h : sp[k]? = some s) (f : Int) : emin (sp.take (k + 1)) f = if f < s.1 then min (emin (sp.take k) f) s.1 else emin (sp.take k) f := by
  rw [take_next h]
  simp [emin, List.foldl_append]
theorem emin_le {sp : List SpT} {f : Int} : emin sp f ≤ 1099511627777 ∧ ∀ s ∈ sp, f < s.1 → emin sp f ≤ s.1 := by
  have key : ∀ (l : List SpT) (e : Int), l.foldl (fun e s => if f < s.1 then min e s.1 else e) e ≤ e ∧ ∀ s ∈ l, f < s.1 → l.foldl (fun e s => if f < s.1 then min e s.1 else e) e ≤ s.1 := by
    intro l
    induction l with
    | nil => intro e; exact ⟨Int.le_refl _, fun s hs => by cases hs⟩
    | cons x r ih =>
      intro e
      obtain ⟨h1, h2⟩ := ih (if f < x.1 then min e x.1 else e)
      rw [List.foldl_cons]
      refine ⟨Int.le_trans h1 (by split <;> omega), fun s hs hf => ?_⟩
      rcases List.mem_cons.1 hs with rfl | hs
      · rw [if_pos hf] at h1 ⊢
        exact Int.le_trans h1 (by omega)
      · exact h2 s hs hf
  exact key sp _
theorem emin_is {sp : List SpT} {f : Int} : emin sp f = 1099511627777 ∨ ∃ s ∈ sp, f < s.1 ∧ s.1 = emin sp f := by
  have key : ∀ (l : List SpT) (e : Int), l.foldl (fun e s => if f < s.1 then min e s.1 else e) e = e ∨ ∃ s ∈ l, f < s.1 ∧ s.1 = l.foldl (fun e s => if f < s.1 then min e s.1 else e) e := by
    intro l
    induction l with
    | nil => intro e; exact .inl rfl
    | cons x r ih =>
      intro e
      rw [List.foldl_cons]
      rcases ih (if f < x.1 then min e x.1 else e) with h | ⟨s, hs, h1, h2⟩
      · rw [h]
        by_cases hx : f < x.1
        · rw [if_pos hx]
          by_cases hm : e ≤ x.1
          · exact .inl (by omega)
          · exact .inr ⟨x, by simp, hx, by omega⟩
        · rw [if_neg hx]; exact .inl rfl
      · exact .inr ⟨s, by simp [hs], h1, h2⟩
  exact key sp _

theorem sclass_sset {sp : List SpT} {f c t : Int} (h : sp.Pairwise fun x y => x.1 < y.1) (ht : t ≤ 1099511627776) : sclass (sset sp f c) t 0 = if f ≤ t ∧ t < emin sp f then c else sclass sp t 0 := by
  unfold sset
  rw [sclass_scomp (sput_sorted h)]
  unfold sput
  rw [sclass_app, sclass_cons]
  obtain ⟨A, hA⟩ : ∃ A, sp.filter (fun s => decide (s.1 < f)) = A := ⟨_, rfl⟩
  obtain ⟨B, hB⟩ : ∃ B, sp.filter (fun s => decide (f < s.1)) = B := ⟨_, rfl⟩
  rw [hA, hB]
  have hBm : ∀ s, s ∈ B ↔ s ∈ sp ∧ f < s.1 := fun s => by rw [← hB, List.mem_filter]; simp
  by_cases hft : f ≤ t
  · rw [if_pos hft]
    by_cases hte : t < emin sp f
    · rw [if_pos ⟨hft, hte⟩]
      exact sclass_late fun s hs => by
        have := (hBm s).1 hs
        have := emin_le.2 s this.1 this.2
        omega
    · rw [if_neg (fun e => hte e.2)]
      obtain ⟨s0, h1, h2, h3⟩ : ∃ s ∈ sp, f < s.1 ∧ s.1 = emin sp f := by
        rcases emin_is (sp := sp) (f := f) with h1 | h1
        · omega
        · exact h1
      have h4 : s0.1 ≤ t := by omega
      -- sp is what is at f or before, and B
      have hsp : ∀ (l : List SpT), (l.Pairwise fun x y => x.1 < y.1) → ∃ C, l = C ++ l.filter (fun s => decide (f < s.1)) := by
        intro l
        induction l with
        | nil => intro _; exact ⟨[], rfl⟩
        | cons x r ih =>
          intro hp
          obtain ⟨h5, h6⟩ := List.pairwise_cons.1 hp
          by_cases hx : f < x.1
          · refine ⟨[], ?_⟩
            rw [List.nil_append, List.filter_eq_self.2]
            intro y hy
            rcases List.mem_cons.1 hy with rfl | hy
            · simpa using hx
            · have := h5 y hy
              simp; omega
          · obtain ⟨C, hC⟩ := ih h6
            refine ⟨x :: C, ?_⟩
            rw [List.filter_cons, if_neg (by simpa using hx), List.cons_append, ← hC]
      obtain ⟨C, hC⟩ := hsp sp h
      rw [hB] at hC
      conv => rhs; rw [hC, sclass_app]
      exact sclass_any ((hBm s0).2 ⟨h1, h2⟩) h4 _ _
  · rw [if_neg hft, if_neg (fun e => hft e.1)]
    rw [sclass_late fun s hs => by have := (hBm s).1 hs; omega, ← hA]
    have key : ∀ (l : List SpT) (c0 : Int), sclass (l.filter fun s => decide (s.1 < f)) t c0 = sclass l t c0 := by
      intro l
      induction l with
      | nil => intro _; rfl
      | cons x r ih =>
        intro c0
        rw [List.filter_cons, sclass_cons]
        by_cases hx : x.1 < f
        · rw [if_pos (by simpa using hx), sclass_cons, ih]
        · rw [if_neg (by simpa using hx), ih, if_neg (by omega)]
    exact key sp 0

/-- another account in the place of one of the same number -/
theorem aright_set {D : List AcD} {i : Nat} {a b : AcD} (h : aright D = true) (ha : D[i]? = some a) (hid : b.id = a.id) (hb : aone b = true) : aright (D.set i b) = true := by
  obtain ⟨hup, hall, hlen⟩ := aright_up h
  have hil := (List.getElem?_eq_some_iff.1 ha).1
  unfold aright
  rw [Bool.and_eq_true]
  refine ⟨?_, by rw [List.length_set]; exact decide_eq_true hlen⟩
  unfold aTo
  rw [List.all_eq_true]
  intro k hk
  have hkl : k < D.length := by have := List.mem_range.1 hk; rwa [List.length_set] at this
  have hget : ∀ j, j < D.length → ∃ x, (D.set i b)[j]? = some x ∧ aone x = true ∧ ∀ y, D[j]? = some y → x.id = y.id := fun j hj => by
    by_cases hji : j = i
    · subst hji
      exact ⟨b, List.getElem?_set_self hj, hb, fun y hy => by rw [ha] at hy; cases hy; exact hid⟩
    · refine ⟨D[j], by rw [List.getElem?_set_ne (fun e => hji e.symm), List.getElem?_eq_getElem hj], hall _ (List.getElem_mem _), fun y hy => ?_⟩
      rw [List.getElem?_eq_getElem hj] at hy
      rw [Option.some.inj hy]
  obtain ⟨x, hx, hxo, hxi⟩ := hget k hkl
  cases k with
  | zero => rw [aAt0 hx]; exact hxo
  | succ k =>
    obtain ⟨y, hy, -, hyi⟩ := hget k (by omega)
    rw [aAtS (by omega) hx (by rw [Nat.add_sub_cancel]; exact hy), hxo]
    have h1 := List.pairwise_iff_getElem.1 hup k (k + 1) (by omega) hkl (by omega)
    rw [hxi _ (List.getElem?_eq_getElem hkl), hyi _ (List.getElem?_eq_getElem (by omega))]
    simpa using h1
/-- in a roster that is right the number tells the place -/
theorem up_place {D : List AcD} {i j : Nat} {a b : AcD} (h : aright D = true) (ha : D[i]? = some a) (hb : D[j]? = some b) (he : a.id = b.id) : i = j := by
  obtain ⟨hup, -, -⟩ := aright_up h
  have hi := (List.getElem?_eq_some_iff.1 ha).1
  have hj := (List.getElem?_eq_some_iff.1 hb).1
  rw [List.getElem?_eq_getElem hi] at ha
  rw [List.getElem?_eq_getElem hj] at hb
  rcases Nat.lt_trichotomy i j with h1 | h1 | h1
  · have := List.pairwise_iff_getElem.1 hup i j hi hj h1
    rw [Option.some.inj ha, Option.some.inj hb] at this
    have h2 : _ < _ := this
    simp only at h2
    omega
  · exact h1
  · have := List.pairwise_iff_getElem.1 hup j i hj hi h1
    rw [Option.some.inj ha, Option.some.inj hb] at this
    have h2 : _ < _ := this
    simp only at h2
    omega
theorem aix_place {D : List AcD} {i : Nat} {a : AcD} (h : aright D = true) (ha : D[i]? = some a) : aix D a.id = i :=
  aix_some ha rfl fun j b hj hb he => by have := up_place h ha hb he.symm; omega
end Go.Proofs.Ytjnbdeopoohnmaa
