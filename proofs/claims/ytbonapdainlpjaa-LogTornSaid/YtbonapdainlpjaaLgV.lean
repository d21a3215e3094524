/- Layer 35 (log): the view of a list of records (the same as in Lg17R, without the row). -/
import Derived.Test.YtbonapdainlpjaaLg1
import Derived.Test.YtbonapdainlpjaaFrame
import Derived.ChangeMaps5
namespace Go.Proofs.Ytbonapdainlpjaa
open Go.ChangeShapes Go.WideShapes Go.ChangeAt Go.RowKit Go.Deep Go.Sort

section
variable {H : Type} {enc : TypeId × Value → H} {P : Program} {w : World} {b0 : Nat} {r : Reach}
theorem bytes_of_trod1 {t e : TypeId} (ht : P.underlying t = some (.slice e)) (he : P.underlying e = some (.int .u8)) (hcells : P.cellsOf e = 1) {m : Nat} {cs : List Value} {y : DataW H × List MemPlace}
    (hf : DataW.trod enc P w 0 (fun _ => true) true m t cs = some y) : ∃ v l, cs = [v] ∧ Bs w v l := by
  rcases open_ints ht he hcells hf with ⟨hcs, _⟩ | ⟨x, l, c, zs, hcs, _, hl, hm, hz, _, hcell, hwz⟩
  · exact ⟨_, [], hcs, Rd.nil _ _⟩
  · obtain ⟨l', _, h⟩ := bs_of_row hl hm (by simpa using hz) rfl hcell hwz
    exact ⟨_, l', hcs, h⟩

theorem choose_rc {n : Nat} {p : Nat → Rc → Prop} (h : ∀ i, i < n → ∃ s, p i s) : ∃ f : Nat → Rc, ∀ i, i < n → p i (f i) := by
  classical
  refine ⟨fun i => if hi : i < n then (h i hi).choose else ((none, 0, 0), []), fun i hi => ?_⟩
  simp only [hi, dite_true]
  exact (h i hi).choose_spec

theorem view_rcs {t e u : TypeId} (ht : P.underlying t = some (.slice e)) (he : P.underlying e = some (.slice u)) (hu : P.underlying u = some (.int .u8)) (hcu : P.cellsOf u = 1) (hce : P.cellsOf e = 1) {v : Value} {d : DataW H} {ps : List MemPlace}
    (hval : Value.okWide P w r b0 t v) (hd : DataW.Trod enc P w 0 (fun _ => true) true t v d ps) : ∃ x : List Rc, Rcs w v x := by
  obtain ⟨n, m, C, hrd, hC⟩ := view_rows ht hce (by omega) hval hd
  have key : ∀ i, i < n → ∃ s : Rc, C i = [s.v] ∧ Bs w s.v s.2 := by
    intro i hi
    obtain ⟨hl, y, hy⟩ := hC i hi
    obtain ⟨v, l, h1, h2⟩ := bytes_of_trod1 he hu hcu hy
    obtain ⟨a, c, rfl⟩ := h2.shape
    exact ⟨((a, l.length, c), l), h1, h2⟩
  obtain ⟨S, hS⟩ := choose_rc key
  refine ⟨(List.range n).map S, ?_, fun p hp => ?_⟩
  · have e : (List.range n).flatMap C = gcells csP ((List.range n).map S) := by
      have : ∀ (L : List Nat), (∀ i ∈ L, i < n) → L.flatMap C = gcells csP (L.map S) := by
        intro L
        induction L with
        | nil => intro _; rfl
        | cons i L ih =>
          intro h
          simp only [List.flatMap_cons, List.map_cons, gcells]
          rw [(hS i (h i (by simp))).1, ih fun j hj => h j (by simp [hj])]
          rfl
      exact this _ fun i hi => by simpa using hi
    rw [e] at hrd
    unfold Gs
    rw [List.length_map, List.length_range]
    exact hrd
  · obtain ⟨i, hi, rfl⟩ := List.mem_map.1 hp
    exact (hS i (by simpa using hi)).2
end

end Go.Proofs.Ytbonapdainlpjaa
