/- Opening an argument that is a list of lists of bytes. -/
import Derived.Test.YtmhgdddnjnichaaDoorFrame
import Derived.Test.YtmhgdddnjnichaaDoorHmT
import Derived.ChangeMaps5
namespace Go.Proofs.YtmhgdddnjnichaaDoor
open Go.ChangeShapes Go.WideShapes Go.ChangeAt Go.RowKit Go.Deep

section
variable {H : Type} {enc : TypeId × Value → H} {P : Program} {w : World} {b0 : Nat} {r : Reach}

theorem bytes_of_trod1 {t e : TypeId} (ht : P.underlying t = some (.slice e)) (he : P.underlying e = some (.int .u8)) (hcells : P.cellsOf e = 1) {m : Nat} {cs : List Value} {y : DataW H × List MemPlace}
    (hf : DataW.trod enc P w 0 (fun _ => true) true m t cs = some y) : ∃ v l, cs = [v] ∧ Bs w v l := by
  rcases open_ints ht he hcells hf with ⟨hcs, _⟩ | ⟨x, l, c, zs, hcs, _, hl, hm, hz, _, hcell, hwz⟩
  · exact ⟨_, [], hcs, Rd.nil _ _⟩
  · obtain ⟨l', _, h⟩ := bs_of_row hl hm (by simpa using hz) rfl hcell hwz
    exact ⟨_, l', hcs, h⟩

theorem view_bytess {t e u : TypeId} (ht : P.underlying t = some (.slice e)) (he : P.underlying e = some (.slice u)) (hu : P.underlying u = some (.int .u8)) (hcu : P.cellsOf u = 1) (hce : P.cellsOf e = 1) {v : Value} {d : DataW H} {ps : List MemPlace}
    (hval : Value.okWide P w r b0 t v) (hd : DataW.Trod enc P w 0 (fun _ => true) true t v d ps) : ∃ x : List Value × List (List UInt8), Bss w v x := by
  obtain ⟨n, m, C, hrd, hC⟩ := view_rows ht hce (by omega) hval hd
  have key : ∀ i, i < n → ∃ s : Value × List UInt8, C i = [s.1] ∧ Bs w s.1 s.2 := by
    intro i hi
    obtain ⟨hl, y, hy⟩ := hC i hi
    obtain ⟨v, l, h1, h2⟩ := bytes_of_trod1 he hu hcu hy
    exact ⟨⟨v, l⟩, h1, h2⟩
  haveI : Inhabited (Value × List UInt8) := ⟨⟨default, []⟩⟩
  obtain ⟨S, hS⟩ := choose_lt key
  refine ⟨((List.range n).map fun i => (S i).1, (List.range n).map fun i => (S i).2), by simp, ?_, ?_⟩
  · have e : (List.range n).flatMap C = (List.range n).map fun i => (S i).1 := by
      have : ∀ (L : List Nat), (∀ i ∈ L, i < n) → L.flatMap C = L.map fun i => (S i).1 := by
        intro L
        induction L with
        | nil => intro _; rfl
        | cons i L ih =>
          intro h
          simp only [List.flatMap_cons, List.map_cons]
          rw [(hS i (h i (by simp))).1, ih fun j hj => h j (by simp [hj])]
          rfl
      exact this _ fun i hi => by simpa using hi
    rw [e] at hrd
    show Rd w 1 v ((List.range n).map fun i => (S i).1).length _
    rw [List.length_map, List.length_range]
    exact hrd
  · intro i u l h1 h2
    by_cases hi : i < n
    · simp only [List.getElem?_map, List.getElem?_range hi, Option.map_some, Option.some.injEq] at h1 h2
      subst h1 h2
      exact (hS i hi).2
    · simp only [List.getElem?_map] at h1
      rw [List.getElem?_eq_none (by simpa using hi)] at h1
      simp at h1
end

end Go.Proofs.YtmhgdddnjnichaaDoor
