/- Opening the statement's fields (layer 3) as arguments. -/
import Derived.Test.YtbonapdainlpjaaFrame
import Derived.Test.YtbonapdainlpjaaBo0
import Derived.Lib.SmallJoins
namespace Go.Proofs.Ytbonapdainlpjaa
open Go.ChangeShapes Go.WideShapes Go.ChangeAt Go.RowKit Go.Deep Go.Joins

section
variable {H : Type} {enc : TypeId × Value → H} {P : Program} {w : World} {b0 : Nat} {r : Reach}

theorem bytes_of_trod {t e : TypeId} (ht : P.underlying t = some (.slice e)) (he : P.underlying e = some (.int .u8)) (hcells : P.cellsOf e = 1) {m : Nat} {cs : List Value} {y : DataW H × List MemPlace}
    (hf : DataW.trod enc P w 0 (fun _ => true) true m t cs = some y) : ∃ v l, cs = [v] ∧ Bs w v l := by
  rcases open_ints ht he hcells hf with ⟨hcs, _⟩ | ⟨x, l, c, zs, hcs, _, hl, hm, hz, _, hcell, hwz⟩
  · exact ⟨_, [], hcs, Rd.nil _ _⟩
  · obtain ⟨l', _, h⟩ := bs_of_row hl hm (by simpa using hz) rfl hcell hwz
    exact ⟨_, l', hcs, h⟩
end

set_option maxRecDepth 100000 in
theorem view_bops {H : Type} {enc : TypeId × Value → H} {w : World} {b0 : Nat} {r : Reach} {v : Value} {d : DataW H} {ps : List MemPlace}
    (hval : Value.okWide Try.prog w r b0 36 v) (hd : DataW.Trod enc Try.prog w 0 (fun _ => true) true 36 v d ps) : ∃ l : List BOp, Bos w v l := by
  obtain ⟨n, m, C, hrd, hC⟩ := view_rows Try.underlying36 (s := 4) (by kernel_rfl) (by omega) hval hd
  have key : ∀ i, i < n → ∃ s : BOp, C i = s.cells ∧ Bs w s.v s.b ∧ BoWf s := by
    intro i hi
    obtain ⟨hl, y, hy⟩ := hC i hi
    obtain ⟨y0, y1, y2, y3, k, _, hl', e0, e1, e2, e3⟩ := trod_struct4 Try.underlying45 hy
    generalize C i = cs at *
    match cs, hl with
    | [a, b, c, d], _ =>
      have hc1 : Try.prog.cellsOf 3 = 1 := by kernel_rfl
      have hc2 : Try.prog.cellsOf 43 = 1 := by kernel_rfl
      simp only at e0 e1 e2 e3
      rw [hc1] at e0 e1 e2
      rw [hc2] at e3
      obtain ⟨z0, g0, _, k0⟩ := DataW.trod_int Try.underlying3 e0
      obtain ⟨z1, g1, _, k1⟩ := DataW.trod_int Try.underlying3 e1
      obtain ⟨z2, g2, _, k2⟩ := DataW.trod_int Try.underlying3 e2
      obtain ⟨v, l, g3, k3⟩ := bytes_of_trod Try.underlying43 Try.underlying5 (by kernel_rfl) e3
      simp at g0 g1 g2 g3
      subst g0 g1 g2 g3
      exact ⟨⟨z0, z1, z2, d, l⟩, rfl, k3, wf_i64 k0, wf_i64 k1, wf_i64 k2⟩
  haveI : Inhabited BOp := ⟨⟨0, 0, 0, default, []⟩⟩
  obtain ⟨S, hS⟩ := choose_lt key
  refine ⟨(List.range n).map S, ?_, ?_⟩
  · have e : (List.range n).flatMap C = bocells ((List.range n).map S) := by
      unfold bocells
      rw [List.flatMap_map]
      have : ∀ (L : List Nat), (∀ i ∈ L, i < n) → L.flatMap C = L.flatMap fun i => (S i).cells := by
        intro L
        induction L with
        | nil => intro _; rfl
        | cons i L ih =>
          intro h
          simp only [List.flatMap_cons]
          rw [(hS i (h i (by simp))).1, ih fun j hj => h j (by simp [hj])]
      exact this _ fun i hi => by simpa using hi
    rw [← e]
    simpa using hrd
  · intro i s hi
    obtain ⟨hi', hlt⟩ := List.getElem?_eq_some_iff.1 hi
    have hin : i < n := by simpa using hi'
    simp at hlt
    subst hlt
    exact (hS i hin).2

end Go.Proofs.Ytbonapdainlpjaa
