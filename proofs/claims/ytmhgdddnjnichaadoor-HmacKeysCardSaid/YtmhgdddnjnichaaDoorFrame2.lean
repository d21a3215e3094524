/- Opening arguments: arrays of integers. No function of the program stands here. -/
import Derived.Test.YtmhgdddnjnichaaDoorFrame
namespace Go.Proofs.YtmhgdddnjnichaaDoor
open Go.ChangeShapes Go.WideShapes Go.ChangeAt Go.RowKit

section
variable {H : Type} {enc : TypeId × Value → H} {P : Program} {w : World} {b0 : Nat} {r : Reach}

theorem view_ints {t e : TypeId} {k : IntKind} {n : Nat} (ht : P.underlying t = some (.array n e)) (he : P.underlying e = some (.int k)) (hce : P.cellsOf e = 1) (hct : P.cellsOf t = n) {v : Value} {d : DataW H} {ps : List MemPlace}
    (hval : Value.okWide P w r b0 t v) (hd : DataW.Trod enc P w 0 (fun _ => true) true t v d ps) : ∃ ns : List Int, ns.length = n ∧ v = .agg (ns.map (Value.int k)).toArray ∧ ∀ x ∈ ns, (Lit.int k x).wf = true := by
  simp only [Value.okWide, ht] at hval
  obtain ⟨cs, rfl, hs, _⟩ := hval
  obtain ⟨fuel, hf⟩ := hd
  obtain ⟨xs, m, _, _, hl, hx, hget⟩ := DataW.trod_array ht hf
  simp only [Value.cells] at hl hget
  rw [hct] at hl hs
  rw [hce] at hget
  have key : ∀ i, i < n → ∃ z, cs.toList[i]? = some (.int k z) ∧ (Lit.int k z).wf = true := by
    intro i hi
    have h1 := hget i hi
    rw [List.getElem?_eq_getElem (by omega)] at h1
    have hi' : i < cs.toList.length := by omega
    have h2 : (List.drop (i * 1) cs.toList).take 1 = [cs.toList[i]] := by
      rw [Nat.mul_one, List.drop_eq_getElem_cons hi']; rfl
    rw [h2] at h1
    obtain ⟨z, hz, _, hw⟩ := DataW.trod_int he h1
    refine ⟨z, ?_, hw⟩
    rw [List.getElem?_eq_getElem hi']
    simpa using hz
  refine ⟨cs.toList.map intOf, by simpa using hl, ?_, ?_⟩
  · congr 1
    apply Array.ext'
    simp only
    apply List.ext_getElem?
    intro i
    by_cases hi : i < n
    · obtain ⟨z, hz, _⟩ := key i hi
      simp only [List.getElem?_map, hz, Option.map_some, intOf]
    · rw [List.getElem?_eq_none (by omega), List.getElem?_eq_none (by simp; simp at hl; omega)]
  · intro x hx
    obtain ⟨c, hc, rfl⟩ := List.mem_map.1 hx
    obtain ⟨i, hi, rfl⟩ := List.getElem_of_mem hc
    obtain ⟨z, hz, hw⟩ := key i (by omega)
    rw [List.getElem?_eq_getElem hi] at hz
    have hz' := Option.some.inj hz
    rw [hz']
    exact hw

theorem view_two {t e : TypeId} {k : IntKind} (ht : P.underlying t = some (.array 2 e)) (he : P.underlying e = some (.int k)) (hce : P.cellsOf e = 1) (hct : P.cellsOf t = 2) {v : Value} {d : DataW H} {ps : List MemPlace}
    (hval : Value.okWide P w r b0 t v) (hd : DataW.Trod enc P w 0 (fun _ => true) true t v d ps) : ∃ xy : Int × Int, v = .agg #[.int k xy.1, .int k xy.2] ∧ (Lit.int k xy.1).wf = true ∧ (Lit.int k xy.2).wf = true := by
  obtain ⟨ns, hl, hv, hw⟩ := view_ints ht he hce hct hval hd
  match ns, hl with
  | [a, b], _ => exact ⟨(a, b), hv, hw a (by simp), hw b (by simp)⟩

theorem view_three {t e : TypeId} {k : IntKind} (ht : P.underlying t = some (.array 3 e)) (he : P.underlying e = some (.int k)) (hce : P.cellsOf e = 1) (hct : P.cellsOf t = 3) {v : Value} {d : DataW H} {ps : List MemPlace}
    (hval : Value.okWide P w r b0 t v) (hd : DataW.Trod enc P w 0 (fun _ => true) true t v d ps) : ∃ x : Int × Int × Int, v = .agg #[.int k x.1, .int k x.2.1, .int k x.2.2] ∧ (Lit.int k x.1).wf = true ∧ (Lit.int k x.2.1).wf = true ∧ (Lit.int k x.2.2).wf = true := by
  obtain ⟨ns, hl, hv, hw⟩ := view_ints ht he hce hct hval hd
  match ns, hl with
  | [a, b, c], _ => exact ⟨(a, b, c), hv, hw a (by simp), hw b (by simp), hw c (by simp)⟩
end

end Go.Proofs.YtmhgdddnjnichaaDoor
