/- Opening an argument that is an array of two or of three slices of bytes. No function of the program stands here. -/
import Derived.Test.YtmhgdddnjnichaaDoorFrameR
namespace Go.Proofs.YtmhgdddnjnichaaDoor
open Go.RowKit Go.ChangeShapes Go.WideShapes Go.ChangeAt Go.Deep Go.Joins

structure BsThree where
  v0 : Value
  v1 : Value
  v2 : Value
  b0 : List UInt8
  b1 : List UInt8
  b2 : List UInt8
structure BsTwo where
  v0 : Value
  v1 : Value
  b0 : List UInt8
  b1 : List UInt8
section
variable {H : Type} {enc : TypeId × Value → H} {P : Program} {w : World} {b0 : Nat} {r : Reach}
theorem view_bs3 {t e u : TypeId} (ht : P.underlying t = some (.array 3 e)) (he : P.underlying e = some (.slice u)) (hu : P.underlying u = some (.int .u8)) (hcu : P.cellsOf u = 1) (hce : P.cellsOf e = 1) (hct : P.cellsOf t = 3) {v : Value} {d : DataW H} {ps : List MemPlace}
    (hval : Value.okWide P w r b0 t v) (hd : DataW.Trod enc P w 0 (fun _ => true) true t v d ps) : ∃ x : BsThree, v = .agg #[x.v0, x.v1, x.v2] ∧ Bs w x.v0 x.b0 ∧ Bs w x.v1 x.b1 ∧ Bs w x.v2 x.b2 := by
  simp only [Value.okWide, ht] at hval
  obtain ⟨cs, rfl, hs, _⟩ := hval
  obtain ⟨fuel, hf⟩ := hd
  obtain ⟨xs, m, _, _, hl, hx, hget⟩ := DataW.trod_array ht hf
  simp only [Value.cells] at hl hget
  rw [hct] at hl
  rw [hce] at hget
  obtain ⟨l⟩ := cs
  match l, hl with
  | [a, b, c], _ =>
    have e0 := hget 0 (by omega)
    have e1 := hget 1 (by omega)
    have e2 := hget 2 (by omega)
    rw [List.getElem?_eq_getElem (by omega)] at e0 e1 e2
    obtain ⟨v0, l0, g0, k0⟩ := bytes_trod he hu hcu e0
    obtain ⟨v1, l1, g1, k1⟩ := bytes_trod he hu hcu e1
    obtain ⟨v2, l2, g2, k2⟩ := bytes_trod he hu hcu e2
    simp at g0 g1 g2
    subst g0 g1 g2
    exact ⟨⟨a, b, c, l0, l1, l2⟩, rfl, k0, k1, k2⟩
theorem view_bs2 {t e u : TypeId} (ht : P.underlying t = some (.array 2 e)) (he : P.underlying e = some (.slice u)) (hu : P.underlying u = some (.int .u8)) (hcu : P.cellsOf u = 1) (hce : P.cellsOf e = 1) (hct : P.cellsOf t = 2) {v : Value} {d : DataW H} {ps : List MemPlace}
    (hval : Value.okWide P w r b0 t v) (hd : DataW.Trod enc P w 0 (fun _ => true) true t v d ps) : ∃ x : BsTwo, v = .agg #[x.v0, x.v1] ∧ Bs w x.v0 x.b0 ∧ Bs w x.v1 x.b1 := by
  simp only [Value.okWide, ht] at hval
  obtain ⟨cs, rfl, hs, _⟩ := hval
  obtain ⟨fuel, hf⟩ := hd
  obtain ⟨xs, m, _, _, hl, hx, hget⟩ := DataW.trod_array ht hf
  simp only [Value.cells] at hl hget
  rw [hct] at hl
  rw [hce] at hget
  obtain ⟨l⟩ := cs
  match l, hl with
  | [a, b], _ =>
    have e0 := hget 0 (by omega)
    have e1 := hget 1 (by omega)
    rw [List.getElem?_eq_getElem (by omega)] at e0 e1
    obtain ⟨v0, l0, g0, k0⟩ := bytes_trod he hu hcu e0
    obtain ⟨v1, l1, g1, k1⟩ := bytes_trod he hu hcu e1
    simp at g0 g1
    subst g0 g1
    exact ⟨⟨a, b, l0, l1⟩, rfl, k0, k1⟩
end
end Go.Proofs.YtmhgdddnjnichaaDoor
