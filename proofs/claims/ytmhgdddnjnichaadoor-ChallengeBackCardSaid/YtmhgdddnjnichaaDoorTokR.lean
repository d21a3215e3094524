/- Opening an argument that is a token: six ints. -/
import Derived.Test.YtmhgdddnjnichaaDoorFrame
import Derived.Test.YtmhgdddnjnichaaDoorTok
namespace Go.Proofs.YtmhgdddnjnichaaDoor
open Go.RowKit Go.Sort Go.ChangeShapes Go.WideShapes Go.ChangeAt Go.Deep Go.Joins

theorem struct_field {H : Type} {enc : TypeId × Value → H} {P : Program} {w : World} {t : TypeId} {fs : Array Field} {m : Nat} {cs : List Value} {x : DataW H × List MemPlace} (ht : P.underlying t = some (.struct fs)) (h : DataW.trod enc P w 0 (fun _ => true) true m t cs = some x)
    (i : Nat) (f : Field) (hf : fs[i]? = some f) : ∃ n y, DataW.trod enc P w 0 (fun _ => true) true n f.type ((cs.drop f.offset).take (P.cellsOf f.type)) = some y := by
  obtain ⟨xs, n, _, rfl, hl, hlen, hg⟩ := DataW.trod_struct ht h
  have hi : i < xs.length := by rw [hlen]; exact (Array.getElem?_eq_some_iff.1 hf).1
  exact ⟨n, xs[i], by rw [hg i f hf, List.getElem?_eq_getElem hi]⟩

set_option maxRecDepth 100000 in
theorem view_tok {H : Type} {enc : TypeId × Value → H} {w : World} {b0 : Nat} {r : Reach} {v : Value} {d : DataW H} {ps : List MemPlace}
    (hval : Value.okWide Tryd.prog w r b0 57 v) (hd : DataW.Trod enc Tryd.prog w 0 (fun _ => true) true 57 v d ps) : ∃ t : Tok, v = .agg t.row ∧ t.Wf := by
  obtain ⟨cs, rfl, hsz⟩ := okWide_struct Tryd.underlying57 hval
  have h6 : cs.size = 6 := hsz.trans (by kernel_rfl)
  obtain ⟨m, hy⟩ := hd
  obtain ⟨n0, y0, e0⟩ := struct_field Tryd.underlying57 hy 0 _ rfl
  obtain ⟨n1, y1, e1⟩ := struct_field Tryd.underlying57 hy 1 _ rfl
  obtain ⟨n2, y2, e2⟩ := struct_field Tryd.underlying57 hy 2 _ rfl
  obtain ⟨n3, y3, e3⟩ := struct_field Tryd.underlying57 hy 3 _ rfl
  obtain ⟨n4, y4, e4⟩ := struct_field Tryd.underlying57 hy 4 _ rfl
  obtain ⟨n5, y5, e5⟩ := struct_field Tryd.underlying57 hy 5 _ rfl
  obtain ⟨l⟩ := cs
  match l, h6 with
  | [a, b, c, d, e, f], _ =>
    have hc0 : Tryd.prog.cellsOf 3 = 1 := by kernel_rfl
    have e0 : DataW.trod enc Tryd.prog w 0 (fun _ => true) true n0 3 (([a, b, c, d, e, f].drop 0).take (Tryd.prog.cellsOf 3)) = some y0 := e0
    have e1 : DataW.trod enc Tryd.prog w 0 (fun _ => true) true n1 3 (([a, b, c, d, e, f].drop 1).take (Tryd.prog.cellsOf 3)) = some y1 := e1
    have e2 : DataW.trod enc Tryd.prog w 0 (fun _ => true) true n2 3 (([a, b, c, d, e, f].drop 2).take (Tryd.prog.cellsOf 3)) = some y2 := e2
    have e3 : DataW.trod enc Tryd.prog w 0 (fun _ => true) true n3 3 (([a, b, c, d, e, f].drop 3).take (Tryd.prog.cellsOf 3)) = some y3 := e3
    have e4 : DataW.trod enc Tryd.prog w 0 (fun _ => true) true n4 3 (([a, b, c, d, e, f].drop 4).take (Tryd.prog.cellsOf 3)) = some y4 := e4
    have e5 : DataW.trod enc Tryd.prog w 0 (fun _ => true) true n5 3 (([a, b, c, d, e, f].drop 5).take (Tryd.prog.cellsOf 3)) = some y5 := e5
    rw [hc0] at e0 e1 e2 e3 e4 e5
    obtain ⟨z0, g0, _, k0⟩ := DataW.trod_int Tryd.underlying3 e0
    obtain ⟨z1, g1, _, k1⟩ := DataW.trod_int Tryd.underlying3 e1
    obtain ⟨z2, g2, _, k2⟩ := DataW.trod_int Tryd.underlying3 e2
    obtain ⟨z3, g3, _, k3⟩ := DataW.trod_int Tryd.underlying3 e3
    obtain ⟨z4, g4, _, k4⟩ := DataW.trod_int Tryd.underlying3 e4
    obtain ⟨z5, g5, _, k5⟩ := DataW.trod_int Tryd.underlying3 e5
    simp at g0 g1 g2 g3 g4 g5
    subst g0 g1 g2 g3 g4 g5
    exact ⟨⟨z0, z1, z2, z3, z4, z5⟩, rfl, wf_i64 k0, wf_i64 k1, wf_i64 k2, wf_i64 k3, wf_i64 k4, wf_i64 k5⟩

end Go.Proofs.YtmhgdddnjnichaaDoor
