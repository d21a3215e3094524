/- Layer 39 (reply): the walk of the statement ReplyBytes, and the view of a reply. -/
import Derived.Test.YticpmkdlnjnfgaaRep4
import Derived.Test.YticpmkdlnjnfgaaFrameB
set_option linter.unusedSimpArgs false
namespace Go.Proofs.Yticpmkdlnjnfgaa
open Go.RowKit Go.Sort Go.ChangeShapes Go.WideShapes Go.ChangeAt Go.Deep Go.Joins

set_option maxRecDepth 100000 in
theorem view_rep {H : Type} {enc : TypeId × Value → H} {w : World} {b0 : Nat} {r : Reach} {v : Value} {d : DataW H} {ps : List MemPlace}
    (hval : Value.okWide Try.prog w r b0 59 v) (hd : DataW.Trod enc Try.prog w 0 (fun _ => true) true 59 v d ps) : ∃ x : Rep × Value, v = x.1.agg x.2 ∧ Bs w x.2 x.1.t ∧ RepWf x.1 := by
  obtain ⟨cs, rfl, hsz⟩ := okWide_struct Try.underlying59 hval
  have h4 : cs.size = 4 := hsz.trans (by kernel_rfl)
  obtain ⟨m, hy⟩ := hd
  obtain ⟨y0, y1, y2, y3, k, _, hl', e0, e1, e2, e3⟩ := trod_struct4 Try.underlying59 hy
  obtain ⟨l⟩ := cs
  match l, h4 with
  | [a, b, c, d], _ =>
    have hc0 : Try.prog.cellsOf 25 = 1 := by kernel_rfl
    have hc1 : Try.prog.cellsOf 3 = 1 := by kernel_rfl
    have hc2 : Try.prog.cellsOf 24 = 1 := by kernel_rfl
    simp only [Value.cells] at e0 e1 e2 e3
    rw [hc0] at e0
    rw [hc1] at e1 e2
    rw [hc2] at e3
    obtain ⟨z0, g0, _, k0⟩ := DataW.trod_int Try.underlying25 e0
    obtain ⟨z1, g1, _, k1⟩ := DataW.trod_int Try.underlying3 e1
    obtain ⟨z2, g2, _, k2⟩ := DataW.trod_int Try.underlying3 e2
    obtain ⟨v, l, g3, k3⟩ := bytes_trod Try.underlying24 Try.underlying5 (by kernel_rfl) e3
    simp at g0 g1 g2 g3
    subst g0 g1 g2 g3
    exact ⟨(⟨z0, z1, z2, l⟩, d), rfl, k3, wf_i64 k0, wf_i64 k1, wf_i64 k2⟩

end Go.Proofs.Yticpmkdlnjnfgaa
