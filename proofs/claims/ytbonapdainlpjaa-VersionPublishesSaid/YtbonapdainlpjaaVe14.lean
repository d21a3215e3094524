/- Opening an argument that is a network, or a slice of networks. -/
import Derived.Test.YtbonapdainlpjaaTrod
import Derived.Test.YtbonapdainlpjaaVe12
import Derived.Deep.Strs
set_option linter.unusedSimpArgs false
namespace Go.Proofs.Ytbonapdainlpjaa
open Go.RowKit Go.Sort Go.ChangeShapes Go.WideShapes Go.ChangeAt Go.Deep Go.Joins

set_option maxRecDepth 100000 in
theorem stop_trod {H : Type} {enc : TypeId × Value → H} {w : World} (m : Nat) (c : List Value) (y : DataW H × List MemPlace) (h : DataW.trod enc Try.prog w 0 (fun _ => true) true m 144 c = some y) :
    ∃ x : Int × Int, c = csS x ∧ True := by
  obtain ⟨y0, y1, n, _, hl, e0, e1⟩ := trod_struct2 Try.underlying144 h
  have h2 : c.length = 2 := hl.trans (by kernel_rfl)
  have hc0 : Try.prog.cellsOf 3 = 1 := by kernel_rfl
  match c, h2 with
  | [a, b], _ =>
    simp only at e0 e1
    rw [hc0] at e0 e1
    obtain ⟨z0, g0, _, k0⟩ := DataW.trod_int Try.underlying3 e0
    obtain ⟨z1, g1, _, k1⟩ := DataW.trod_int Try.underlying3 e1
    simp at g0 g1
    subst g0 g1
    exact ⟨(z0, z1), rfl, trivial⟩

set_option maxRecDepth 100000 in
theorem link_trod {H : Type} {enc : TypeId × Value → H} {w : World} (m : Nat) (c : List Value) (y : DataW H × List MemPlace) (h : DataW.trod enc Try.prog w 0 (fun _ => true) true m 146 c = some y) :
    ∃ x : Int × Int × Int, c = csL x ∧ True := by
  obtain ⟨y0, y1, y2, n, _, hl, e0, e1, e2⟩ := trod_struct3 Try.underlying146 h
  have h2 : c.length = 3 := hl.trans (by kernel_rfl)
  have hc0 : Try.prog.cellsOf 3 = 1 := by kernel_rfl
  match c, h2 with
  | [a, b, d], _ =>
    simp only at e0 e1 e2
    rw [hc0] at e0 e1 e2
    obtain ⟨z0, g0, _, k0⟩ := DataW.trod_int Try.underlying3 e0
    obtain ⟨z1, g1, _, k1⟩ := DataW.trod_int Try.underlying3 e1
    obtain ⟨z2, g2, _, k2⟩ := DataW.trod_int Try.underlying3 e2
    simp at g0 g1 g2
    subst g0 g1 g2
    exact ⟨(z0, z1, z2), rfl, trivial⟩

instance : Inhabited NetX := ⟨⟨0, [], []⟩, (none, 0, 0), (none, 0, 0)⟩

set_option maxRecDepth 100000 in
theorem net_trod {H : Type} {enc : TypeId × Value → H} {w : World} (m : Nat) (c : List Value) (y : DataW H × List MemPlace) (h : DataW.trod enc Try.prog w 0 (fun _ => true) true m 95 c = some y) :
    ∃ x : NetX, c = csX x ∧ NetV w x.1 (Sl3.v x.2.1) (Sl3.v x.2.2) := by
  obtain ⟨y0, y1, y2, n, _, hl, e0, e1, e2⟩ := trod_struct3 Try.underlying95 h
  have h2 : c.length = 3 := hl.trans (by kernel_rfl)
  have hc0 : Try.prog.cellsOf 3 = 1 := by kernel_rfl
  have hc1 : Try.prog.cellsOf 92 = 1 := by kernel_rfl
  have hc2 : Try.prog.cellsOf 93 = 1 := by kernel_rfl
  match c, h2 with
  | [a, b, d], _ =>
    simp only at e0 e1 e2
    rw [hc0] at e0
    rw [hc1] at e1
    rw [hc2] at e2
    obtain ⟨z0, g0, _, k0⟩ := DataW.trod_int Try.underlying3 e0
    obtain ⟨v1, l1, g1, q1, -⟩ := gs_trod (cs := csS) (Q := fun _ => True) (s := 2) Try.underlying92 (by kernel_rfl) (by decide) (fun m c y h => stop_trod m c y h) e1
    obtain ⟨v2, l2, g2, q2, -⟩ := gs_trod (cs := csL) (Q := fun _ => True) (s := 3) Try.underlying93 (by kernel_rfl) (by decide) (fun m c y h => link_trod m c y h) e2
    simp at g0 g1 g2
    subst g0 g1 g2
    obtain ⟨a1, c1, rfl⟩ := q1.shape
    obtain ⟨a2, c2, rfl⟩ := q2.shape
    exact ⟨(⟨z0, l1, l2⟩, (a1, _, c1), (a2, _, c2)), rfl, q1, q2⟩

set_option maxRecDepth 100000 in
theorem view_nets {H : Type} {enc : TypeId × Value → H} {w : World} {b0 : Nat} {r : Reach} {v : Value} {d : DataW H} {ps : List MemPlace}
    (hval : Value.okWide Try.prog w r b0 91 v) (hd : DataW.Trod enc Try.prog w 0 (fun _ => true) true 91 v d ps) : ∃ l : List NetX, Nets w v l := by
  obtain ⟨a0, len, cap, rfl⟩ := okWide_slice Try.underlying91 hval
  obtain ⟨m, hy⟩ := hd
  obtain ⟨v', l, g, q, hq⟩ := gs_trod (cs := csX) (Q := fun x => NetV w x.1 (Sl3.v x.2.1) (Sl3.v x.2.2)) (s := 3) Try.underlying91 (by kernel_rfl) (by decide) (fun m c y h => net_trod m c y h) hy
  have hv : v' = .slice a0 len cap := by simpa [Value.cells] using g.symm
  subst hv
  exact ⟨l, q, hq⟩

def NetIs (w : World) (x : NetX) : Prop := NetV w x.1 (Sl3.v x.2.1) (Sl3.v x.2.2)
set_option maxRecDepth 100000 in
theorem view_net {H : Type} {enc : TypeId × Value → H} {w : World} {b0 : Nat} {r : Reach} {v : Value} {d : DataW H} {ps : List MemPlace}
    (hval : Value.okWide Try.prog w r b0 95 v) (hd : DataW.Trod enc Try.prog w 0 (fun _ => true) true 95 v d ps) : ∃ x : NetX, v = x.agg ∧ NetIs w x := by
  obtain ⟨cs, rfl, hsz⟩ := okWide_struct Try.underlying95 hval
  have h4 : cs.size = 3 := hsz.trans (by kernel_rfl)
  obtain ⟨m, hy⟩ := hd
  obtain ⟨x, hx, hv⟩ := net_trod m _ _ hy
  obtain ⟨l⟩ := cs
  match l, h4 with
  | [a, b, c], _ =>
    simp only [Value.cells, csX, List.cons.injEq, and_true] at hx
    obtain ⟨rfl, rfl, rfl⟩ := hx
    exact ⟨x, rfl, hv⟩

end Go.Proofs.Ytbonapdainlpjaa
