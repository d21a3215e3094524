/- Opening an argument that is a slice of accounts. -/
import Derived.Test.YtjnbdeopoohnmaaTrod
import Derived.Test.YtjnbdeopoohnmaaRt1
import Derived.Deep.Strs
set_option linter.unusedSimpArgs false
namespace Go.Proofs.Ytjnbdeopoohnmaa
open Go.RowKit Go.Sort Go.ChangeShapes Go.WideShapes Go.ChangeAt Go.Deep Go.Joins

theorem iw_wf {z : Int} (h : (Lit.int .i64 z).wf = true) : IW z := by have := wf_i64 h; unfold IW; omega

set_option maxRecDepth 100000 in
theorem spell_trod {H : Type} {enc : TypeId × Value → H} {w : World} (m : Nat) (c : List Value) (y : DataW H × List MemPlace) (h : DataW.trod enc Try.prog w 0 (fun _ => true) true m 49 c = some y) :
    ∃ x : SpT, c = csS x ∧ IW x.1 ∧ IW x.2 := by
  obtain ⟨y0, y1, n, _, hl, e0, e1⟩ := trod_struct2 Try.underlying49 h
  have h2 : c.length = 2 := hl.trans (by kernel_rfl)
  have hc0 : Try.prog.cellsOf 3 = 1 := by kernel_rfl
  match c, h2 with
  | [a, b], _ =>
    simp only at e0 e1
    rw [hc0] at e0 e1
    obtain ⟨z0, g0, _, k0⟩ := DataW.trod_int Try.underlying3 e0
    obtain ⟨z1, g1, _, k1⟩ := DataW.trod_int Try.underlying3 e1
    simp at g0 g1
    subst g0 g1
    exact ⟨(z0, z1), rfl, iw_wf k0, iw_wf k1⟩

instance : Inhabited AcX := ⟨⟨0, 0, []⟩, (none, 0, 0)⟩

set_option maxRecDepth 100000 in
theorem acct_trod {H : Type} {enc : TypeId × Value → H} {w : World} (m : Nat) (c : List Value) (y : DataW H × List MemPlace) (h : DataW.trod enc Try.prog w 0 (fun _ => true) true m 43 c = some y) :
    ∃ x : AcX, c = csA x ∧ AcV w x := by
  obtain ⟨y0, y1, y2, n, _, hl, e0, e1, e2⟩ := trod_struct3 Try.underlying43 h
  have h2 : c.length = 3 := hl.trans (by kernel_rfl)
  have hc0 : Try.prog.cellsOf 3 = 1 := by kernel_rfl
  have hc1 : Try.prog.cellsOf 41 = 1 := by kernel_rfl
  match c, h2 with
  | [a, b, d], _ =>
    simp only at e0 e1 e2
    rw [hc0] at e0 e1
    rw [hc1] at e2
    obtain ⟨z0, g0, _, k0⟩ := DataW.trod_int Try.underlying3 e0
    obtain ⟨z1, g1, _, k1⟩ := DataW.trod_int Try.underlying3 e1
    obtain ⟨v2, l2, g2, q2, hq⟩ := gs_trod (cs := csS) (Q := fun x => IW x.1 ∧ IW x.2) (s := 2) Try.underlying41 (by kernel_rfl) (by decide) (fun m c y h => spell_trod m c y h) e2
    simp at g0 g1 g2
    subst g0 g1 g2
    obtain ⟨a2, c2, rfl⟩ := q2.shape
    exact ⟨(⟨z0, z1, l2⟩, (a2, _, c2)), rfl, q2, iw_wf k0, iw_wf k1, hq⟩

set_option maxRecDepth 100000 in
theorem view_accts {H : Type} {enc : TypeId × Value → H} {w : World} {b0 : Nat} {r : Reach} {v : Value} {d : DataW H} {ps : List MemPlace}
    (hval : Value.okWide Try.prog w r b0 38 v) (hd : DataW.Trod enc Try.prog w 0 (fun _ => true) true 38 v d ps) : ∃ l : List AcX, Acs w v l := by
  obtain ⟨a0, len, cap, rfl⟩ := okWide_slice Try.underlying38 hval
  obtain ⟨m, hy⟩ := hd
  obtain ⟨v', l, g, q, hq⟩ := gs_trod (cs := csA) (Q := fun x => AcV w x) (s := 3) Try.underlying38 (by kernel_rfl) (by decide) (fun m c y h => acct_trod m c y h) hy
  have hv : v' = .slice a0 len cap := by simpa [Value.cells] using g.symm
  subst hv
  exact ⟨l, q, hq⟩
end Go.Proofs.Ytjnbdeopoohnmaa
