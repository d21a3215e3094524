/- Opening arguments that are devices, samples. -/
import Derived.Test.YtjnbdeopoohnmaaGreatDoorFrameR
import Derived.Test.YtjnbdeopoohnmaaGreatDoorDv2
namespace Go.Proofs.YtjnbdeopoohnmaaGreatDoor
open Go.RowKit Go.Sort Go.ChangeShapes Go.WideShapes Go.ChangeAt Go.Deep Go.Joins

instance : Inhabited Smp := ⟨⟨0, 0, 0⟩⟩
set_option maxRecDepth 100000 in
theorem smp_trod {H : Type} {enc : TypeId × Value → H} {w : World} (m : Nat) (c : List Value) (y : DataW H × List MemPlace) (h : DataW.trod enc Tryz.prog w 0 (fun _ => true) true m 55 c = some y) :
    ∃ x : Smp, c = x.cells ∧ True := by
  obtain ⟨s, hs, -⟩ := trod_smp Tryz.underlying55 ⟨rfl, rfl⟩ ⟨rfl, rfl⟩ ⟨rfl, rfl⟩ Tryz.underlying3 (by kernel_rfl) (by kernel_rfl) h
  exact ⟨s, hs, trivial⟩

def Sd3 := Option Addr × Nat × Nat
structure DvArg where
  vt : Value
  vk : Value
  vs : Value
  d : DvD
def DvIs (w : World) (v : Value) (x : DvArg) : Prop := v = .agg #[x.vt, x.vk, x.vs] ∧ Dv w x.vt x.vk x.vs x.d

set_option maxRecDepth 100000 in
theorem view_dev {H : Type} {enc : TypeId × Value → H} {w : World} {b0 : Nat} {r : Reach} {v : Value} {d : DataW H} {ps : List MemPlace}
    (hval : Value.okWide Tryz.prog w r b0 28 v) (hd : DataW.Trod enc Tryz.prog w 0 (fun _ => true) true 28 v d ps) : ∃ x : DvArg, DvIs w v x := by
  obtain ⟨cs, rfl, hsz⟩ := okWide_struct Tryz.underlying28 hval
  have h4 : cs.size = 3 := hsz.trans (by kernel_rfl)
  obtain ⟨m, hy⟩ := hd
  obtain ⟨y0, y1, y2, k, _, hl', e0, e1, e2⟩ := trod_struct3 Tryz.underlying28 hy
  obtain ⟨l⟩ := cs
  match l, h4 with
  | [a, b, c], _ =>
    have hc0 : Tryz.prog.cellsOf 25 = 1 := by kernel_rfl
    have hc1 : Tryz.prog.cellsOf 26 = 1 := by kernel_rfl
    simp only [Value.cells] at e0 e1 e2
    rw [hc0] at e0 e1
    rw [hc1] at e2
    obtain ⟨v0, l0, g0, k0⟩ := bytes_trod Tryz.underlying25 Tryz.underlying5 (by kernel_rfl) e0
    obtain ⟨v1, l1, g1, k1⟩ := bytes_trod Tryz.underlying25 Tryz.underlying5 (by kernel_rfl) e1
    obtain ⟨v2, l2, g2, k2, -⟩ := gs_trod (cs := Smp.cells) (Q := fun _ => True) (s := 3) Tryz.underlying26 (by kernel_rfl) (by decide) (fun m c y h => smp_trod m c y h) e2
    simp at g0 g1 g2
    subst g0 g1 g2
    exact ⟨⟨_, _, _, ⟨l0, l1, l2⟩⟩, rfl, k0, k1, k2⟩

set_option maxRecDepth 100000 in
theorem view_smp1 {H : Type} {enc : TypeId × Value → H} {w : World} {b0 : Nat} {r : Reach} {v : Value} {d : DataW H} {ps : List MemPlace}
    (hval : Value.okWide Tryz.prog w r b0 55 v) (hd : DataW.Trod enc Tryz.prog w 0 (fun _ => true) true 55 v d ps) : ∃ x : Smp, v = .agg #[.int .i64 x.t, .int .i64 x.x, .int .i64 x.y] := by
  obtain ⟨cs, rfl, hsz⟩ := okWide_struct Tryz.underlying55 hval
  have h4 : cs.size = 3 := hsz.trans (by kernel_rfl)
  obtain ⟨m, hy⟩ := hd
  obtain ⟨x, hx, -⟩ := smp_trod m _ _ hy
  obtain ⟨l⟩ := cs
  match l, h4 with
  | [a, b, c], _ =>
    simp only [Value.cells, Smp.cells, List.cons.injEq, and_true] at hx
    obtain ⟨rfl, rfl, rfl⟩ := hx
    exact ⟨x, rfl⟩
end Go.Proofs.YtjnbdeopoohnmaaGreatDoor
