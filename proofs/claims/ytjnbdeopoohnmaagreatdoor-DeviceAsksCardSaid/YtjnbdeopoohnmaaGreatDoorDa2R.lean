/- Layer 48 (device): DeviceAsks, as its row wants it. -/
import Derived.Test.YtjnbdeopoohnmaaGreatDoorDa2
import Derived.Test.YtjnbdeopoohnmaaGreatDoorDvV
import Derived.Test.YtjnbdeopoohnmaaGreatDoorFrameR
import Derived.Test.YtjnbdeopoohnmaaGreatDoorFrame
namespace Go.Proofs.YtjnbdeopoohnmaaGreatDoor
open Go.RowKit Go.Sort Go.ChangeShapes Go.WideShapes Go.ChangeAt Go.Deep Go.Joins

structure AskArg where
  v : Value
  q : List UInt8
  now : Int
def AskIs (w : World) (v : Value) (x : AskArg) : Prop := v = .agg #[x.v, .int .i64 x.now] ∧ Bs w x.v x.q

set_option maxRecDepth 100000 in
theorem view_ask {H : Type} {enc : TypeId × Value → H} {w : World} {b0 : Nat} {r : Reach} {v : Value} {d : DataW H} {ps : List MemPlace}
    (hval : Value.okWide Tryz.prog w r b0 30 v) (hd : DataW.Trod enc Tryz.prog w 0 (fun _ => true) true 30 v d ps) : ∃ x : AskArg, AskIs w v x := by
  obtain ⟨cs, rfl, hsz⟩ := okWide_struct Tryz.underlying30 hval
  have h4 : cs.size = 2 := hsz.trans (by kernel_rfl)
  obtain ⟨m, hy⟩ := hd
  obtain ⟨y0, y1, k, _, hl', e0, e1⟩ := trod_struct2 Tryz.underlying30 hy
  obtain ⟨l⟩ := cs
  match l, h4 with
  | [a, b], _ =>
    have hc0 : Tryz.prog.cellsOf 25 = 1 := by kernel_rfl
    have hc1 : Tryz.prog.cellsOf 3 = 1 := by kernel_rfl
    simp only [Value.cells] at e0 e1
    rw [hc0] at e0
    rw [hc1] at e1
    obtain ⟨v0, l0, g0, k0⟩ := bytes_trod Tryz.underlying25 Tryz.underlying5 (by kernel_rfl) e0
    obtain ⟨z1, g1, _, k1⟩ := DataW.trod_int Tryz.underlying3 e1
    simp at g0 g1
    subst g0 g1
    exact ⟨⟨_, l0, z1⟩, rfl, k0⟩

theorem deviceasks_row (v0 : Value) (x0 : RingArg) (v1 : Value) (x1 : DvArg) (v2 : Value) (x2 : AskArg) (w : World) (h0 : v0 = .agg #[.int .i64 x0.keep, x0.v] ∧ RingIs w x0) (h1 : DvIs w v1 x1) (h2 : AskIs w v2 x2) (hT : Tabbed w) :
    Calls Tryz.prog 3 #[v0, v1, v2] w fun e w' => e = .returned (.bool true) ∧ Below w.heap.size w w' := by
  obtain ⟨rfl, hr⟩ := h0
  obtain ⟨rfl, hd⟩ := h1
  obtain ⟨rfl, hq⟩ := h2
  exact deviceasks_walk _ _ _ _ _ _ x1.d _ x2.q x2.now w hr.1 hd hq hT
end Go.Proofs.YtjnbdeopoohnmaaGreatDoor
