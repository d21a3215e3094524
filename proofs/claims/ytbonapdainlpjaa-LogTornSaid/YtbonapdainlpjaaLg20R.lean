/- Layer 35 (log): LogTorn, as its row wants it; the view of the bytes it is torn by. -/
import Derived.Test.YtbonapdainlpjaaLg20
import Derived.Test.YtbonapdainlpjaaLgV
import Derived.Test.YtbonapdainlpjaaFrame
import Derived.Lib.SmallJoins
namespace Go.Proofs.Ytbonapdainlpjaa
open Go.ChangeShapes Go.WideShapes Go.ChangeAt Go.RowKit Go.Deep Go.Sort Go.Joins

set_option maxRecDepth 100000 in
theorem view_torn {H : Type} {enc : TypeId × Value → H} {w : World} {b0 : Nat} {r : Reach} {v : Value} {d : DataW H} {ps : List MemPlace}
    (hval : Value.okWide Try.prog w r b0 77 v) (hd : DataW.Trod enc Try.prog w 0 (fun _ => true) true 77 v d ps) :
    ∃ x : Int × Int × Int × Int, v = .agg #[.int .u8 x.1, .int .u8 x.2.1, .int .u8 x.2.2.1, .int .u8 x.2.2.2] ∧ (0 ≤ x.1 ∧ x.1 < 256) ∧ (0 ≤ x.2.1 ∧ x.2.1 < 256) ∧ (0 ≤ x.2.2.1 ∧ x.2.2.1 < 256) ∧ (0 ≤ x.2.2.2 ∧ x.2.2.2 < 256) := by
  obtain ⟨cs, rfl, hsz⟩ := okWide_struct Try.underlying77 hval
  obtain ⟨m, hm⟩ := hd
  obtain ⟨y0, y1, y2, y3, k, _, hl', e0, e1, e2, e3⟩ := trod_struct4 Try.underlying77 hm
  obtain ⟨c0, c1, c2, c3, rfl⟩ := array4 (hsz.trans (by kernel_rfl))
  have hc : Try.prog.cellsOf 5 = 1 := by kernel_rfl
  simp only [Value.cells] at e0 e1 e2 e3
  rw [hc] at e0 e1 e2 e3
  obtain ⟨z0, g0, _, k0⟩ := DataW.trod_int Try.underlying5 e0
  obtain ⟨z1, g1, _, k1⟩ := DataW.trod_int Try.underlying5 e1
  obtain ⟨z2, g2, _, k2⟩ := DataW.trod_int Try.underlying5 e2
  obtain ⟨z3, g3, _, k3⟩ := DataW.trod_int Try.underlying5 e3
  simp at g0 g1 g2 g3
  subst g0 g1 g2 g3
  exact ⟨(z0, z1, z2, z3), rfl, wf_u8 k0, wf_u8 k1, wf_u8 k2, wf_u8 k3⟩

theorem lt_row (v : Value) (rs : List Rc) (u : Value) (r : List UInt8) (t : Value) (x : Int × Int × Int × Int) (w : World) (h : Rcs w v rs) (hu : Bs w u r)
    (ht : t = .agg #[.int .u8 x.1, .int .u8 x.2.1, .int .u8 x.2.2.1, .int .u8 x.2.2.2] ∧ (0 ≤ x.1 ∧ x.1 < 256) ∧ (0 ≤ x.2.1 ∧ x.2.1 < 256) ∧ (0 ≤ x.2.2.1 ∧ x.2.2.1 < 256) ∧ (0 ≤ x.2.2.2 ∧ x.2.2.2 < 256)) :
    Calls Try.prog 9 #[v, u, t] w fun e w' => e = .returned (.bool true) ∧ Below w.heap.size w w' := by
  obtain ⟨a, b, c, d⟩ := x
  obtain ⟨rfl, h0, h1, h2, h3⟩ := ht
  dsimp only at h0 h1 h2 h3
  obtain ⟨n0, rfl⟩ : ∃ n : Nat, a = n := ⟨a.toNat, by omega⟩
  obtain ⟨n1, rfl⟩ : ∃ n : Nat, b = n := ⟨b.toNat, by omega⟩
  obtain ⟨n2, rfl⟩ : ∃ n : Nat, c = n := ⟨c.toNat, by omega⟩
  obtain ⟨n3, rfl⟩ : ∃ n : Nat, d = n := ⟨d.toNat, by omega⟩
  exact lt_walk v rs u r n0 n1 n2 n3 ⟨by omega, by omega, by omega, by omega⟩ w h hu
end Go.Proofs.Ytbonapdainlpjaa
