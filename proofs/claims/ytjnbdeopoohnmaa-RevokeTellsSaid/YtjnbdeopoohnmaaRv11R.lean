/- Layer 12 (revoke): RevokeTells, as its row wants it. -/
import Derived.Test.YtjnbdeopoohnmaaRv11
import Derived.Test.YtjnbdeopoohnmaaRv6
import Derived.Test.YtjnbdeopoohnmaaFrame
namespace Go.Proofs.Ytjnbdeopoohnmaa
open Go.RowKit Go.Sort Go.ChangeShapes Go.WideShapes Go.ChangeAt Go.Deep Go.Joins
set_option maxRecDepth 100000 in
theorem view_rev {H : Type} {enc : TypeId × Value → H} {w : World} {b0 : Nat} {r : Reach} {v : Value} {d : DataW H} {ps : List MemPlace}
    (hval : Value.okWide Try.prog w r b0 29 v) (hd : DataW.Trod enc Try.prog w 0 (fun _ => true) true 29 v d ps) : ∃ x : RT, v = .agg #[.int .i64 x.1, .int .i64 x.2] := by
  obtain ⟨cs, rfl, hsz⟩ := okWide_struct Try.underlying29 hval
  obtain ⟨m, hy⟩ := hd
  obtain ⟨x, hx, _⟩ := rev_trod m _ _ hy
  obtain ⟨l⟩ := cs
  have hx' : l = csR x := by simpa [Value.cells] using hx
  subst hx'
  exact ⟨x, rfl⟩
theorem rt_row (v : Value) (l : List RT) (v1 : Value) (x : RT) (v2 : Value) (z : Int × Int) (w : World) (h : Revs w v l) (h1 : v1 = .agg #[.int .i64 x.1, .int .i64 x.2]) (h2 : v2 = .agg #[.int .i64 z.1, .int .i64 z.2] ∧ (Lit.int .i64 z.1).wf = true ∧ (Lit.int .i64 z.2).wf = true) :
    Calls Try.prog 4 #[v, v1, v2] w fun e w' => e = .returned (.bool true) ∧ Below w.heap.size w w' := by
  obtain ⟨rfl, -, -⟩ := h2
  subst h1
  exact rt_walk v l x z.1 z.2 w h
end Go.Proofs.Ytjnbdeopoohnmaa
