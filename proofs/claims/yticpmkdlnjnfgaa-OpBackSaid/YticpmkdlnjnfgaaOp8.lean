/- Layer 38 (op): opening an argument that is an operation; OpPuts as its row wants it. -/
import Derived.Test.YticpmkdlnjnfgaaFrame
import Derived.Test.YticpmkdlnjnfgaaOp7
namespace Go.Proofs.Yticpmkdlnjnfgaa
open Go.RowKit Go.Sort Go.ChangeShapes Go.WideShapes Go.ChangeAt Go.Deep Go.Joins

theorem op_field {H : Type} {enc : TypeId × Value → H} {P : Program} {w : World} {t : TypeId} {fs : Array Field} {m : Nat} {cs : List Value} {x : DataW H × List MemPlace} (ht : P.underlying t = some (.struct fs)) (h : DataW.trod enc P w 0 (fun _ => true) true m t cs = some x)
    (i : Nat) (f : Field) (hf : fs[i]? = some f) : ∃ n y, DataW.trod enc P w 0 (fun _ => true) true n f.type ((cs.drop f.offset).take (P.cellsOf f.type)) = some y := by
  obtain ⟨xs, n, _, rfl, hl, hlen, hg⟩ := DataW.trod_struct ht h
  have hi : i < xs.length := by rw [hlen]; exact (Array.getElem?_eq_some_iff.1 hf).1
  exact ⟨n, xs[i], by rw [hg i f hf, List.getElem?_eq_getElem hi]⟩

theorem op_ints {H : Type} {enc : TypeId × Value → H} {P : Program} {w : World} {t e : TypeId} {k : IntKind} {fuel : Nat} {x : DataW H × List MemPlace} {a b c : Value} (ht : P.underlying t = some (.array 3 e)) (he : P.underlying e = some (.int k)) (hce : P.cellsOf e = 1)
    (h : DataW.trod enc P w 0 (fun _ => true) true fuel t [a, b, c] = some x) : ∃ z0 z1 z2 : Int, a = .int k z0 ∧ b = .int k z1 ∧ c = .int k z2 := by
  obtain ⟨xs, m, _, _, hl, hx, hget⟩ := DataW.trod_array ht h
  rw [hce] at hget
  have key : ∀ i (v : Value), i < 3 → (List.drop (i * 1) [a, b, c]).take 1 = [v] → ∃ z, v = .int k z := by
    intro i v hi hv
    have h1 := hget i hi
    rw [List.getElem?_eq_getElem (by omega), hv] at h1
    obtain ⟨z, hz, _, _⟩ := DataW.trod_int he h1
    exact ⟨z, by simpa using hz⟩
  obtain ⟨z0, h0⟩ := key 0 a (by omega) rfl
  obtain ⟨z1, h1⟩ := key 1 b (by omega) rfl
  obtain ⟨z2, h2⟩ := key 2 c (by omega) rfl
  exact ⟨z0, z1, z2, h0, h1, h2⟩

theorem op_bytes {H : Type} {enc : TypeId × Value → H} {P : Program} {w : World} {t e : TypeId} (ht : P.underlying t = some (.slice e)) (he : P.underlying e = some (.int .u8)) (hcells : P.cellsOf e = 1) {m : Nat} {v : Value} {y : DataW H × List MemPlace}
    (hf : DataW.trod enc P w 0 (fun _ => true) true m t [v] = some y) : ∃ l, Bs w v l := by
  rcases open_ints ht he hcells hf with ⟨hcs, _⟩ | ⟨x, l, c, zs, hcs, _, hl, hm, hz, _, hcell, hwz⟩
  · simp at hcs
    subst hcs
    exact ⟨[], Rd.nil _ _⟩
  · simp at hcs
    subst hcs
    obtain ⟨l', _, h⟩ := bs_of_row hl hm (by simpa using hz) rfl hcell hwz
    exact ⟨l', h⟩

set_option maxRecDepth 100000 in
theorem view_op {H : Type} {enc : TypeId × Value → H} {w : World} {b0 : Nat} {r : Reach} {v : Value} {d : DataW H} {ps : List MemPlace}
    (hval : Value.okWide Try.prog w r b0 44 v) (hd : DataW.Trod enc Try.prog w 0 (fun _ => true) true 44 v d ps) : ∃ o : OpD × Value × Value × Value, v = o.1.agg o.2.1 o.2.2.1 o.2.2.2 ∧ OpV w o.1 o.2.1 o.2.2.1 o.2.2.2 := by
  obtain ⟨cs, rfl, hsz⟩ := okWide_struct Try.underlying44 hval
  have h7 : cs.size = 7 := hsz.trans (by kernel_rfl)
  obtain ⟨m, hy⟩ := hd
  obtain ⟨n0, y0, e0⟩ := op_field Try.underlying44 hy 0 _ rfl
  obtain ⟨n1, y1, e1⟩ := op_field Try.underlying44 hy 1 _ rfl
  obtain ⟨n2, y2, e2⟩ := op_field Try.underlying44 hy 2 _ rfl
  obtain ⟨n3, y3, e3⟩ := op_field Try.underlying44 hy 3 _ rfl
  obtain ⟨n4, y4, e4⟩ := op_field Try.underlying44 hy 4 _ rfl
  obtain ⟨l⟩ := cs
  match l, h7 with
  | [a, b, c, d, e, f, g], _ =>
    have hc0 : Try.prog.cellsOf 3 = 1 := by kernel_rfl
    have hc1 : Try.prog.cellsOf 42 = 3 := by kernel_rfl
    have hc2 : Try.prog.cellsOf 24 = 1 := by kernel_rfl
    have hc3 : Try.prog.cellsOf 5 = 1 := by kernel_rfl
    have e0 : DataW.trod enc Try.prog w 0 (fun _ => true) true n0 3 (([a, b, c, d, e, f, g].drop 0).take (Try.prog.cellsOf 3)) = some y0 := e0
    have e1 : DataW.trod enc Try.prog w 0 (fun _ => true) true n1 42 (([a, b, c, d, e, f, g].drop 1).take (Try.prog.cellsOf 42)) = some y1 := e1
    have e2 : DataW.trod enc Try.prog w 0 (fun _ => true) true n2 24 (([a, b, c, d, e, f, g].drop 4).take (Try.prog.cellsOf 24)) = some y2 := e2
    have e3 : DataW.trod enc Try.prog w 0 (fun _ => true) true n3 24 (([a, b, c, d, e, f, g].drop 5).take (Try.prog.cellsOf 24)) = some y3 := e3
    have e4 : DataW.trod enc Try.prog w 0 (fun _ => true) true n4 24 (([a, b, c, d, e, f, g].drop 6).take (Try.prog.cellsOf 24)) = some y4 := e4
    rw [hc0] at e0
    rw [hc1] at e1
    rw [hc2] at e2 e3 e4
    obtain ⟨z0, g0, _, _⟩ := DataW.trod_int Try.underlying3 e0
    obtain ⟨x0, x1, x2, h0, h1, h2⟩ := op_ints Try.underlying42 Try.underlying3 hc0 e1
    obtain ⟨l2, k2⟩ := op_bytes Try.underlying24 Try.underlying5 hc3 e2
    obtain ⟨l3, k3⟩ := op_bytes Try.underlying24 Try.underlying5 hc3 e3
    obtain ⟨l4, k4⟩ := op_bytes Try.underlying24 Try.underlying5 hc3 e4
    simp at g0
    subst g0 h0 h1 h2
    exact ⟨(⟨z0, x0, x1, x2, l2, l3, l4⟩, e, f, g), rfl, k2, k3, k4⟩

theorem opputs_row (v0 : Value) (o : OpD × Value × Value × Value) (v1 : Value) (p : OpD × Value × Value × Value) (w : World) (h0 : v0 = o.1.agg o.2.1 o.2.2.1 o.2.2.2 ∧ OpV w o.1 o.2.1 o.2.2.1 o.2.2.2) (h1 : v1 = p.1.agg p.2.1 p.2.2.1 p.2.2.2 ∧ OpV w p.1 p.2.1 p.2.2.1 p.2.2.2) :
    Calls Try.prog 6 #[v0, v1] w fun e w' => e = .returned (.bool true) ∧ Below w.heap.size w w' := by
  obtain ⟨rfl, h0⟩ := h0
  obtain ⟨rfl, h1⟩ := h1
  exact opputs_walk _ _ _ _ _ _ _ _ w h0 h1

end Go.Proofs.Yticpmkdlnjnfgaa
