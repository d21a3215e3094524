/- Layer 36 (snap): slices of the steps of the statement, that are read; as arguments. -/
import Derived.Test.YtbonapdainlpjaaLg1
import Derived.Test.YtbonapdainlpjaaFrame
import Derived.Lib.SmallJoins
namespace Go.Proofs.Ytbonapdainlpjaa
open Go.ChangeShapes Go.WideShapes Go.ChangeAt Go.RowKit Go.Deep Go.Joins

structure StD where
  x : Rc
  c : Bool
  p : Int
  q : Int

def csSt (s : StD) : List Value := [s.x.v, .bool s.c, .int .u8 s.p, .int .u8 s.q]
theorem laySt : Lay 4 csSt := ⟨fun _ => rfl, fun a u h => by
  simp only [csSt, List.mem_cons, List.not_mem_nil, or_false] at h
  rcases h with rfl | rfl | rfl | rfl <;> rfl, by decide⟩
theorem info_st : (Try.prog.info? 88).map (fun i => (i.zero, i.size, i.bytes)) = some (some (.agg #[.slice none 0 0, .bool false, .int .u8 0, .int .u8 0]), 4, 32) := by kernel_rfl
theorem elSt : ElTy Try.prog 86 88 (.agg #[.slice none 0 0, .bool false, .int .u8 0, .int .u8 0]) 4 32 := ⟨Try.underlying86, info_parts info_st, rfl, by decide⟩

def StWf (w : World) (s : StD) : Prop := Bs w s.x.v s.x.2 ∧ (0 ≤ s.p ∧ s.p < 256) ∧ (0 ≤ s.q ∧ s.q < 256)
/-- steps that are read -/
def Sts (w : World) (v : Value) (l : List StD) : Prop := Gs 4 csSt w v l ∧ ∀ s ∈ l, StWf w s

section
variable {H : Type} {enc : TypeId × Value → H} {P : Program} {w : World} {b0 : Nat} {r : Reach}
theorem sbytes_of_trod {t e : TypeId} (ht : P.underlying t = some (.slice e)) (he : P.underlying e = some (.int .u8)) (hcells : P.cellsOf e = 1) {m : Nat} {cs : List Value} {y : DataW H × List MemPlace}
    (hf : DataW.trod enc P w 0 (fun _ => true) true m t cs = some y) : ∃ x : Rc, cs = [x.v] ∧ Bs w x.v x.2 := by
  rcases open_ints ht he hcells hf with ⟨hcs, _⟩ | ⟨x, l, c, zs, hcs, _, hl, hm, hz, _, hcell, hwz⟩
  · exact ⟨((none, 0, 0), []), hcs, Rd.nil _ _⟩
  · obtain ⟨l', _, h⟩ := bs_of_row hl hm (by simpa using hz) rfl hcell hwz
    exact ⟨((some x, l, c), l'), hcs, h⟩
end

set_option maxRecDepth 100000 in
theorem view_sts {H : Type} {enc : TypeId × Value → H} {w : World} {b0 : Nat} {r : Reach} {v : Value} {d : DataW H} {ps : List MemPlace}
    (hval : Value.okWide Try.prog w r b0 86 v) (hd : DataW.Trod enc Try.prog w 0 (fun _ => true) true 86 v d ps) : ∃ l : List StD, Sts w v l := by
  obtain ⟨n, m, C, hrd, hC⟩ := view_rows Try.underlying86 (s := 4) (by kernel_rfl) (by omega) hval hd
  have key : ∀ i, i < n → ∃ s : StD, C i = csSt s ∧ StWf w s := by
    intro i hi
    obtain ⟨hl, y, hy⟩ := hC i hi
    obtain ⟨y0, y1, y2, y3, k, _, hl', e0, e1, e2, e3⟩ := trod_struct4 Try.underlying88 hy
    generalize C i = cs at *
    match cs, hl with
    | [a, b, c, d], _ =>
      have hc1 : Try.prog.cellsOf 43 = 1 := by kernel_rfl
      have hc2 : Try.prog.cellsOf 4 = 1 := by kernel_rfl
      have hc3 : Try.prog.cellsOf 5 = 1 := by kernel_rfl
      simp only at e0 e1 e2 e3
      rw [hc1] at e0
      rw [hc2] at e1
      rw [hc3] at e2 e3
      obtain ⟨x, g0, k0⟩ := sbytes_of_trod Try.underlying43 Try.underlying5 (by kernel_rfl) e0
      obtain ⟨b1, g1, _⟩ := DataW.trod_bool Try.underlying4 e1
      obtain ⟨z2, g2, _, k2⟩ := DataW.trod_int Try.underlying5 e2
      obtain ⟨z3, g3, _, k3⟩ := DataW.trod_int Try.underlying5 e3
      simp at g0 g1 g2 g3
      subst g0 g1 g2 g3
      exact ⟨⟨x, b1, z2, z3⟩, rfl, k0, wf_u8 k2, wf_u8 k3⟩
  haveI : Inhabited StD := ⟨⟨((none, 0, 0), []), false, 0, 0⟩⟩
  obtain ⟨S, hS⟩ := choose_lt key
  refine ⟨(List.range n).map S, ?_, ?_⟩
  · have e : (List.range n).flatMap C = gcells csSt ((List.range n).map S) := by
      unfold gcells
      rw [List.flatMap_map]
      have : ∀ (L : List Nat), (∀ i ∈ L, i < n) → L.flatMap C = L.flatMap fun i => csSt (S i) := by
        intro L
        induction L with
        | nil => intro _; rfl
        | cons i L ih =>
          intro h
          simp only [List.flatMap_cons]
          rw [(hS i (h i (by simp))).1, ih fun j hj => h j (by simp [hj])]
      exact this _ fun i hi => by simpa using hi
    unfold Gs
    rw [← e]
    simpa using hrd
  · intro s hi
    obtain ⟨i, hi', rfl⟩ := List.mem_map.1 hi
    exact (hS i (List.mem_range.1 hi')).2
end Go.Proofs.Ytbonapdainlpjaa
