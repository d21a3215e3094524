/- Rows of one's own: written over by copy; grown by noughts. No function of the program stands here. -/
import Derived.Test.YtjnbdeopoohnmaaRset
import Derived.Laws.IdiomCopy
import Derived.Lib.AppendZerosOnto
import Derived.Lib.Overlaps
import Derived.Laws.Externs
set_option linter.unusedSimpArgs false
namespace Go.Proofs.Ytjnbdeopoohnmaa
open Go.RowKit

section
variable {P : Program}
theorem run_copy_n (w : World) (dT sT ty elem : TypeId) (sz b o dLen dCap : Nat) (a : Addr) (sLen sCap : Nat) (cs : List Value)
    (hu : P.underlying dT = some (.slice elem)) (hs : (P.info? elem).map (·.size) = some sz) (hn : cs.length = Nat.min sLen dLen * sz)
    (hsrc : ∀ j v, cs[j]? = some v → w.cell? (a.add j) = some v) (hc : ∀ j, j < cs.length → (w.cell? ⟨b, o + j, none⟩).isSome = true) (hf : ∀ j, j < cs.length → w.frozen? ⟨b, o + j, none⟩ = false) (h1 : ∀ v ∈ cs, v.oneCell' = true) :
    (Builtin.copy_ #[dT, sT] ty #[.slice (some ⟨b, o, none⟩) dLen dCap, .slice (some a) sLen sCap]).run P w = .ok (goInt (Nat.min sLen dLen)) (w.setCells b o cs) := by
  have hl := run_loadCells_list (P := P) w a cs hsrc
  have hst := run_storeCells_cells (P := P) b o cs 0 w (by simpa using hc) (by simpa using hf) h1
  cases hq : P.info? elem with
  | none => simp [hq] at hs
  | some i =>
    have hi : i.size = sz := by simpa [hq] using hs
    simp [Builtin.copy_, run_underlying hu, Builtin.lenOf, Builtin.firstCells, sizeOf, typeInfo, hq, hi, ← hn, hl, hst]

theorem wpList_copy_n (w : World) {ops : Array Oper} {rest : List Oper} {o : Oper} {a : Act} {Q : Exit → Act → World → Prop} (hgd : o.guard = none) (d s : Operand) (t t' : TypeId)
    (ho : o.op = .call { callee := .builtin .copy, args := #[d, s], argTypes := #[t, t'] }) (v u : Value) (hd : a.eval d = v) (hs : a.eval s = u) {v' : Value} {w' : World}
    (hr : (Builtin.copy_ #[t, t'] o.type #[v, u]).run P w = .ok v' w') (h : wpList P ops Q rest (a.put o.dst v') w') : wpList P ops Q (o :: rest) a w :=
  wpList_plain hgd fun K hK => by
    unfold Oper.wp execOp
    simp only [ho, resolve, invoke, builtin, Sem.run_bind, Sem.run_pure, Result.andThen_ok, List.map_toArray, List.map_cons, List.map_nil, hd, hs, hr]
    exact hK _ _ h
theorem step_copy_n {ops : Array Oper} {o : Oper} {a : Act} {w : World} {K : Act → World → Prop} {Q : Exit → Act → World → Prop} {E : Prop}
    (hg : o.guard = none) (d x : Operand) (dT sT : TypeId) (hop : o.op = Op.call { callee := Callee.builtin Builtin.copy, args := #[d, x], argTypes := #[dT, sT] })
    (v u : Value) (hd : a.eval d = v) (hx : a.eval x = u) {v' : Value} {w' : World} (hr : (Builtin.copy_ #[dT, sT] o.type #[v, u]).run P w = .ok v' w') (hK : K (a.put o.dst v') w') :
    if Region.wanted o (yielded ops a.tmps) = true then Oper.wp P o a w K Q else E := by
  have hw : Region.wanted o (yielded ops a.tmps) = true := by simp [Region.wanted, hg]
  rw [if_pos hw]
  unfold Oper.wp
  simp [execOp, hop, resolve, invoke, builtin, hd, hx, hr, Result.andThen]
  exact hK
end

section
variable {α : Type} {s : Nat} {cs : α → List Value} {w : World} {e g cap : Nat} {l : List α}
/-- a piece is written over, or behind -/
theorem Row.over (L : Lay s cs) (h : Row s cs w e g cap l) (j : Nat) (hj : j ≤ l.length) (m : List α) (hc : j + m.length ≤ cap) :
    Row s cs (w.setCells g (j * s) (gcells cs m)) e g cap (l.take j ++ m ++ l.drop (j + m.length)) ∧ Only (fun k => k = g) w (w.setCells g (j * s) (gcells cs m)) := by
  obtain ⟨cur, h1, h2, h3⟩ := h.row
  obtain ⟨c1, k1, k2, k3, k4⟩ := setCells_row g e (gcells cs m) w cur (j * s) h1
  have hlen : (l.take j ++ m ++ l.drop (j + m.length)).length = j + m.length + (l.length - (j + m.length)) := by simp; omega
  have hle := Nat.mul_le_mul_right s h.le
  have hcc := Nat.mul_le_mul_right s hc
  have hjj := Nat.mul_le_mul_right s hj
  rw [Nat.add_mul] at hcc
  have hT : ((gcells cs l).take (j * s)).length = j * s := by rw [List.length_take, gcells_len L]; omega
  have hM : (gcells cs m).length = m.length * s := gcells_len L m
  refine ⟨⟨by rw [hlen]; have := h.le; omega, h.mx, c1, k1, k3.trans h2, ?_⟩, k2⟩
  rw [hlen, gcells_append, gcells_append, ← gcells_take L, ← gcells_drop L]
  apply List.ext_getElem?
  intro q
  rw [List.getElem?_take]
  have e1 : (j + m.length + (l.length - (j + m.length))) * s = j * s + m.length * s + (l.length * s - (j * s + m.length * s)) := by
    rw [Nat.add_mul, Nat.add_mul, Nat.sub_mul, Nat.add_mul]
  have e2 : (j + m.length) * s = j * s + m.length * s := Nat.add_mul _ _ _
  rw [e1, e2]
  by_cases hq : q < j * s + m.length * s + (l.length * s - (j * s + m.length * s))
  · rw [if_pos hq, Array.getElem?_toList, k4 q (by rw [h2]; omega), hM]
    by_cases h5 : q < j * s
    · rw [if_neg (by omega), List.getElem?_append_left (by rw [List.length_append]; omega), List.getElem?_append_left (by omega), List.getElem?_take, if_pos h5, ← h3, List.getElem?_take, if_pos (by omega), Array.getElem?_toList]
    · by_cases h6 : q < j * s + m.length * s
      · rw [if_pos ⟨by omega, h6⟩, List.getElem?_append_left (by rw [List.length_append]; omega), List.getElem?_append_right (by omega), hT]
      · rw [if_neg (by omega), List.getElem?_append_right (by rw [List.length_append]; omega), List.length_append, hT, hM, List.getElem?_drop, ← h3, List.getElem?_take, if_pos (by omega), Array.getElem?_toList]
        congr 1
        omega
  · rw [if_neg hq, List.getElem?_eq_none]
    rw [List.length_append, List.length_append, hT, hM, List.length_drop, gcells_len L]
    omega
theorem isSome_sets (b : Nat) (vs : List Value) (o : Nat) (w : World) (h : ∀ j, j < vs.length → (w.cell? ⟨b, o + j, none⟩).isSome = true) (k : Nat) (hk : (w.cell? ⟨b, k, none⟩).isSome = true) : ((w.setCells b o vs).cell? ⟨b, k, none⟩).isSome = true := by
  by_cases hin : o ≤ k ∧ k < o + vs.length
  · have := World.cell?_setCells_in b vs o w h (k - o) (by omega)
    rw [show o + (k - o) = k by omega] at this
    rw [this]; rfl
  · rw [World.cell?_setCells_out b vs o w ⟨b, k, none⟩ (fun _ _ => by show k < o ∨ o + vs.length ≤ k; omega)]
    exact hk
/-- a new row: what was, and the same one over and over -/
theorem Row.fresh (w : World) (e : Nat) (l : List α) (cells : Array Value) (c : Nat) (hc : l.length ≤ c) (hm : c ≤ maxLen) (hs : cells.size = c * s) (ht : cells.toList.take (l.length * s) = gcells cs l) :
    Row s cs (w.alloc (.cells cells e)) e w.heap.size c l := ⟨hc, hm, cells, heap_alloc_new _ _, hs, ht⟩
end

end Go.Proofs.Ytjnbdeopoohnmaa
