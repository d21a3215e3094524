/- Rows of one's own: an element set anew, the rest cleared. No function of the program stands here. -/
import Derived.Test.YtjnbdeopoohnmaaBase
import Derived.Lib.SliceRun
import Derived.Deep.RegionHeld3
import Derived.Lib.QuietBelow
set_option linter.unusedSimpArgs false
namespace Go.Proofs.Ytjnbdeopoohnmaa
open Go.RowKit

/-- cells stored into a row, one behind the other -/
theorem setCells_row (g t : Nat) : ∀ (vs : List Value) (w : World) (cs : Array Value) (o : Nat), w.heap[g]? = some (.cells cs t (0, 0)) → ∃ cs' : Array Value, (w.setCells g o vs).heap[g]? = some (.cells cs' t (0, 0)) ∧ Only (fun k => k = g) w (w.setCells g o vs) ∧ cs'.size = cs.size ∧
    ∀ j, j < cs.size → cs'[j]? = if o ≤ j ∧ j < o + vs.length then vs[j - o]? else cs[j]?
  | [], w, cs, o, h => ⟨cs, h, Only.refl _ _, rfl, fun j _ => by rw [if_neg (by intro h; simp at h; omega)]⟩
  | v :: r, w, cs, o, h => by
    have h1 := setCell_eq_setRow w g o cs t _ v h
    have h2 : (w.setCell ⟨g, o, none⟩ v).heap[g]? = some (.cells (cs.setIfInBounds o v) t (0, 0)) := by rw [h1]; exact setRow_heap w g cs _ t _ h
    obtain ⟨cs', k1, k2, k3, k4⟩ := setCells_row g t r (w.setCell ⟨g, o, none⟩ v) (cs.setIfInBounds o v) (o + 1) h2
    refine ⟨cs', k1, (set_only w g o v).trans k2, by rw [k3]; simp, fun j hj => ?_⟩
    rw [k4 j (by simpa using hj)]
    by_cases he : j = o
    · subst he
      rw [if_neg (by omega), if_pos (by simp), Array.getElem?_setIfInBounds_self]
      simp [hj]
    · rw [Array.getElem?_setIfInBounds_ne (by omega)]
      by_cases hr : o + 1 ≤ j ∧ j < o + 1 + r.length
      · rw [if_pos hr, if_pos (by simp; omega), show j - o = (j - (o + 1)) + 1 by omega, List.getElem?_cons_succ]
      · rw [if_neg hr, if_neg (by simp; omega)]

section
variable {α : Type} {s : Nat} {cs : α → List Value}
/-- what a row of the call's own is -/
theorem Gw.open_ {w : World} {B e : Nat} {v : Value} {l : List α} (h : Gw s cs w B e v l) (hl : l ≠ []) :
    ∃ g cap, ∃ cur : Array Value, v = .slice (some ⟨g, 0, none⟩) l.length cap ∧ B ≤ g ∧ w.heap[g]? = some (.cells cur e (0, 0)) ∧ l.length ≤ cap ∧ cap ≤ maxLen ∧ cur.size = cap * s ∧ cur.toList.take (l.length * s) = gcells cs l := by
  obtain ⟨h1, h2⟩ := h
  rcases h2 with ⟨_, h3⟩ | ⟨g, cap, cur, rfl, hg, hh, hn, hm, hs, ht⟩
  · exact absurd (List.eq_nil_of_length_eq_zero h3) hl
  · exact ⟨g, cap, cur, rfl, hg, hh, hn, hm, hs, ht⟩

/-- a row by its block -/
structure Row (s : Nat) (cs : α → List Value) (w : World) (e g cap : Nat) (l : List α) : Prop where
  le : l.length ≤ cap
  mx : cap ≤ maxLen
  row : ∃ cur : Array Value, w.heap[g]? = some (.cells cur e (0, 0)) ∧ cur.size = cap * s ∧ cur.toList.take (l.length * s) = gcells cs l
variable {w : World} {B e g cap : Nat} {v : Value} {l : List α}
theorem Gw.row (h : Gw s cs w B e v l) (hl : l ≠ []) : ∃ g cap, v = .slice (some ⟨g, 0, none⟩) l.length cap ∧ B ≤ g ∧ Row s cs w e g cap l := by
  obtain ⟨g, cap, cur, h1, h2, h3, h4, h5, h6, h7⟩ := h.open_ hl
  exact ⟨g, cap, h1, h2, h4, h5, cur, h3, h6, h7⟩
theorem Row.gw (L : Lay s cs) (h : Row s cs w e g cap l) (hB : B ≤ g) : Gw s cs w B e (.slice (some ⟨g, 0, none⟩) l.length cap) l := by
  obtain ⟨cur, h1, h2, h3⟩ := h.row
  exact ⟨by rw [gcells_len L], .inr ⟨g, cap, cur, rfl, hB, h1, h.le, h.mx, h2, h3⟩⟩
theorem Row.lt (h : Row s cs w e g cap l) : g < w.heap.size := by
  obtain ⟨cur, h1, h2, h3⟩ := h.row
  exact heap_lt h1
theorem Row.below (h : Row s cs w e g cap l) {w' : World} (hb : Below w.heap.size w w') : Row s cs w' e g cap l := by
  obtain ⟨cur, h1, h2, h3⟩ := h.row
  exact ⟨h.le, h.mx, cur, (hb.block g (heap_lt h1)).trans h1, h2, h3⟩
theorem Row.free (h : Row s cs w e g cap l) (j : Nat) : w.frozen? ⟨g, j, none⟩ = false := by
  obtain ⟨cur, h1, h2, h3⟩ := h.row
  exact row_free h1 j
theorem Row.some (h : Row s cs w e g cap l) (j : Nat) (hj : j < cap * s) : (w.cell? ⟨g, j, none⟩).isSome = true := by
  obtain ⟨cur, h1, h2, h3⟩ := h.row
  rw [cell_of_row _ g j cur e (0, 0) h1]
  simp [h2, hj]
theorem Row.cell (L : Lay s cs) (h : Row s cs w e g cap l) {i : Nat} {x : α} (hi : l[i]? = Option.some x) {j : Nat} {u : Value} (hj : (cs x)[j]? = Option.some u) : w.cell? ⟨g, i * s + j, none⟩ = Option.some u := by
  obtain ⟨cur, h1, h2, h3⟩ := h.row
  have hjs : j < s := by have := (List.getElem?_eq_some_iff.1 hj).1; rwa [L.len] at this
  have hil : i < l.length := (List.getElem?_eq_some_iff.1 hi).1
  have hb : (i + 1) * s ≤ l.length * s := Nat.mul_le_mul_right _ hil
  rw [Nat.succ_mul] at hb
  rw [cell_of_row _ g _ cur e (0, 0) h1]
  have k := gcells_get L l i j x hi hjs
  rw [hj, ← h3, List.getElem?_take, if_pos (by omega)] at k
  simpa using k

/-- an element set anew -/
theorem Row.set (L : Lay s cs) (h : Row s cs w e g cap l) (i : Nat) (hi : i < l.length) (x : α) : Row s cs (w.setCells g (i * s) (cs x)) e g cap (l.set i x) ∧ Only (fun k => k = g) w (w.setCells g (i * s) (cs x)) := by
  obtain ⟨cur, h1, h2, h3⟩ := h.row
  obtain ⟨c1, k1, k2, k3, k4⟩ := setCells_row g e (cs x) w cur (i * s) h1
  have hle := Nat.mul_le_mul_right s h.le
  have hb : (i + 1) * s ≤ l.length * s := Nat.mul_le_mul_right _ hi
  rw [Nat.succ_mul] at hb
  refine ⟨⟨by simpa using h.le, h.mx, c1, k1, k3.trans h2, ?_⟩, k2⟩
  rw [List.set_eq_take_append_cons_drop, if_pos hi, gcells_append, show gcells cs (x :: l.drop (i + 1)) = cs x ++ gcells cs (l.drop (i + 1)) by simp [gcells], ← gcells_take L, ← gcells_drop L]
  have hT : ((gcells cs l).take (i * s)).length = i * s := by rw [List.length_take, gcells_len L]; omega
  apply List.ext_getElem?
  intro q
  rw [List.getElem?_take]
  by_cases hq : q < l.length * s
  · rw [show (l.take i ++ x :: l.drop (i + 1)).length = l.length by simp; omega, if_pos hq, Array.getElem?_toList, k4 q (by rw [h2]; omega), L.len]
    by_cases h5 : q < i * s
    · rw [if_neg (by omega), List.getElem?_append_left (by omega), List.getElem?_take, if_pos h5, ← h3, List.getElem?_take, if_pos hq, Array.getElem?_toList]
    · rw [List.getElem?_append_right (by omega), hT]
      by_cases h6 : q < i * s + s
      · rw [if_pos ⟨by omega, h6⟩, List.getElem?_append_left (by rw [L.len]; omega)]
      · rw [if_neg (by omega), List.getElem?_append_right (by rw [L.len]; omega), L.len, List.getElem?_drop, ← h3, List.getElem?_take, if_pos (by rw [Nat.succ_mul]; omega), Array.getElem?_toList]
        congr 1
        rw [Nat.succ_mul]; omega
  · rw [show (l.take i ++ x :: l.drop (i + 1)).length = l.length by simp; omega, if_neg hq, List.getElem?_eq_none]
    rw [List.length_append, hT, List.length_append, L.len, List.length_drop, gcells_len L, Nat.succ_mul]
    omega
/-- what lies behind is written over -/
theorem Row.cut (L : Lay s cs) (h : Row s cs w e g cap l) (i : Nat) (hi : i ≤ l.length) (vs : List Value) : Row s cs (w.setCells g (i * s) vs) e g cap (l.take i) ∧ Only (fun k => k = g) w (w.setCells g (i * s) vs) := by
  obtain ⟨cur, h1, h2, h3⟩ := h.row
  obtain ⟨c1, k1, k2, k3, k4⟩ := setCells_row g e vs w cur (i * s) h1
  have hle := Nat.mul_le_mul_right s h.le
  have hb : i * s ≤ l.length * s := Nat.mul_le_mul_right _ hi
  have hil : (l.take i).length = i := by simp; omega
  refine ⟨⟨by rw [hil]; exact Nat.le_trans hi h.le, h.mx, c1, k1, k3.trans h2, ?_⟩, k2⟩
  rw [hil, ← gcells_take L]
  apply List.ext_getElem?
  intro q
  rw [List.getElem?_take, List.getElem?_take]
  by_cases hq : q < i * s
  · rw [if_pos hq, if_pos hq, Array.getElem?_toList, k4 q (by rw [h2]; omega), if_neg (by omega), ← h3, List.getElem?_take, if_pos (by omega), Array.getElem?_toList]
  · rw [if_neg hq, if_neg hq]
end

theorem wpList_clear1 {P : Program} {ops : Array Oper} {rest : List Oper} {o : Oper} {a : Act} {w w' : World} {Q : Exit → Act → World → Prop} (hgd : o.guard = none) (x : Operand) (t : TypeId) (v : Value) (hx : a.eval x = v)
    (ho : o.op = .call { callee := .builtin .clear, args := #[x], argTypes := #[t] }) (hrun : (Builtin.clear_ #[t] o.type #[v]).run P w = .ok (.tuple #[]) w')
    (h : wpList P ops Q rest (a.put o.dst (.tuple #[])) w') : wpList P ops Q (o :: rest) a w := by
  refine wpList_plain hgd fun K hK => ?_
  unfold Oper.wp
  simp [execOp, ho, resolve, invoke, builtin, hx, hrun, Result.andThen]
  exact hK _ _ h

theorem run_clear_n {P : Program} (w : World) (t e ty : TypeId) (z : Value) (ht : P.underlying t = some (.slice e)) (hv : ∀ w, (zeroValue e).run P w = .ok z w) (h1 : ∀ u ∈ z.cells.toList, u.oneCell' = true) (hz : 0 < z.cells.size) (b o n c : Nat)
    (hc : ∀ j, j < n * z.cells.size → (w.cell? ⟨b, o + j, none⟩).isSome = true) (hf : ∀ j, j < n * z.cells.size → w.frozen? ⟨b, o + j, none⟩ = false) :
    (Builtin.clear_ #[t] ty #[.slice (some ⟨b, o, none⟩) n c]).run P w = .ok (.tuple #[]) (w.setCells b o (Builtin.zeroCells z.cells n).toList) := by
  have hzl : (Builtin.zeroCells z.cells n).toList.length = n * z.cells.size := by simp [Builtin.zeroCells]
  have hone : ∀ u ∈ (Builtin.zeroCells z.cells n).toList, u.oneCell' = true := by
    intro u hu
    simp only [Builtin.zeroCells, Array.toList_map, List.mem_map] at hu
    obtain ⟨i, _, rfl⟩ := hu
    have hi : i % z.cells.size < z.cells.size := Nat.mod_lt _ hz
    rw [getElem!_pos z.cells (i % z.cells.size) hi]
    exact h1 _ (by simp)
  have hst := run_storeCells_cells (P := P) b o (Builtin.zeroCells z.cells n).toList 0 w (by simpa [hzl] using hc) (by simpa [hzl] using hf) hone
  simp only [Nat.add_zero] at hst
  cases n with
  | zero =>
    have hz0 : (Builtin.zeroCells z.cells 0).toList = [] := List.eq_nil_of_length_eq_zero (by rw [hzl]; simp)
    rw [hz0]
    simp [Builtin.clear_, run_underlying ht, World.setCells]
  | succ n => simp [Builtin.clear_, run_underlying ht, hv, hst]

section
variable {α : Type} {s : Nat} {cs : α → List Value} {P : Program} {t e : TypeId} {z : Value} {bytes : Nat} {ops : Array Oper} {o : Oper} {a : Act} {Q : Exit → Act → World → Prop} {base : Nat} {v : Value} {l : List α} {w : World}
theorem step_append_row {K : Act → World → Prop} {F : Prop} (L : Lay s cs) (hown : Gw s cs w base e v l) {y : Value} {m : List α} (hrd : Gs s cs w y m) (E : ElTy P t e z s bytes) (h63 : (l.length + m.length) * bytes ≤ 140737488355328) (hmx : l.length + m.length ≤ 9223372036854775807) (hbase : base ≤ w.heap.size)
    (h : ∀ v' w', Gw s cs w' base e v' (l ++ m) → Below base w w' → w.grownBy w' v.ownBlock → K (a.put o.dst v') w')
    (so xo : Operand) (hgd : o.guard = none) (ho : o.op = .call { callee := .builtin .append, args := #[so, xo], argTypes := #[t, t] })
    (hs : a.eval so = v) (hx : a.eval xo = y) : if Region.wanted o (yielded ops a.tmps) = true then Oper.wp P o a w K Q else F := by
  have hw : Region.wanted o (yielded ops a.tmps) = true := by simp [Region.wanted, hgd]
  rw [if_pos hw]
  refine wp_append_mv so xo t ho E base v l.length (gcells cs l) y m.length (gcells cs m) hs hown hx hrd (gcells_one L m) (by simpa [maxLen] using hmx) h63 hbase ?_
  intro v' w' h1 h2 h3
  refine h v' w' ?_ ((Below.refl _ _).grown h2 hbase fun k hk => (World.ownsRow.lt hown k hk).1) h2
  unfold Gw
  rw [gcells_append, List.length_append]
  exact h1
end

theorem bw_dr {a w : World} {B : Nat} (h : Below B a w) : Below B a w.drew := h.drew
theorem bw_al {a w : World} (h : Below a.heap.size a w) (ob : Obj) : Below a.heap.size a (w.alloc ob) := h.alloc h.size ob
def lenOfV : Value → Nat
  | .slice _ n _ => n
  | _ => 0

end Go.Proofs.Ytjnbdeopoohnmaa
