/- Layer 38 (op): Take. -/
import Derived.Test.YticpmkdlnjnfgaaOp7
import Derived.Test.YticpmkdlnjnfgaaReader
import Derived.Deep.CutBlock
set_option linter.unusedSimpArgs false
namespace Go.Proofs.Yticpmkdlnjnfgaa
open Go.RowKit Go.Sort

def opTop : Int := 4611686018427387904
def opRdN (c : List UInt8) : Nat → Nat × Nat
  | 0 => (0, 0)
  | i + 1 => (rnum opTop c (opRdN c i).1 (opRdN c i).2).2
def opValN (c : List UInt8) (i : Nat) : Nat := (rnum opTop c (opRdN c i).1 (opRdN c i).2).1
def opRdP (c : List UInt8) (n : Nat) : Nat → Nat × Nat
  | 0 => opRdN c n
  | j + 1 => (rbytes 1048576 c (opRdP c n j).1 (opRdP c n j).2).2
def opValP (c : List UInt8) (n j : Nat) : List UInt8 := (rbytes 1048576 c (opRdP c n j).1 (opRdP c n j).2).1
def opXs (c : List UInt8) (n : Nat) (j : Nat) : Int := if j < n then (opValN c j : Int) else 0
def opYs (c : List UInt8) (n m : Nat) (j : Nat) : List UInt8 := if j < m then opValP c n j else []
def opOf (k : Int) (c : List UInt8) (n m : Nat) : OpD := ⟨k, opXs c n 0, opXs c n 1, opXs c n 2, opYs c n m 0, opYs c n m 1, opYs c n m 2⟩
def opZero : OpD := ⟨0, 0, 0, 0, [], [], []⟩
def opDone (c : List UInt8) (n m : Nat) : Nat := rdone c (opRdP c n m).1 (opRdP c n m).2
def otake : List UInt8 → OpD × Nat
  | [] => (opZero, 10)
  | h :: c => if opIs (h.toNat : Int) then
      (if opDone c (opN (h.toNat : Int)) (opK (h.toNat : Int)) = 0 then (opOf (h.toNat : Int) c (opN (h.toNat : Int)) (opK (h.toNat : Int)), 0) else (opZero, opDone c (opN (h.toNat : Int)) (opK (h.toNat : Int)))) else (opZero, 11)

theorem opXs_set (c : List UInt8) (i : Nat) : (fun j => if j = i then (opValN c i : Int) else opXs c i j) = opXs c (i + 1) := by
  funext j
  unfold opXs
  by_cases h : j = i
  · subst h; rw [if_pos rfl, if_pos (by omega)]
  · rw [if_neg h]
    by_cases h2 : j < i
    · rw [if_pos h2, if_pos (by omega)]
    · rw [if_neg h2, if_neg (by omega)]
theorem opYs_set (c : List UInt8) (n i : Nat) : (fun j => if j = i then opValP c n i else opYs c n i j) = opYs c n (i + 1) := by
  funext j
  unfold opYs
  by_cases h : j = i
  · subst h; rw [if_pos rfl, if_pos (by omega)]
  · rw [if_neg h]
    by_cases h2 : j < i
    · rw [if_pos h2, if_pos (by omega)]
    · rw [if_neg h2, if_neg (by omega)]

def OTakePost (b : List UInt8) (w : World) (e : Ending) (w' : World) : Prop :=
  ∃ va vb vc, e = .returned (.tuple #[(otake b).1.agg va vb vc, .int .i64 ((otake b).2 : Int)]) ∧ OpV w' (otake b).1 va vb vc ∧ Below w.heap.size w w'

def opZeroRow : Array Value := #[.int .i64 0, .int .i64 0, .int .i64 0, .int .i64 0, .slice none 0 0, .slice none 0 0, .slice none 0 0]

/-- in the midst of taking -/
structure TK (w : World) (r q g : Nat) (y : Value) (c : List UInt8) (k : Int) (F : Nat → Int) (Y : Nat → Value) (L : Nat → List UInt8) (pos bad : Nat) (W : World) : Prop where
  rd : Rdr W g y c pos bad
  row : W.heap[q]? = some (.cells #[.int .i64 k, .int .i64 (F 0), .int .i64 (F 1), .int .i64 (F 2), Y 0, Y 1, Y 2] 44 (0, 0))
  res : W.heap[r]? = some (.cells opZeroRow 44 (0, 0))
  own : ∀ t, t < 3 → Ob W w.heap.size 5 (Y t) (L t)
  bel : Below w.heap.size w W
  lr : w.heap.size ≤ r
  lq : w.heap.size ≤ q
  lg : w.heap.size ≤ g
  ne : r ≠ q
  src : c ≠ [] → ∀ x, y.ownBlock = some x → x < w.heap.size

section
variable {w W W' : World} {r q g : Nat} {y : Value} {c : List UInt8} {k : Int} {F : Nat → Int} {Y : Nat → Value} {L : Nat → List UInt8} {pos bad pos' bad' : Nat}
theorem op_ne_tag {w : World} {g h t u : Nat} {A C : Array Value} (hg : w.heap[g]? = some (.cells A t (0, 0))) (hh : w.heap[h]? = some (.cells C u (0, 0))) (hne : t ≠ u) : g ≠ h := by
  rintro rfl
  rw [hg] at hh
  simp at hh
  exact hne hh.2
theorem TK.below (h : TK w r q g y c k F Y L pos bad W) (hb : Below W.heap.size W W') : TK w r q g y c k F Y L pos bad W' :=
  ⟨h.rd.below hb, (hb.block q (heap_lt h.row)).trans h.row, (hb.block r (heap_lt h.res)).trans h.res, fun t ht => (h.own t ht).below hb, h.bel.trans (hb.mono h.bel.size), h.lr, h.lq, h.lg, h.ne, h.src⟩
theorem TK.read (h : TK w r q g y c k F Y L pos bad W) (h1 : Rdr W' g y c pos' bad') (ho : Only (fun k => k = g) W W') : TK w r q g y c k F Y L pos' bad' W' :=
  ⟨h1, (ho.block q (heap_lt h.row) (op_ne_tag h.row h.rd.cell (by decide))).trans h.row, (ho.block r (heap_lt h.res) (op_ne_tag h.res h.rd.cell (by decide))).trans h.res,
    fun t ht => (h.own t ht).only ho fun x hx e => (h.own t ht).ne h.rd.cell (by decide) (by rw [hx, e]),
    h.bel.trans (ho.below (fun x hx => by have := h.lg; omega) h.bel.size), h.lr, h.lq, h.lg, h.ne, h.src⟩
theorem TK.setq (h : TK w r q g y c k F Y L pos bad W) (o : Nat) (v : Value) {F' : Nat → Int} {Y' : Nat → Value} {L' : Nat → List UInt8}
    (hr : (W.setCell ⟨q, o, none⟩ v).heap[q]? = some (.cells #[.int .i64 k, .int .i64 (F' 0), .int .i64 (F' 1), .int .i64 (F' 2), Y' 0, Y' 1, Y' 2] 44 (0, 0)))
    (hL : ∀ t, t < 3 → Ob W w.heap.size 5 (Y' t) (L' t)) : TK w r q g y c k F' Y' L' pos bad (W.setCell ⟨q, o, none⟩ v) := by
  have ho := set_only W q o v
  have hsrc : c ≠ [] → ∀ x, y.ownBlock = some x → ¬ x = q := fun hc x hx e => by have := h.src hc x hx; have := h.lq; omega
  exact ⟨h.rd.only ho (fun e => op_ne_tag h.row h.rd.cell (by decide) e.symm) hsrc, hr, (ho.block r (heap_lt h.res) h.ne).trans h.res,
    fun t ht => (hL t ht).only ho fun x hx e => (hL t ht).ne h.row (by decide) (by rw [hx, e]),
    h.bel.trans (ho.below (fun x hx => by have := h.lq; omega) h.bel.size), h.lr, h.lq, h.lg, h.ne, h.src⟩
theorem TK.num (h : TK w r q g y c k F Y L pos bad W) (i : Nat) (hi : i < 3) (x : Int) : TK w r q g y c k (fun j => if j = i then x else F j) Y L pos bad (W.setCell ⟨q, 1 + i, none⟩ (.int .i64 x)) := by
  refine h.setq _ _ ?_ h.own
  have h3 : i = 0 ∨ i = 1 ∨ i = 2 := by omega
  rcases h3 with rfl | rfl | rfl
  · exact row_setCell h.row _ _
  · exact row_setCell h.row _ _
  · exact row_setCell h.row _ _
theorem TK.part (h : TK w r q g y c k F Y L pos bad W) (i : Nat) (hi : i < 3) (v : Value) (l : List UInt8) (hv : Ob W w.heap.size 5 v l) : TK w r q g y c k F (fun j => if j = i then v else Y j) (fun j => if j = i then l else L j) pos bad (W.setCell ⟨q, 4 + i, none⟩ v) := by
  refine h.setq _ _ ?_ ?_
  · have h3 : i = 0 ∨ i = 1 ∨ i = 2 := by omega
    rcases h3 with rfl | rfl | rfl
    · exact row_setCell h.row _ _
    · exact row_setCell h.row _ _
    · exact row_setCell h.row _ _
  · intro t ht
    by_cases e : t = i
    · simp only [e, if_pos]; exact hv
    · simp only [if_neg e]; exact h.own t ht
end

end Go.Proofs.Yticpmkdlnjnfgaa
