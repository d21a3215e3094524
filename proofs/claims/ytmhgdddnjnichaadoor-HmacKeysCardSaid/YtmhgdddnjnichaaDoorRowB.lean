/- Rows of bytes that are known whole, as functions of the place: made, stored into, copied into, seen as slices. No function of the program stands here. -/
import Derived.Test.YtmhgdddnjnichaaDoorFoot
import Derived.Test.YtmhgdddnjnichaaDoorBase3
import Derived.Laws.CopyOwn
import Derived.Laws.MakeOwn
namespace Go.Proofs.YtmhgdddnjnichaaDoor
open Go.RowKit

def rowb (n : Nat) (f : Nat → UInt8) : Array Value := ((List.range n).map fun j => bv (f j)).toArray
theorem rowb_len (n : Nat) (f : Nat → UInt8) : (rowb n f).size = n := by simp [rowb]
theorem rowb_get {n : Nat} (f : Nat → UInt8) {j : Nat} (h : j < n) : (rowb n f)[j]? = some (bv (f j)) := by
  unfold rowb
  simp [h]
theorem rowb_at {n : Nat} (f : Nat → UInt8) {j : Nat} (h : j < (rowb n f).size) : (rowb n f)[j] = bv (f j) := by simp [rowb]
theorem rowb_set {n : Nat} (f : Nat → UInt8) (k : Nat) (x : UInt8) : (rowb n f).setIfInBounds k (bv x) = rowb n fun j => if j = k then x else f j := by
  apply Array.ext
  · simp [rowb_len]
  · intro i h1 h2
    rw [Array.getElem_setIfInBounds, rowb_at, rowb_at]
    · by_cases e : k = i
      · subst e
        simp
      · rw [if_neg e, if_neg (fun h => e h.symm)]
    · simpa using h1
theorem rowb_congr {n : Nat} {f g : Nat → UInt8} (h : ∀ j, j < n → f j = g j) : rowb n f = rowb n g := by
  apply Array.ext
  · simp [rowb_len]
  · intro i h1 h2
    rw [rowb_at, rowb_at, h i (by simpa [rowb_len] using h1)]
theorem madeCells_rowb (n : Nat) : madeCells (Value.int .u8 0).cells (n * 1) = rowb n fun _ => 0 := by
  apply Array.ext
  · simp [rowb_len, size_madeCells]
  · intro i h1 h2
    rw [rowb_at]
    simp [madeCells, Value.cells, bv, Nat.mod_one]

section
variable {P : Program} {t e : TypeId} {bytes : Nat} {w : World}
theorem wpList_make_rowb {ops : Array Oper} {rest : List Oper} {o : Oper} {a : Act} {Q : Exit → Act → World → Prop}
    (E : ElTy P t e (.int .u8 0) 1 bytes) (n c : Nat) (hnc : n ≤ c) (b2 : bytes * c ≤ 281474976710656) (b3 : c ≤ maxLen)
    (hg : o.guard = none) (l k : Operand) (hop : o.op = Op.makeSlice t l k)
    (kl kc : IntKind) (hl : a.eval l = .int kl (n : Int)) (hc : a.eval k = .int kc (c : Int))
    (hK : wpList P ops Q rest (a.put o.dst (.slice (some ⟨w.heap.size, 0, none⟩) n c)) (w.alloc (.cells (rowb c fun _ => 0) e))) :
    wpList P ops Q (o :: rest) a w := by
  obtain ⟨h1, ⟨i, hi, hz, hs, hb⟩, _⟩ := E
  refine wpList_plain hg fun K hK' => ?_
  have h63 : (c : Int) ≤ 9223372036854775807 := by simp only [maxLen] at b3; omega
  have hb' : (i.bytes : Int) * (c : Int) ≤ 281474976710656 := by
    have h : ((i.bytes * c : Nat) : Int) ≤ 281474976710656 := by rw [hb]; omega
    rwa [Int.natCast_mul] at h
  have hrun := run_make (P := P) w t e i _ h1 hi hz kl kc n c (by omega) (by omega) hb' h63
  rw [hs] at hrun
  simp only [Int.toNat_natCast, madeCells_rowb] at hrun
  unfold Oper.wp
  simp [execOp, hop, hl, hc, hrun, Result.andThen]
  exact hK' _ _ hK

/-- an append of bytes written out, in a region that draws its order -/
theorem step_append_lit {ops : Array Oper} {o : Oper} {a : Act} {Q : Exit → Act → World → Prop} {K : Act → World → Prop} {F : Prop} {z : Value} {base : Nat} {v : Value} {l : List UInt8} (hown : Ob w base e v l) (m : List UInt8) (n : Nat) (hn : m.length = n) (E : ElTy P t e z 1 bytes)
    (h63 : (l.length + m.length) * bytes ≤ 140737488355328) (hmx : l.length + m.length ≤ 9223372036854775807) (hbase : base ≤ w.heap.size)
    (h : ∀ v' w', Ob w' base e v' (l ++ m) → Below base w w' → K (a.put o.dst v') w')
    (so xo : Operand) (hgd : o.guard = none) (ho : o.op = .call { callee := .builtin .append, args := #[so, xo], argTypes := #[t, t] })
    (cs : Array Value) (hs : a.eval so = v) (hx : a.eval xo = .slice (some ⟨w.heap.size, 0, none⟩) n n)
    (hc : cs.toList = m.map bv) : if Region.wanted o (yielded ops a.tmps) = true then Oper.wp P o a (w.alloc (.cells cs e)) K Q else F := by
  have hx1 := ob_lit w e cs m n hn (by simp [maxLen]; omega) hc
  have hba : Below w.heap.size w (w.alloc (.cells cs e)) := (Below.refl _ _).alloc (Nat.le_refl _) _
  have ho1 : Ob (w.alloc (.cells cs e)) base e v l := hown.below hba
  refine step_append_bytes_mv ho1 hx1.bs E h63 hmx (by have := hba.size; omega) ?_ so xo hgd ho hs hx
  intro v' w' h1 h2 h3
  exact h v' w' h1 ((hba.mono hbase).trans ((Below.refl _ _).grown h2 (by have := hba.size; omega) fun k hk => (ho1.lt k hk).1))

variable {W : World} {g c : Nat} {f : Nat → UInt8}
/-- such a row as bytes -/
theorem bs_rowb (h : W.heap[g]? = some (.cells (rowb c f) e (0, 0))) (lo n : Nat) (hn : lo + n ≤ c) (hc : c ≤ maxLen) : Bs W (.slice (some ⟨g, lo, none⟩) n (c - lo)) ((List.range n).map fun j => f (lo + j)) := by
  have hl : ((List.range n).map fun j => f (lo + j)).length = n := by simp
  refine ⟨by simp, _, _, by rw [hl], by omega, by omega, by simp, .inr ⟨g, lo, rfl, heap_lt h, fun j u hu => ?_⟩⟩
  rw [List.getElem?_map, List.getElem?_map] at hu
  by_cases hj : j < n
  · rw [List.getElem?_range hj] at hu
    rw [cell_of_row W _ _ _ _ _ h, rowb_get _ (by omega)]
    simpa using hu
  · rw [List.getElem?_eq_none (by simp; omega)] at hu
    simp at hu
theorem ob_rowb (h : W.heap[g]? = some (.cells (rowb c f) e (0, 0))) (B n : Nat) (hB : B ≤ g) (hn : n ≤ c) (hc : c ≤ maxLen) : Ob W B e (.slice (some ⟨g, 0, none⟩) n c) ((List.range n).map f) := by
  refine ⟨by simp, .inr ⟨g, c, _, by simp, hB, h, by simpa using hn, hc, by simp [rowb_len], ?_⟩⟩
  apply List.ext_getElem?
  intro j
  rw [List.getElem?_take]
  by_cases hj : j < n
  · rw [if_pos (by simp; omega), Array.getElem?_toList, rowb_get _ (by omega)]
    simp [hj]
  · rw [if_neg (by simp; omega), List.getElem?_eq_none (by simp; omega)]

/-- the source of a copy -/
theorem Bs.src {a : Option Addr} {n k : Nat} {l : List UInt8} (h : Bs W (.slice a n k) l) (h0 : 0 < l.length) :
    ∃ ad, a = some ad ∧ ∀ j v, (l.map bv)[j]? = some v → W.cell? (ad.add j) = some v := by
  obtain ⟨_, a', c', he, _, _, _, h5⟩ := h
  simp only [Value.slice.injEq] at he
  obtain ⟨rfl, _, _⟩ := he
  rcases h5 with h5 | ⟨b, off, rfl, _, hc⟩
  · omega
  · exact ⟨_, rfl, fun j v hv => by rw [Addr.add_lit]; exact hc j v hv⟩

theorem Bs.from_own {z : Value} {l : List UInt8} {a : Option Addr} {n k : Nat} (E : ElTy P t e z 1 bytes) (h : Bs w (.slice a n k) l) (lo : Nat) (h1 : lo ≤ l.length) :
    ∃ Y, (∀ W : World, (Instr.sliceAt t (.slice a n k) (some (.int .i64 (lo : Int))) none none).run P W = .ok Y W) ∧ Bs w Y (l.drop lo) ∧ Y.ownBlock = (Value.slice a n k).ownBlock := by
  have hT := E.1
  have hel : P.elem t = e := by simp [Program.elem, hT]
  have hs := E.sizeOf
  obtain ⟨hn, hc, _⟩ := h.len_eq
  refine ⟨_, fun W => ?_, h.drop lo h1, ?_⟩
  · rw [run_sliceAt_slice (h := by rw [hel]; exact hT), run_slice_l (ht := by rw [hel]; exact hT) (h0 := by omega) (h1 := by omega), hel, hs]
    simp [Result.andThen, sliced, hn]
  · split
    · cases a <;> rfl
    · cases a with
      | none => rfl
      | some ad => simp only [Option.map_some, Value.ownBlock, Addr.add]; split <;> rfl

theorem rowb_splice (n : Nat) (f : Nat → UInt8) (off : Nat) (l : List UInt8) (h : off + l.length ≤ n) :
    (splice (rowb n f).toList off (l.map bv)).toArray = rowb n fun j => if off ≤ j ∧ j < off + l.length then l[j - off]?.getD 0 else f j := by
  apply Array.ext'
  apply List.ext_getElem?
  intro j
  unfold splice
  by_cases hj : j < n
  · rw [Array.getElem?_toList (xs := rowb n fun j => _), rowb_get _ hj]
    by_cases h1 : j < off
    · rw [List.getElem?_append_left (by simp [rowb_len]; omega), List.getElem?_take, if_pos h1, Array.getElem?_toList, rowb_get _ hj, if_neg (by omega)]
    · rw [List.getElem?_append_right (by simp [rowb_len]; omega)]
      have e1 : (List.take off (rowb n f).toList).length = off := by simp [rowb_len]; omega
      rw [e1]
      by_cases h2 : j < off + l.length
      · rw [List.getElem?_append_left (by simp; omega), List.getElem?_map, if_pos ⟨by omega, h2⟩, List.getElem?_eq_getElem (by omega)]
        simp
      · rw [List.getElem?_append_right (by simp; omega), List.getElem?_drop, List.length_map, Array.getElem?_toList, rowb_get _ (by omega), if_neg (by omega)]
        congr 3
        omega
  · rw [List.getElem?_eq_none (by simp [rowb_len]; omega), List.getElem?_eq_none (by simp [rowb_len]; omega)]
end

end Go.Proofs.YtmhgdddnjnichaaDoor
