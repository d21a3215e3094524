/- Layer 7 (sha): the walk of (words).block. -/
import Derived.Test.YtmhgdddnjnichaaDoorShaS
import Derived.Test.YtmhgdddnjnichaaDoorBase3
import Derived.Test.YtmhgdddnjnichaaDoorFoot
import Derived.Laws.CopyOwn
import Derived.Deep.RegionHeld3
import Derived.Deep.MidRow
import Derived.Lib.QuietBelow
import Derived.Deep.Cut
import Derived.StillTailTactics
set_option linter.unusedSimpArgs false
namespace Go.Proofs.YtmhgdddnjnichaaDoor
open Go.RowKit Go.Sort

def St.agg (s : St) : Value := .agg #[.int .u32 (wn s.a), .int .u32 (wn s.b), .int .u32 (wn s.c), .int .u32 (wn s.d), .int .u32 (wn s.e), .int .u32 (wn s.f), .int .u32 (wn s.g), .int .u32 (wn s.h)]
def St.row (s : St) : Array Value := #[.int .u32 (wn s.a), .int .u32 (wn s.b), .int .u32 (wn s.c), .int .u32 (wn s.d), .int .u32 (wn s.e), .int .u32 (wn s.f), .int .u32 (wn s.g), .int .u32 (wn s.h)]
/-- a byte as a word -/
def bw (l : List UInt8) (i : Nat) : UInt32 := (l[i]?.getD 0).toUInt32
def mword (l : List UInt8) (i : Nat) : UInt32 := bw l (4 * i) <<< UInt32.ofNat 24 ||| bw l (4 * i + 1) <<< UInt32.ofNat 16 ||| bw l (4 * i + 2) <<< UInt32.ofNat 8 ||| bw l (4 * i + 3)
/-- sixteen cells -/
def ring (f : Nat → UInt32) : Array Value := ((List.range 16).map fun j => Value.int .u32 (wn (f j))).toArray

theorem wn_byte (l : List UInt8) (i : Nat) (x : UInt8) (h : l[i]? = some x) : (x.toNat : Int) = wn (bw l i) := by
  unfold wn bw
  rw [h]
  simp

theorem ring_get (f : Nat → UInt32) {j : Nat} (h : j < 16) : (ring f)[j]? = some (.int .u32 (wn (f j))) := by
  unfold ring
  simp [h]
theorem ring_len (f : Nat → UInt32) : (ring f).size = 16 := by simp [ring]
theorem ring_at (f : Nat → UInt32) {j : Nat} (h : j < (ring f).size) : (ring f)[j] = .int .u32 (wn (f j)) := by simp [ring]
theorem ring_set (f : Nat → UInt32) (k : Nat) (x : UInt32) : (ring f).setIfInBounds k (.int .u32 (wn x)) = ring fun j => if j = k then x else f j := by
  apply Array.ext
  · simp [ring_len]
  · intro i h1 h2
    rw [Array.getElem_setIfInBounds, ring_at, ring_at]
    · by_cases e : k = i
      · subst e
        simp
      · rw [if_neg e, if_neg (fun h => e h.symm)]
    · simpa using h1
theorem ring_congr {f g : Nat → UInt32} (h : ∀ j, j < 16 → f j = g j) : ring f = ring g := by
  apply Array.ext
  · simp [ring_len]
  · intro i h1 h2
    rw [ring_at, ring_at, h i (by simpa [ring_len] using h1)]

theorem i64_and15i (n : Int) : bits .and .i64 n 15 = n % 16 := by
  have h15 : (BitVec.ofInt 64 15).toNat = 2 ^ 4 - 1 := by decide
  have key : (BitVec.ofInt 64 n &&& BitVec.ofInt 64 15).toNat = (n % ((2 ^ 64 : Nat) : Int)).toNat % 2 ^ 4 := by
    rw [BitVec.toNat_and, BitVec.toNat_ofInt, h15, Nat.and_two_pow_sub_one_eq_mod]
  show IntKind.i64.wrap ((BitVec.ofInt 64 n &&& BitVec.ofInt 64 15).toNat : Nat) = n % 16
  rw [key, IntKind.wrap_i64]
  omega
theorem i64_and15 (t : Nat) : bits BinOp.and IntKind.i64 (t : Int) 15 = ((t % 16 : Nat) : Int) := by
  rw [i64_and15i]
  omega

theorem table_index (KC : List Value) (t : Nat) (x : Value) (h : KC[t]? = some x) (ht : t < 64) (W : World) :
    (Instr.index 128 (.agg KC.toArray) (.int .i64 (t : Int))).run Tryd.prog W = .ok x W := by
  have h1 : (t : Int).toNat = t := by omega
  have h2 : (0 : Int) ≤ t ∧ (t : Int) < 64 := by omega
  have hc : Tryd.prog.cellsOf 90 = 1 := by kernel_rfl
  simp [Instr.index, run_underlying Tryd.underlying128, asIntOf, go_sem, h1, h2, h]
  intro h3
  omega

/-- a region that draws: still operations ahead of a tail; its world under a name of its own -/
theorem wp_still_tail2 {P : Program} {id : Nat} {Q : Exit → Act → World → Prop} {a : Act} {w : World} {l : List Oper} (n : Nat) (hm : P.follows .mixedOrders = true) (hB : Region.lexTailB .any l.toArray n = true)
    (h : ∀ W, W = w.drew → wpStill P l.toArray W (fun a' => wpList P l.toArray Q (l.drop n) a' W) (l.take n) a) : (Code.region id l.toArray true).wp P Q a w :=
  wp_region_still_tail n hm hB (h _ rfl)

theorem arr16_index (B : Nat) (i : Nat) (hi : i < 16) (W : World) :
    (Instr.indexAt 127 (.pointer (some ⟨B, 0, none⟩)) (.int .i64 (i : Int))).run Tryd.prog W = .ok (.pointer (some ⟨B, i, none⟩)) W := by
  have h1 : (i : Int).toNat = i := by omega
  have h2 : (0 : Int) ≤ i ∧ (i : Int) < 16 := by omega
  have hc : Tryd.prog.cellsOf 90 = 1 := by kernel_rfl
  simp [Instr.indexAt, run_underlying Tryd.underlying127, asIntOf, go_sem, h1, h2]
  intro h3
  omega
theorem words_index (B : Nat) (i : Nat) (hi : i < 8) (W : World) :
    (Instr.indexAt 92 (.pointer (some ⟨B, 0, none⟩)) (.int .i64 (i : Int))).run Tryd.prog W = .ok (.pointer (some ⟨B, i, none⟩)) W := by
  have h1 : (i : Int).toNat = i := by omega
  have h2 : (0 : Int) ≤ i ∧ (i : Int) < 8 := by omega
  have hc : Tryd.prog.cellsOf 90 = 1 := by kernel_rfl
  simp [Instr.indexAt, run_underlying Tryd.underlying92, asIntOf, go_sem, h1, h2]
  intro h3
  omega

theorem row8_cells {W : World} {B : Nat} {s : St} (h : W.heap[B]? = some (.cells s.row 92 (0, 0))) :
    W.cell? ⟨B, 0, none⟩ = some (.int .u32 (wn s.a)) ∧ W.cell? ⟨B, 1, none⟩ = some (.int .u32 (wn s.b)) ∧ W.cell? ⟨B, 2, none⟩ = some (.int .u32 (wn s.c)) ∧ W.cell? ⟨B, 3, none⟩ = some (.int .u32 (wn s.d)) ∧
    W.cell? ⟨B, 4, none⟩ = some (.int .u32 (wn s.e)) ∧ W.cell? ⟨B, 5, none⟩ = some (.int .u32 (wn s.f)) ∧ W.cell? ⟨B, 6, none⟩ = some (.int .u32 (wn s.g)) ∧ W.cell? ⟨B, 7, none⟩ = some (.int .u32 (wn s.h)) :=
  ⟨cell_of_row _ _ 0 _ _ _ h, cell_of_row _ _ 1 _ _ _ h, cell_of_row _ _ 2 _ _ _ h, cell_of_row _ _ 3 _ _ _ h, cell_of_row _ _ 4 _ _ _ h, cell_of_row _ _ 5 _ _ _ h, cell_of_row _ _ 6 _ _ _ h, cell_of_row _ _ 7 _ _ _ h⟩

/-- the rows of block's own, in its second loop -/
structure RS (w W : World) (B2 B4 B5 B7 : Nat) (s S : St) (f : Nat → UInt32) : Prop where
  r7 : W.heap[B7]? = some (.cells S.row 92 (0, 0))
  r5 : W.heap[B5]? = some (.cells (ring f) 127 (0, 0))
  r2 : W.heap[B2]? = some (.cells s.row 92 (0, 0))
  r4 : W.heap[B4]? = some (.cells #[.int .u32 0, .int .u32 0, .int .u32 0, .int .u32 0, .int .u32 0, .int .u32 0, .int .u32 0, .int .u32 0] 92 (0, 0))
  bel : Below w.heap.size w W
  lt : B2 = w.heap.size ∧ B4 = B2 + 1 ∧ B5 = B2 + 2 ∧ B5 < B7

section
variable {w W W' : World} {B2 B4 B5 B7 : Nat} {s S : St} {f : Nat → UInt32}
theorem RS.later (h : RS w W B2 B4 B5 B7 s S f) (hb : Below W.heap.size W W') : RS w W' B2 B4 B5 B7 s S f :=
  ⟨(hb.block _ (heap_lt h.r7)).trans h.r7, (hb.block _ (heap_lt h.r5)).trans h.r5, (hb.block _ (heap_lt h.r2)).trans h.r2, (hb.block _ (heap_lt h.r4)).trans h.r4, h.bel.trans (hb.mono h.bel.size), h.lt⟩
theorem RS.drew (h : RS w W B2 B4 B5 B7 s S f) (hW : W' = W.drew) : RS w W' B2 B4 B5 B7 s S f := by
  subst hW
  exact h.later (Below.refl _ _).drew
theorem RS.drewN (h : RS w W B2 B4 B5 B7 s S f) (k : Nat) : RS w (W.drewN k) B2 B4 B5 B7 s S f := h.later (below_drewN (Below.refl _ _) k)
/-- the ring is stored into -/
theorem RS.set5 (h : RS w W B2 B4 B5 B7 s S f) {i : Nat} {x : UInt32} {g : Nat → UInt32} (hg : ∀ j, j < 16 → (if j = i then x else f j) = g j) :
    RS w (W.setCell ⟨B5, i, none⟩ (.int .u32 (wn x))) B2 B4 B5 B7 s S g := by
  have ho := set_only W B5 i (.int .u32 (wn x))
  have hl := h.lt
  refine ⟨(ho.block _ (heap_lt h.r7) (by omega)).trans h.r7, ?_, (ho.block _ (heap_lt h.r2) (by omega)).trans h.r2, (ho.block _ (heap_lt h.r4) (by omega)).trans h.r4, h.bel.trans (ho.below (fun b hb => by omega) h.bel.size), h.lt⟩
  rw [row_setCell h.r5 i _, ring_set, ring_congr hg]
/-- the state's row is written anew -/
theorem RS.put7 (h : RS w W B2 B4 B5 B7 s S f) {S' : St} (ho : Only (fun k => k = B7) W W') (hr : W'.heap[B7]? = some (.cells S'.row 92 (0, 0))) :
    RS w W' B2 B4 B5 B7 s S' f := by
  have hl := h.lt
  exact ⟨hr, (ho.block _ (heap_lt h.r5) (by omega)).trans h.r5, (ho.block _ (heap_lt h.r2) (by omega)).trans h.r2, (ho.block _ (heap_lt h.r4) (by omega)).trans h.r4, h.bel.trans (ho.below (fun b hb => by omega) h.bel.size), h.lt⟩
theorem RS.cell5 (h : RS w W B2 B4 B5 B7 s S f) {j : Nat} (hj : j < 16) : W.cell? ⟨B5, j, none⟩ = some (.int .u32 (wn (f j))) := by
  rw [cell_of_row W _ _ _ _ _ h.r5, ring_get _ hj]
end

/-- the state's cells, one on -/
theorem row8_src {W : World} {B : Nat} {S : St} (h : W.heap[B]? = some (.cells S.row 92 (0, 0))) (j : Nat) (v : Value)
    (hv : [Value.int .u32 (wn S.a), .int .u32 (wn S.b), .int .u32 (wn S.c), .int .u32 (wn S.d), .int .u32 (wn S.e), .int .u32 (wn S.f), .int .u32 (wn S.g)][j]? = some v) :
    W.cell? ((⟨B, 0, none⟩ : Addr).add j) = some v := by
  rw [Addr.add_lit, Nat.zero_add, cell_of_row W _ j _ _ _ h]
  match j, hv with
  | 0, hv => exact hv
  | 1, hv => exact hv
  | 2, hv => exact hv
  | 3, hv => exact hv
  | 4, hv => exact hv
  | 5, hv => exact hv
  | 6, hv => exact hv
  | n + 7, hv => simp at hv
/-- eight cells -/
def oct (f : Nat → UInt32) : Array Value := ((List.range 8).map fun j => Value.int .u32 (wn (f j))).toArray
def St.nth (s : St) : Nat → UInt32
  | 0 => s.a
  | 1 => s.b
  | 2 => s.c
  | 3 => s.d
  | 4 => s.e
  | 5 => s.f
  | 6 => s.g
  | _ => s.h
theorem row_oct (s : St) : s.row = oct s.nth := rfl
theorem oct_get (f : Nat → UInt32) {j : Nat} (h : j < 8) : (oct f)[j]? = some (.int .u32 (wn (f j))) := by
  unfold oct
  simp [h]
theorem oct_len (f : Nat → UInt32) : (oct f).size = 8 := by simp [oct]
theorem oct_at (f : Nat → UInt32) {j : Nat} (h : j < (oct f).size) : (oct f)[j] = .int .u32 (wn (f j)) := by simp [oct]
theorem oct_set (f : Nat → UInt32) (k : Nat) (x : UInt32) : (oct f).setIfInBounds k (.int .u32 (wn x)) = oct fun j => if j = k then x else f j := by
  apply Array.ext
  · simp [oct_len]
  · intro i h1 h2
    rw [Array.getElem_setIfInBounds, oct_at, oct_at]
    · by_cases e : k = i
      · subst e
        simp
      · rw [if_neg e, if_neg (fun h => e h.symm)]
    · simpa using h1
theorem oct_congr {f g : Nat → UInt32} (h : ∀ j, j < 8 → f j = g j) : oct f = oct g := by
  apply Array.ext
  · simp [oct_len]
  · intro i h1 h2
    rw [oct_at, oct_at, h i (by simpa [oct_len] using h1)]
theorem add_nth (s t : St) (j : Nat) (h : j < 8) : (s.add t).nth j = s.nth j + t.nth j := by
  match j, h with
  | 0, _ => rfl
  | 1, _ => rfl
  | 2, _ => rfl
  | 3, _ => rfl
  | 4, _ => rfl
  | 5, _ => rfl
  | 6, _ => rfl
  | 7, _ => rfl

/-- the rows of the third loop -/
structure R3 (w W : World) (B2 B4 B7 : Nat) (s : St) (f : Nat → UInt32) : Prop where
  r7 : W.heap[B7]? = some (.cells (oct f) 92 (0, 0))
  r2 : W.heap[B2]? = some (.cells (oct s.nth) 92 (0, 0))
  r4 : W.heap[B4]? = some (.cells #[.int .u32 0, .int .u32 0, .int .u32 0, .int .u32 0, .int .u32 0, .int .u32 0, .int .u32 0, .int .u32 0] 92 (0, 0))
  bel : Below w.heap.size w W
  lt : B2 = w.heap.size ∧ B4 = B2 + 1 ∧ B4 < B7
theorem RS.r3 {w W : World} {B2 B4 B5 B7 : Nat} {s S : St} {f : Nat → UInt32} (h : RS w W B2 B4 B5 B7 s S f) : R3 w W B2 B4 B7 s S.nth :=
  ⟨h.r7, h.r2, h.r4, h.bel, by have := h.lt; omega⟩
section
variable {w W W' : World} {B2 B4 B7 : Nat} {s : St} {f : Nat → UInt32}
theorem R3.drew (h : R3 w W B2 B4 B7 s f) (hW : W' = W.drew) : R3 w W' B2 B4 B7 s f := by
  subst hW
  exact ⟨h.r7, h.r2, h.r4, h.bel.drew, h.lt⟩
theorem R3.set7 (h : R3 w W B2 B4 B7 s f) {i : Nat} {x : UInt32} {g : Nat → UInt32} (hg : ∀ j, j < 8 → (if j = i then x else f j) = g j) :
    R3 w (W.setCell ⟨B7, i, none⟩ (.int .u32 (wn x))) B2 B4 B7 s g := by
  have ho := set_only W B7 i (.int .u32 (wn x))
  have hl := h.lt
  refine ⟨?_, (ho.block _ (heap_lt h.r2) (by omega)).trans h.r2, (ho.block _ (heap_lt h.r4) (by omega)).trans h.r4, h.bel.trans (ho.below (fun b hb => by omega) h.bel.size), h.lt⟩
  rw [row_setCell h.r7 i _, oct_set, oct_congr hg]
theorem R3.cell7 (h : R3 w W B2 B4 B7 s f) {j : Nat} (hj : j < 8) : W.cell? ⟨B7, j, none⟩ = some (.int .u32 (wn (f j))) := by
  rw [cell_of_row W _ _ _ _ _ h.r7, oct_get _ hj]
theorem R3.cell2 (h : R3 w W B2 B4 B7 s f) {j : Nat} (hj : j < 8) : W.cell? ⟨B2, j, none⟩ = some (.int .u32 (wn (s.nth j))) := by
  rw [cell_of_row W _ _ _ _ _ h.r2, oct_get _ hj]
end

/-- a store of a whole aggregate over a whole row. -/
theorem run_storeVar_row {P : Program} (w : World) (t ty g : TypeId) (Z cs : Array Value) (hg : w.heap[g]? = some (.cells Z t (0, 0))) (hs : (P.info? ty).map (·.size) = some cs.size) (hz : Z.size = cs.size) (h1 : ∀ v ∈ cs.toList, v.oneCell' = true) :
    (storeVar ty ⟨g, 0, none⟩ (.agg cs)).run P w = .ok () (w.setRow g cs) := by
  have hst := run_storeCells_at P g 0 t cs.toList 0 Z w hg (by simp; omega) h1
  obtain ⟨i, hi, hsz⟩ := Option.map_eq_some_iff.1 hs
  have hz2 : w.setRow g (Z.toList.take (0 + 0) ++ cs.toList ++ Z.toList.drop (0 + 0 + cs.toList.length)).toArray = w.setRow g cs := by
    congr 1
    have : List.drop (0 + 0 + cs.toList.length) Z.toList = [] := List.drop_eq_nil_of_le (by simp; omega)
    rw [this]
    simp
  rw [hz2] at hst
  simp [storeVar, Value.cells, Go.sizeOf, typeInfo, hi, hsz, hst]

theorem wpList_store_row {P : Program} {w : World} {ops : Array Oper} {rest : List Oper} {o : Oper} {a : Act} {Q : Exit → Act → World → Prop} {t ty g : TypeId} {Z cs : Array Value} (hgd : o.guard = none) (x y : Operand)
    (ho : o.op = .store ty x y) (hx : a.eval x = .pointer (some ⟨g, 0, none⟩)) (hy : a.eval y = .agg cs) (hg : w.heap[g]? = some (.cells Z t (0, 0)))
    (hs : (P.info? ty).map (·.size) = some cs.size) (hz : Z.size = cs.size) (h1 : ∀ v ∈ cs.toList, v.oneCell' = true)
    (h : wpList P ops Q rest (a.put o.dst undef) (w.setRow g cs)) : wpList P ops Q (o :: rest) a w := by
  refine wpList_plain hgd fun K hK => ?_
  have hr := run_storeVar_row (P := P) w t ty g Z cs hg hs hz h1
  unfold Oper.wp execOp
  simp only [ho, hx, hy, Instr.storeAt, Instr.sureAddr, Sem.run_bind, Sem.run_pure, Result.andThen_ok, hr]
  exact hK _ _ h

theorem setRow_only (w : World) (g : Nat) (cs : Array Value) : Only (fun k => k = g) w (w.setRow g cs) :=
  ⟨rfl, rfl, rfl, by simp [World.setRow], fun k _ hn => setRow_other w g k cs hn⟩

/-- still contracts of `down` -/
theorem down_still (n : Nat) (h0 : 0 < n) (h : n < 32) (x : UInt32) (W : World) :
    Calls Tryd.prog 98 #[.int .u32 (wn x), .int .i64 (n : Int)] W (fun e w'' => e = .returned (.int .u32 (wn (rotr x n))) ∧ w'' = W) :=
  (down_any x n h0 h W).mono fun _ _ h => ⟨h.1, h.2.symm⟩

end Go.Proofs.YtmhgdddnjnichaaDoor
