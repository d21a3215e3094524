/- Layer 8 (hmac): the chapter's example walked; small laws. -/
import Derived.Test.YtjnbdeopoohnmaaGreatDoorHm2
import Derived.Test.YtjnbdeopoohnmaaGreatDoorHmR
import Derived.Test.YtjnbdeopoohnmaaGreatDoorHmA
import Derived.Deep.RegionHeld3
import Derived.Laws.RangeAny
import Derived.Deep.CutBlock
import Derived.Deep.DeepCutAuto
set_option linter.unusedSimpArgs false
namespace Go.Proofs.YtjnbdeopoohnmaaGreatDoor
open Go.RowKit Go.Sort

theorem next_at {P : Program} (W : World) (g : Nat) (s : ByteArray) (pos : Nat) (hg : W.heap[g]? = some (.stringIter s pos)) (h : pos < s.size) (ha : (s[pos]'h).toNat < 128) :
    ∃ W1, (∀ ty, (Instr.next (.pointer (some ⟨g, 0, none⟩)) true ty).run P W = .ok (.tuple #[.bool true, .int .i64 pos, .int .i32 (s[pos]'h).toNat]) W1) ∧ W1.heap[g]? = some (.stringIter s (pos + 1)) ∧ Only (fun k => k = g) W W1 := by
  have hlt := heap_lt hg
  refine ⟨{ W with heap := W.heap.setIfInBounds g (.stringIter s (pos + 1)) }, fun ty => ?_, ?_, ⟨rfl, rfl, rfl, by simp, fun k _ hk => ?_⟩⟩
  · simp only [Instr.next, getObj, setObj, Sem.run_bind, Sem.run, hg, Result.andThen, h, if_true, decode_ascii s pos h ha]
    simp [goInt, Sem.run, hg]
  · simp [hlt]
  · simp only [Array.getElem?_setIfInBounds]
    rw [if_neg (fun e => hk e.symm)]
theorem next_stop {P : Program} (W : World) (g : Nat) (s : ByteArray) (pos : Nat) (hg : W.heap[g]? = some (.stringIter s pos)) (h : ¬ pos < s.size) (ty : TypeId) :
    (Instr.next (.pointer (some ⟨g, 0, none⟩)) true ty).run P W = .ok (.tuple #[.bool false]) W := by
  simp [Instr.next, getObj, Sem.run, hg, h]

/-- a list of one part -/
theorem tag1_any (vk vb : Value) (key b : List UInt8) (g : Nat) (w : World) (hk : Bs w vk key) (hc : w.cell? ⟨g, 0, none⟩ = some vb) (hb : Bs w vb b) (hlk : key.length < 4294967296) (hlen : b.length < 4294967000) (hT : Tabbed w) :
    Calls Tryz.prog 91 #[vk, .slice (some ⟨g, 0, none⟩) 1 1] w fun e w' => ∃ v, e = .returned v ∧ Ob w' w.heap.size 5 v (htag key b) ∧ Below w.heap.size w w' := by
  have hrd : Rd w 1 (.slice (some ⟨g, 0, none⟩) 1 1) [vb].length [vb] :=
    ⟨rfl, _, 1, rfl, Nat.le_refl _, by decide, by simp, .inr ⟨g, 0, rfl, by have := World.block_lt_of_cell? w _ hc; simpa using this, fun j u hu => by
      match j with
      | 0 => simpa using hc.trans (by simpa using hu)
      | j + 1 => simp at hu⟩⟩
  have h := tag_any vk (.slice (some ⟨g, 0, none⟩) 1 1) key [vb] [b] rfl w hk hrd (fun i v l hv hl => by
    match i with
    | 0 => obtain rfl : vb = v := by simpa using hv
           obtain rfl : b = l := by simpa using hl
           exact hb
    | i + 1 => simp at hv) hlk (by simpa using hlen) hT
  simpa using h

def wantS : ByteArray := ⟨#[119, 104, 97, 116, 32, 100, 111, 32, 121, 97, 32, 119, 97, 110, 116, 32, 102, 111, 114, 32, 110, 111, 116, 104, 105, 110, 103, 63]⟩
theorem wantS_at : ∀ (pos : Nat), pos < 28 → ∃ (h : pos < wantS.size) (x : UInt8), wantS[pos]'h = x ∧ x.toNat < 128 ∧ wantL[pos]? = some x := by
  intro pos hp
  have h : pos < wantS.size := hp
  have hl : pos < wantL.length := hp
  refine ⟨h, wantS[pos]'h, rfl, ?_, ?_⟩
  · have : ∀ i : Fin 28, (wantS[i.1]'i.2).toNat < 128 := by decide +kernel
    exact this ⟨pos, hp⟩
  · have : ∀ i : Fin 28, wantL[i.1]? = some (wantS[i.1]'i.2) := by decide +kernel
    exact this ⟨pos, hp⟩

theorem bel_al {w W : World} (h : Below w.heap.size w W) (o : Obj) : Below w.heap.size w (W.alloc o) := h.alloc h.size o
theorem bel_dr {w W : World} (h : Below w.heap.size w W) : Below w.heap.size w W.drew := h.drew
theorem bel_tr {w W W' : World} (h : Below w.heap.size w W) (k : Below W.heap.size W W') : Below w.heap.size w W' := h.trans (k.mono h.size)
theorem cell_dr (W : World) (a : Addr) : W.drew.cell? a = W.cell? a := rfl
theorem cell_n1 (w : World) (x : Value) (t : TypeId) : (w.alloc (.cells #[x] t)).cell? ⟨w.heap.size, 0, none⟩ = some x :=
  cell_of_row _ _ _ _ _ (0, 0) (heap_alloc_new _ _)
theorem cell_n2 (w : World) (x : Value) (t : TypeId) (o : Obj) : ((w.alloc (.cells #[x] t)).alloc o).cell? ⟨w.heap.size, 0, none⟩ = some x := by
  refine cell_of_row _ _ _ _ _ (0, 0) (?_ : _ = some (Obj.cells #[x] t (0, 0)))
  rw [alloc_get, if_neg (by simp)]
  exact heap_alloc_new _ _
theorem cell_n3 (w : World) (x : Value) (t : TypeId) (o : Obj) : ((w.alloc o).alloc (.cells #[x] t)).cell? ⟨w.heap.size + 1, 0, none⟩ = some x := by
  refine cell_of_row _ _ _ _ _ (0, 0) (?_ : _ = some (Obj.cells #[x] t (0, 0)))
  rw [alloc_get, if_pos (by simp)]

theorem rd_n1 (w : World) (a b c : Value) (t : TypeId) : Rd (w.alloc (.cells #[a, b, c] t)) 1 (.slice (some ⟨w.heap.size, 0, none⟩) 3 3) 3 [a, b, c] := rd_lit w t #[a, b, c] 3 rfl (by decide)
theorem rd_n2 (w : World) (a b c : Value) (t : TypeId) (o : Obj) : Rd ((w.alloc (.cells #[a, b, c] t)).alloc o) 1 (.slice (some ⟨w.heap.size, 0, none⟩) 3 3) 3 [a, b, c] := (rd_n1 w a b c t).alloc o
theorem rd_n3 (w : World) (a b c : Value) (t : TypeId) (o : Obj) : Rd ((w.alloc o).alloc (.cells #[a, b, c] t)) 1 (.slice (some ⟨w.heap.size + 1, 0, none⟩) 3 3) 3 [a, b, c] := by
  have := rd_n1 (w.alloc o) a b c t
  simpa using this

end Go.Proofs.YtjnbdeopoohnmaaGreatDoor
