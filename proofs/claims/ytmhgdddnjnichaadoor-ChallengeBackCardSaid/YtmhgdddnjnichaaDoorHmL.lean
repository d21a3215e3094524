/- Layer 8 (hmac): the chapter's example walked; small laws. -/
import Derived.Test.YtmhgdddnjnichaaDoorHm2
import Derived.Test.YtmhgdddnjnichaaDoorHmR
import Derived.Test.YtmhgdddnjnichaaDoorHmA
import Derived.Deep.RegionHeld3
import Derived.Laws.RangeAny
import Derived.Deep.CutBlock
import Derived.Deep.DeepCutAuto
set_option linter.unusedSimpArgs false
namespace Go.Proofs.YtmhgdddnjnichaaDoor
open Go.RowKit Go.Sort

theorem next_at {P : Program} (W : World) (g : Nat) (s : ByteArray) (pos : Nat) (hg : W.heap[g]? = some (.stringIter s pos)) (h : pos < s.size) (ha : (s[pos]'h).toNat < 128) :
    ∃ W1, (∀ ty, (Instr.next (.pointer (some ⟨g, 0, none⟩)) true ty).run P W = .ok (.tuple #[.bool true, .int .i64 pos, .int .i32 (s[pos]'h).toNat]) W1) ∧ W1.heap[g]? = some (.stringIter s (pos + 1)) ∧ Only (fun k => k = g) W W1 := by
  have hlt := heap_lt hg
  refine ⟨{ W with heap := W.heap.setIfInBounds g (.stringIter s (pos + 1)) }, fun ty => ?_, ?_, ⟨rfl, rfl, rfl, by simp, fun k _ hk => ?_⟩⟩
  · simp only [Instr.next, getObj, setObj, Sem.run_bind, Sem.run, hg, Result.andThen, h, if_true, decode_ascii s pos h ha]
    simp [goInt, Sem.run, hg]
  · simp [hlt]
  · simp only [Array.getElem?_setIfInBounds]
    rw [if_neg (fun e => hk e.symm)]
theorem next_stop {P : Program} (W : World) (g : Nat) (s : ByteArray) (pos : Nat) (hg : W.heap[g]? = some (.stringIter s pos)) (h : ¬ pos < s.size) (ty : TypeId) :
    (Instr.next (.pointer (some ⟨g, 0, none⟩)) true ty).run P W = .ok (.tuple #[.bool false]) W := by
  simp [Instr.next, getObj, Sem.run, hg, h]

/-- a list of one part -/
theorem tag1_any (vk vb : Value) (key b : List UInt8) (g : Nat) (w : World) (hk : Bs w vk key) (hc : w.cell? ⟨g, 0, none⟩ = some vb) (hb : Bs w vb b) (hlk : key.length < 4294967296) (hlen : b.length < 4294967000) (hT : Tabbed w) :
    Calls Tryd.prog 23 #[vk, .slice (some ⟨g, 0, none⟩) 1 1] w fun e w' => ∃ v, e = .returned v ∧ Ob w' w.heap.size 5 v (htag key b) ∧ Below w.heap.size w w' := by
  have hrd : Rd w 1 (.slice (some ⟨g, 0, none⟩) 1 1) [vb].length [vb] :=
    ⟨rfl, _, 1, rfl, Nat.le_refl _, by decide, by simp, .inr ⟨g, 0, rfl, by have := World.block_lt_of_cell? w _ hc; simpa using this, fun j u hu => by
      match j with
      | 0 => simpa using hc.trans (by simpa using hu)
      | j + 1 => simp at hu⟩⟩
  have h := tag_any vk (.slice (some ⟨g, 0, none⟩) 1 1) key [vb] [b] rfl w hk hrd (fun i v l hv hl => by
    match i with
    | 0 => obtain rfl : vb = v := by simpa using hv
           obtain rfl : b = l := by simpa using hl
           exact hb
    | i + 1 => simp at hv) hlk (by simpa using hlen) hT
  simpa using h

def wantS : ByteArray := ⟨#[119, 104, 97, 116, 32, 100, 111, 32, 121, 97, 32, 119, 97, 110, 116, 32, 102, 111, 114, 32, 110, 111, 116, 104, 105, 110, 103, 63]⟩
theorem wantS_at : ∀ (pos : Nat), pos < 28 → ∃ (h : pos < wantS.size) (x : UInt8), wantS[pos]'h = x ∧ x.toNat < 128 ∧ wantL[pos]? = some x := by
  intro pos hp
  have h : pos < wantS.size := hp
  have hl : pos < wantL.length := hp
  refine ⟨h, wantS[pos]'h, rfl, ?_, ?_⟩
  · have : ∀ i : Fin 28, (wantS[i.1]'i.2).toNat < 128 := by decide +kernel
    exact this ⟨pos, hp⟩
  · have : ∀ i : Fin 28, wantL[i.1]? = some (wantS[i.1]'i.2) := by decide +kernel
    exact this ⟨pos, hp⟩

set_option maxRecDepth 100000 in
set_option maxHeartbeats 800000 in
theorem awake8 (w : World) (hT : Tabbed w) : Calls Tryd.prog 22 #[] w fun e w' => e = .returned (.bool true) ∧ Below w.heap.size w w' := by
  have HT := Lib.hid hT
  clear hT
  go_enter Tryd.func22, Tryd.ntmps22
  go_wp2_with fail
  have h0 : Hid ((w.iter wantS 0).heap[w.heap.size]? = some (.stringIter wantS 0)) := World.iter_heap w wantS 0
  have hb0 : Hid (Below w.heap.size w (w.iter wantS 0)) := (Below.refl _ _).alloc (Nat.le_refl _) _
  go_loopw [1] (fun v wr => ∃ pos : Nat, pos ≤ 28 ∧ Hid (wr.heap[w.heap.size]? = some (.stringIter wantS pos)) ∧ Hid (Ob wr (w.heap.size + 1) 5 v (wantL.take pos)) ∧ Hid (Below w.heap.size w wr)) (fun _ wr => 28 - wr.iterPos w.heap.size)
  case atStart => exact ⟨0, by omega, h0, Lib.hid (Ob.nil _ _ _), hb0⟩
  case round =>
    obtain ⟨pos, hpos, hg, ho, hb⟩ := hrel
    clear h0 hb0
    have hs : w.heap.size + 1 ≤ wr.heap.size := heap_lt hg.out
    have hll : (wantL.take pos).length ≤ 28 := by rw [List.length_take]; omega
    by_cases hlt : pos < 28
    · obtain ⟨hp, x, hx, hx8, hxl⟩ := wantS_at pos hlt
      obtain ⟨W1, hr, hg1, ho1⟩ := next_at (P := Tryd.prog) wr w.heap.size wantS pos hg.out hp (by rw [hx]; exact hx8)
      rw [hx] at hr
      have hxi : (0 : Int) ≤ (x.toNat : Int) ∧ (x.toNat : Int) < 128 := by omega
      have HO1 := Lib.hid ho1
      have HG1 := Lib.hid hg1
      have HX := Lib.hid hxl
      have hob : Hid (Ob W1 (w.heap.size + 1) 5 u1 (wantL.take pos)) := ho.out.only ho1 (fun k hk => by have := (ho.out.lt k hk).1; omega)
      have hs1 : w.heap.size + 1 ≤ W1.heap.size := by have := ho1.size; omega
      clear hx hxl hg1 ho1
      go_wp2_with (at_builtin; go_must (refine wpList_append_byte hob.out x elB (by omega) (by omega) hs1 ?_ _ _ rfl rfl _ rfl rfl rfl); intro v4 w4 ho4 hg4 hb4; have HO4 := Lib.hid ho4; have HB4 := Lib.hid hb4; clear ho4 hb4 hg4)
      have hg4 : w4.heap[w.heap.size]? = some (.stringIter wantS (pos + 1)) := (HB4.out.block _ (by omega)).trans HG1.out
      refine ⟨⟨pos + 1, by omega, Lib.hid hg4, Lib.hid ?_, Lib.hid ?_⟩, ?_⟩
      · rw [List.take_add_one, HX.out]
        exact HO4.out
      · exact hb.out.trans ((HO1.out.below (fun k hk => by omega) (by omega)).trans (HB4.out.mono (by omega)))
      · rw [iterPos_of hg4, iterPos_of hg.out]
        omega
    · obtain rfl : pos = 28 := by omega
      have hr := next_stop (P := Tryd.prog) wr w.heap.size wantS 28 hg.out (by decide)
      have hall : wantL.take 28 = wantL := List.take_of_length_le (by decide)
      rw [hall] at ho
      obtain ⟨va, vc, hv1⟩ := ho.out.shape
      have hln : wantL.length = 28 := rfl
      rw [hln] at hv1
      subst hv1
      clear hall hln hll
      go_wp2_with fail
      have hb1 := (hb.out.alloc (by omega) (Obj.cells #[.int .u8 74, .int .u8 101, .int .u8 102, .int .u8 101] 5))
      have hb2 := hb1.alloc hb1.size (Obj.cells #[.slice va 28 vc] 22)
      refine (tag1_any (.slice (some ⟨wr.heap.size, 0, none⟩) 4 4) (.slice va 28 vc) jefe wantL (wr.heap.size + 1) _ ?_ ?_ ?_ (by decide) (by decide) (HT.out.below hb2)).mono ?_
      · exact (ob_lit wr 5 #[.int .u8 74, .int .u8 101, .int .u8 102, .int .u8 101] jefe 4 rfl (by decide) rfl).bs.alloc _
      · refine cell_of_row _ _ _ _ _ _ (?_ : _ = some (Obj.cells #[.slice va 28 vc] 22 (0, 0)))
        rw [alloc_get, if_pos (by simp)]
      · exact (ho.out.bs.alloc _).alloc _
      · rw [want_tag]
        rintro e w5 ⟨v5, rfl, ho5, hb5⟩
        have HB := Lib.hid (hb2.trans (hb5.mono hb2.size))
        obtain ⟨a, c, adr, rfl, -, -, hi, -, hc⟩ := Bs.open_n elB ho5.bs 32 rfl
        have x0 := fun W => hi W 0 (by omega) (by omega)
        have x1 := fun W => hi W 1 (by omega) (by omega)
        have x2 := fun W => hi W 2 (by omega) (by omega)
        have x3 := fun W => hi W 3 (by omega) (by omega)
        have c0 : w5.cell? (adr (0 : Int).toNat) = some (.int .u8 91) := hc 0 91 rfl
        have c1 : w5.cell? (adr (1 : Int).toNat) = some (.int .u8 220) := hc 1 220 rfl
        have c2 : w5.cell? (adr (2 : Int).toNat) = some (.int .u8 193) := hc 2 193 rfl
        have c3 : w5.cell? (adr (3 : Int).toNat) = some (.int .u8 70) := hc 3 70 rfl
        simp only [show (0:Int).toNat = 0 from rfl, show (1:Int).toNat = 1 from rfl, show (2:Int).toNat = 2 from rfl, show (3:Int).toNat = 3 from rfl] at x0 x1 x2 x3 c0 c1 c2 c3
        clear ho5 hb5 hi hc hb1 hb2 hb ho hg hr
        go_wp2
        go_ret
        exact ⟨rfl, HB.out⟩

theorem bel_al {w W : World} (h : Below w.heap.size w W) (o : Obj) : Below w.heap.size w (W.alloc o) := h.alloc h.size o
theorem bel_dr {w W : World} (h : Below w.heap.size w W) : Below w.heap.size w W.drew := h.drew
theorem bel_tr {w W W' : World} (h : Below w.heap.size w W) (k : Below W.heap.size W W') : Below w.heap.size w W' := h.trans (k.mono h.size)
theorem cell_dr (W : World) (a : Addr) : W.drew.cell? a = W.cell? a := rfl
theorem cell_n1 (w : World) (x : Value) (t : TypeId) : (w.alloc (.cells #[x] t)).cell? ⟨w.heap.size, 0, none⟩ = some x :=
  cell_of_row _ _ _ _ _ (0, 0) (heap_alloc_new _ _)
theorem cell_n2 (w : World) (x : Value) (t : TypeId) (o : Obj) : ((w.alloc (.cells #[x] t)).alloc o).cell? ⟨w.heap.size, 0, none⟩ = some x := by
  refine cell_of_row _ _ _ _ _ (0, 0) (?_ : _ = some (Obj.cells #[x] t (0, 0)))
  rw [alloc_get, if_neg (by simp)]
  exact heap_alloc_new _ _
theorem cell_n3 (w : World) (x : Value) (t : TypeId) (o : Obj) : ((w.alloc o).alloc (.cells #[x] t)).cell? ⟨w.heap.size + 1, 0, none⟩ = some x := by
  refine cell_of_row _ _ _ _ _ (0, 0) (?_ : _ = some (Obj.cells #[x] t (0, 0)))
  rw [alloc_get, if_pos (by simp)]

theorem rd_n1 (w : World) (a b c : Value) (t : TypeId) : Rd (w.alloc (.cells #[a, b, c] t)) 1 (.slice (some ⟨w.heap.size, 0, none⟩) 3 3) 3 [a, b, c] := rd_lit w t #[a, b, c] 3 rfl (by decide)
theorem rd_n2 (w : World) (a b c : Value) (t : TypeId) (o : Obj) : Rd ((w.alloc (.cells #[a, b, c] t)).alloc o) 1 (.slice (some ⟨w.heap.size, 0, none⟩) 3 3) 3 [a, b, c] := (rd_n1 w a b c t).alloc o
theorem rd_n3 (w : World) (a b c : Value) (t : TypeId) (o : Obj) : Rd ((w.alloc o).alloc (.cells #[a, b, c] t)) 1 (.slice (some ⟨w.heap.size + 1, 0, none⟩) 3 3) 3 [a, b, c] := by
  have := rd_n1 (w.alloc o) a b c t
  simpa using this

end Go.Proofs.YtmhgdddnjnichaaDoor
