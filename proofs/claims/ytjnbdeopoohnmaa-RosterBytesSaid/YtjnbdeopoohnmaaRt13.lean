/- Layer 56 (roster): slices.Insert of one spell. -/
import Derived.Test.YtjnbdeopoohnmaaRt12
import Derived.Laws.Externs
import Derived.Lib.Overlaps
import Derived.Deep.RegionLaw
import Derived.Deep.DeepCutAuto
import Derived.Deep.CutBlock
import Derived.Lib.QuietBelow
set_option linter.unusedSimpArgs false
namespace Go.Proofs.Ytjnbdeopoohnmaa
open Go.RowKit Go.Sort

theorem row_shape {w : World} {g t : Nat} {cs : Array Value} (h : w.heap[g]? = some (.cells cs t (0, 0))) : w.shape? g = some (t, cs.size) := by
  simp [World.shape?, h]

theorem sOver_no {G vb o : Nat} {A C : Array Value} (w : World) (hg : w.heap[G]? = some (.cells A 49 (0, 0))) (hv : w.heap[vb]? = some (.cells C 49 (0, 0))) (hA : A.size ≠ 0) (hne : vb ≠ G) (lb cb : Nat) :
    (callFunc 84 #[.slice (some ⟨vb, 0, none⟩) 1 1, .slice (some ⟨G, o, none⟩) lb cb]).run Try.prog w = .ok (.value (.bool false)) w := by
  rw [run_callFunc_extern (show Try.prog.funcs[84]? = some Try.f84 by first | exact Try.func84 | kernel_rfl) (by kernel_rfl) (by kernel_rfl) (by kernel_rfl) (e := Extern.SlicesOverlaps.overlaps #[41, 41] #[4]) (by kernel_rfl),
    Lib.run_overlaps_apart w 41 4 49 Try.underlying41 2 (fun w => elS.sizeOf w) ⟨vb, 0, none⟩ ⟨G, o, none⟩ 1 1 lb cb hne _ _ _ _ (row_shape hv) (row_shape hg) hA (row_free hv 0) (row_free hv _)]
  rfl

set_option maxRecDepth 100000 in
set_option maxHeartbeats 1600000 in
theorem sInsert_room (G cap i vb : Nat) (l : List SpT) (x : SpT) (w : World) (h : Row 2 csS w 49 G cap l) (hi : i < l.length) (hroom : l.length + 1 ≤ cap) (hv : w.heap[vb]? = some (.cells #[.int .i64 x.1, .int .i64 x.2] 49 (0, 0))) (hne : vb ≠ G) (hl : l.length ≤ 100000) :
    Calls Try.prog 52 #[.slice (some ⟨G, 0, none⟩) l.length cap, .int .i64 (i : Int), .slice (some ⟨vb, 0, none⟩) 1 1] w fun e w' => e = .returned (.slice (some ⟨G, 0, none⟩) (l.length + 1) cap) ∧ Row 2 csS w' 49 G cap (l.take i ++ x :: l.drop i) ∧ Only (fun k => k = G) w w' := by
  obtain ⟨n, hn⟩ : ∃ n, l.length = n := ⟨_, rfl⟩
  have hcap : cap ≤ 9223372036854775807 := by have := h.mx; simpa [maxLen] using this
  obtain ⟨cur, g1, g2, g3⟩ := h.row
  have hOV := fun o lb cb => sOver_no (o := o) w g1 hv (by rw [g2]; omega) hne lb cb
  obtain ⟨k1, k2⟩ := (show Row 2 csS w.drew 49 G cap l from ⟨h.le, h.mx, cur, g1, g2, g3⟩).over layS (i + 1) (by omega) (l.drop i) (by rw [List.length_drop]; omega)
  have hl1 : (l.take (i + 1) ++ l.drop i ++ l.drop (i + 1 + (l.drop i).length)).length = n + 1 := by
    rw [List.length_append, List.length_append, List.length_take, List.length_drop, List.length_drop]; omega
  obtain ⟨W1, hW1⟩ : ∃ W1, w.drew.setCells G ((i + 1) * 2) (gcells csS (l.drop i)) = W1 := ⟨_, rfl⟩
  rw [hW1] at k1 k2
  obtain ⟨k3, k4⟩ := k1.over layS i (by omega) [x] (by simp; omega)
  obtain ⟨W2, hW2⟩ : ∃ W2, W1.setCells G (i * 2) (gcells csS [x]) = W2 := ⟨_, rfl⟩
  rw [hW2] at k3 k4
  have hfl : (l.take (i + 1) ++ l.drop i ++ l.drop (i + 1 + (l.drop i).length)).take i ++ [x] ++ (l.take (i + 1) ++ l.drop i ++ l.drop (i + 1 + (l.drop i).length)).drop (i + [x].length) = l.take i ++ x :: l.drop i := by
    have e1 : l.drop (i + 1 + (l.drop i).length) = [] := List.drop_of_length_le (by rw [List.length_drop]; omega)
    have e2 : (l.take (i + 1)).drop (i + 1) = [] := List.drop_of_length_le (by rw [List.length_take]; omega)
    rw [e1, List.append_nil, List.take_append_of_le_length (by rw [List.length_take]; omega), List.take_take, show min i (i + 1) = i by omega, List.length_singleton, List.drop_append_of_le_length (by rw [List.length_take]; omega), e2]
    simp
  rw [hfl] at k3
  have HK3 := Lib.hid k3
  have HK4 := Lib.hid ((only_drew (Only.refl (fun k => k = G) w)).trans (k2.trans k4))
  have hsz : (Try.prog.info? 49).map (·.size) = some 2 := by kernel_rfl
  have hdl : (gcells csS (l.drop i)).length = (n - i) * 2 := by rw [gcells_len layS, List.length_drop, hn]
  have hcp1 : ∀ ty dc sc, (Builtin.copy_ #[41, 41] ty #[.slice (some ⟨G, (i + 1) * 2, none⟩) (n - i) dc, .slice (some ⟨G, i * 2, none⟩) (n + 1 - i) sc]).run Try.prog w.drew = .ok (goInt (Nat.min (n + 1 - i) (n - i))) W1 := fun ty dc sc => by
    rw [← hW1]
    refine run_copy_n w.drew 41 41 ty 49 2 G ((i + 1) * 2) (n - i) dc ⟨G, i * 2, none⟩ (n + 1 - i) sc (gcells csS (l.drop i)) Try.underlying41 hsz (by rw [hdl]; congr 1; exact (Nat.min_eq_right (by omega)).symm)
      (fun j u hj => ?_) (fun j hj => ?_) (fun j _ => row_free (w := w.drew) g1 _) (gcells_one layS _)
    · rw [← gcells_drop layS, List.getElem?_drop, ← g3, List.getElem?_take] at hj
      rw [Addr.add_lit, cell_of_row w.drew G _ cur 49 (0, 0) g1]
      split at hj
      · simpa using hj
      · cases hj
    · rw [cell_of_row w.drew G _ cur 49 (0, 0) g1]
      have : (i + 1) * 2 + j < cur.size := by rw [g2]; rw [hdl] at hj; omega
      rw [Array.getElem?_eq_getElem this]; rfl
  have hW1v : W1.heap[vb]? = some (.cells #[.int .i64 x.1, .int .i64 x.2] 49 (0, 0)) := (k2.block vb (heap_lt (W := w.drew) hv) hne).trans hv
  have hcp2 : ∀ ty dc, (Builtin.copy_ #[41, 41] ty #[.slice (some ⟨G, i * 2, none⟩) (n + 1 - i) dc, .slice (some ⟨vb, 0, none⟩) 1 1]).run Try.prog W1 = .ok (goInt (Nat.min 1 (n + 1 - i))) W2 := fun ty dc => by
    rw [← hW2]
    refine run_copy_n W1 41 41 ty 49 2 G (i * 2) (n + 1 - i) dc ⟨vb, 0, none⟩ 1 1 (gcells csS [x]) Try.underlying41 hsz (by rw [gcells_len layS, show Nat.min 1 (n + 1 - i) = 1 from Nat.min_eq_left (by omega)]; rfl)
      (fun j u hj => ?_) (fun j hj => ?_) (fun j _ => k1.free _) (gcells_one layS _)
    · rw [Addr.add_lit, cell_of_row W1 vb _ _ 49 (0, 0) hW1v]
      simpa [gcells, csS] using hj
    · exact k1.some _ (by rw [gcells_len layS, List.length_singleton] at hj; omega)
  have hT := elS.1
  have hel : Try.prog.elem 41 = 49 := by simp [Program.elem, hT]
  have hes := elS.sizeOf
  have R0 : ∃ Y, ∀ W : World, (Instr.sliceAt 41 (.slice (some ⟨G, 0, none⟩) n cap) (some (.int .i64 (i : Int))) none none).run Try.prog W = .ok Y W := ⟨_, fun W => by
    rw [run_sliceAt_slice (h := by rw [hel]; exact hT), run_slice_l (ht := by rw [hel]; exact hT) (h0 := by omega) (h1 := by omega), hel, hes]
    rfl⟩
  obtain ⟨Y0, hY0⟩ := R0
  have R1 : ∀ W : World, (Instr.sliceAt 41 (.slice (some ⟨G, 0, none⟩) n cap) none (some (.int .i64 ((n : Int) + 1))) none).run Try.prog W = .ok (.slice (some ⟨G, 0, none⟩) (n + 1) cap) W := fun W => by
    rw [run_sliceAt_slice (h := by rw [hel]; exact hT), run_slice_h (ht := by rw [hel]; exact hT) (h0 := by omega) (h2 := by omega), hel, hes, show ((n : Int) + 1).toNat = n + 1 by omega]
    simp [Result.andThen, sliced, Addr.add_zero']
  have R2 : ∀ W : World, (Instr.sliceAt 41 (.slice (some ⟨G, 0, none⟩) (n + 1) cap) (some (.int .i64 ((i : Int) + 1))) none none).run Try.prog W = .ok (.slice (some ⟨G, (i + 1) * 2, none⟩) (n - i) (cap - (i + 1))) W := fun W => by
    rw [run_sliceAt_slice (h := by rw [hel]; exact hT), run_slice_l (ht := by rw [hel]; exact hT) (h0 := by omega) (h1 := by omega), hel, hes, show ((i : Int) + 1).toNat = i + 1 by omega]
    simp only [Result.andThen, sliced]
    rw [if_neg (by omega), show n + 1 - (i + 1) = n - i by omega]
    simp [Addr.add_lit]
  have R3 : ∀ W : World, (Instr.sliceAt 41 (.slice (some ⟨G, 0, none⟩) (n + 1) cap) (some (.int .i64 (i : Int))) none none).run Try.prog W = .ok (.slice (some ⟨G, i * 2, none⟩) (n + 1 - i) (cap - i)) W := fun W => by
    rw [run_sliceAt_slice (h := by rw [hel]; exact hT), run_slice_l (ht := by rw [hel]; exact hT) (h0 := by omega) (h1 := by omega), hel, hes, show ((i : Int)).toNat = i by omega]
    simp only [Result.andThen, sliced]
    rw [if_neg (by omega)]
    simp [Addr.add_lit]
  have hw1 : IntKind.i64.wrap ((i : Int) + 1) = (i : Int) + 1 := by rw [IntKind.wrap_i64]; omega
  have e1 : ((i : Int) == n) = false := by simp; omega
  have e2 : ¬ (cap : Int) < (n : Int) + 1 := by omega
  have hn1 : n ≤ 100000 := by omega
  rw [hn]
  clear h hv hne hl g1 g2 g3 k1 k2 k3 k4 hl1 hW1 hW2 hfl hdl hW1v hT hel hes hsz hn
  go_enter Try.func52, Try.ntmps52
  go_wp2_with (simp only [hOV])
  go_region_law (refine step_copy_n rfl _ _ 41 41 rfl _ _ (by simp [Act.eval, Act.put]) (by simp [Act.eval, Act.put]) (hcp1 _ _ _) ?_)
  go_wp2_with (at_builtin; refine wpList_copy_n _ rfl _ _ 41 41 rfl _ _ rfl rfl (hcp2 _ _) ?_)
  go_ret
  exact ⟨rfl, HK3.out, HK4.out⟩

theorem zeroS_gcells (k : Nat) : (Builtin.zeroCells (Value.agg #[.int .i64 0, .int .i64 0]).cells k).toList = gcells csS (List.replicate k ((0, 0) : SpT)) := by
  have h1 : (Builtin.zeroCells (Value.agg #[.int .i64 0, .int .i64 0]).cells k).toList = List.replicate (k * 2) (Value.int .i64 0) := by
    rw [List.eq_replicate_iff]
    refine ⟨by simp [Builtin.zeroCells, Value.cells], fun u hu => ?_⟩
    simp only [Builtin.zeroCells, Array.toList_map, List.mem_map] at hu
    obtain ⟨i, _, rfl⟩ := hu
    have : i % 2 = 0 ∨ i % 2 = 1 := by omega
    rcases this with h | h <;> simp [Value.cells, h]
  have h2 : gcells csS (List.replicate k ((0, 0) : SpT)) = List.replicate (k * 2) (Value.int .i64 0) := by
    rw [List.eq_replicate_iff]
    refine ⟨by rw [gcells_len layS, List.length_replicate], fun u hu => ?_⟩
    unfold gcells at hu
    obtain ⟨x, hx, hu⟩ := List.mem_flatMap.1 hu
    obtain rfl := (List.mem_replicate.1 hx).2
    simp [csS] at hu
    exact hu
  rw [h1, h2]

set_option maxRecDepth 100000 in
set_option maxHeartbeats 1600000 in
theorem sInsert_grow (G cap i vb : Nat) (l : List SpT) (x : SpT) (w : World) (h : Row 2 csS w 49 G cap l) (hi : i < l.length) (hroom : cap < l.length + 1) (hv : w.heap[vb]? = some (.cells #[.int .i64 x.1, .int .i64 x.2] 49 (0, 0))) (hl : l.length ≤ 100000) :
    Calls Try.prog 52 #[.slice (some ⟨G, 0, none⟩) l.length cap, .int .i64 (i : Int), .slice (some ⟨vb, 0, none⟩) 1 1] w fun e w' => ∃ c', e = .returned (.slice (some ⟨w.heap.size, 0, none⟩) (l.length + 1) c') ∧ Row 2 csS w' 49 w.heap.size c' (l.take i ++ x :: l.drop i) ∧ Below w.heap.size w w' := by
  obtain ⟨n, hn⟩ : ∃ n, l.length = n := ⟨_, rfl⟩
  have hcap : cap ≤ 9223372036854775807 := by have := h.mx; simpa [maxLen] using this
  have hnc : n ≤ cap := by have := h.le; omega
  obtain ⟨cur, g1, g2, g3⟩ := h.row
  obtain ⟨i0, hi0, hz0, hzs, hzb⟩ := elS.2.1
  have hsz : (Try.prog.info? 49).map (·.size) = some 2 := by kernel_rfl
  have hGw : G < w.heap.size := h.lt
  have hvw : vb < w.heap.size := heap_lt hv
  have hcells : ∀ (j : Nat) (u : Value), (gcells csS l)[j]? = some u → w.cell? ⟨G, j, none⟩ = some u := fun j u hj => by
    rw [← g3, List.getElem?_take] at hj
    rw [cell_of_row w G _ cur 49 (0, 0) g1]
    split at hj
    · simpa using hj
    · cases hj
  have hold : (Builtin.firstCells i0.size i (.slice (some ⟨G, 0, none⟩) i cap)).run Try.prog w.drew = .ok (gcells csS (l.take i)).toArray w.drew := by
    rw [hzs]
    exact run_firstCells_some w.drew 2 i ⟨G, 0, none⟩ i cap (gcells csS (l.take i)) (by rw [gcells_len layS, List.length_take]; congr 1; omega) (fun j v hj => by
      rw [Addr.add_lit]
      rw [← gcells_take layS, List.getElem?_take] at hj
      split at hj
      · simpa using hcells j v hj
      · cases hj)
  obtain ⟨C, hC⟩ : ∃ C, grownCap w (n + 1) cap 49 = C := ⟨_, rfl⟩
  have hCn : n + 1 ≤ C := by rw [← hC]; exact grownCap_ge w _ _ _
  have hCm : C ≤ maxLen := by rw [← hC]; exact grownCap_le_maxLen w (n + 1) cap 49 (by unfold maxLen; omega)
  have hC63 : C ≤ 9223372036854775807 := by simpa [maxLen] using hCm
  obtain ⟨ROW, hROW⟩ : ∃ ROW : Array Value, (gcells csS (l.take i)).toArray ++ Builtin.zeroCells (Value.agg #[.int .i64 0, .int .i64 0]).cells (n + 1 - i) ++ Builtin.zeroCells (Value.agg #[.int .i64 0, .int .i64 0]).cells (C - (n + 1)) = ROW := ⟨_, rfl⟩
  have hrz : ∀ ty, (Builtin.append_ #[41, 3] ty #[.slice (some ⟨G, 0, none⟩) i cap, .int .i64 ((n : Int) + 1 - (i : Int))]).run Try.prog w = .ok (.slice (some ⟨w.heap.size, 0, none⟩) (n + 1) C) (w.drew.alloc (.cells ROW 49)) := fun ty => by
    have h := Lib.run_append_grow_zeros w 41 3 ty 49 i0 _ .i64 .i64 Try.underlying41 Try.underlying3 hi0 hz0 (some ⟨G, 0, none⟩) i cap (gcells csS (l.take i)) hold (n + 1 - i) (by omega) (by omega) (by omega) (by omega) (by rw [hzb]; omega) (by rw [hzb, show i + (n + 1 - i) = n + 1 by omega]; exact growslice_fits (by omega) (by omega))
    rw [show i + (n + 1 - i) = n + 1 by omega, hC, hROW] at h
    rw [show (n : Int) + 1 - (i : Int) = ((n + 1 - i : Nat) : Int) by omega]
    exact h
  obtain ⟨N, hN⟩ : ∃ N, w.heap.size = N := ⟨_, rfl⟩
  have hz2 : ∀ k, (Builtin.zeroCells (Value.agg #[.int .i64 0, .int .i64 0]).cells k).size = k * 2 := fun k => by simp [Builtin.zeroCells, Value.cells]
  have hz3 : ∀ k, (Builtin.zeroCells (Value.agg #[.int .i64 0, .int .i64 0]).cells k).toList.length = k * 2 := fun k => by rw [Array.length_toList, hz2]
  have hR0 : Row 2 csS (w.drew.alloc (.cells ROW 49)) 49 N C (l.take i ++ List.replicate (n + 1 - i) ((0, 0) : SpT)) := by
    have hll : (l.take i ++ List.replicate (n + 1 - i) ((0, 0) : SpT)).length = n + 1 := by rw [List.length_append, List.length_take, List.length_replicate]; omega
    rw [← hN]
    refine Row.fresh (w := w.drew) 49 _ ROW C (by rw [hll]; exact hCn) hCm ?_ ?_
    · rw [← hROW, Array.size_append, Array.size_append, hz2, hz2, List.size_toArray, gcells_len layS, List.length_take]; omega
    · rw [hll, ← hROW, gcells_append, ← zeroS_gcells]
      simp only [Array.toList_append, List.toList_toArray]
      rw [List.take_append_of_le_length, List.take_of_length_le]
      · rw [List.length_append, Array.length_toList, List.size_toArray, hz3, gcells_len layS, List.length_take]; omega
      · rw [List.length_append, Array.length_toList, List.size_toArray, hz3, gcells_len layS, List.length_take]; omega
  have hb1 : Below w.heap.size w (w.drew.alloc (.cells ROW 49)) := (Below.refl w.heap.size w).drew.alloc (Nat.le_refl _) _
  rw [hN] at hrz hb1
  obtain ⟨W1, hW1⟩ : ∃ W1, w.drew.alloc (.cells ROW 49) = W1 := ⟨_, rfl⟩
  rw [hW1] at hrz hR0 hb1
  have hll : (l.take i ++ List.replicate (n + 1 - i) ((0, 0) : SpT)).length = n + 1 := by rw [List.length_append, List.length_take, List.length_replicate]; omega
  obtain ⟨k1, k2⟩ := hR0.over layS i (by omega) [x] (by simp; omega)
  obtain ⟨W2, hW2⟩ : ∃ W2, W1.setCells N (i * 2) (gcells csS [x]) = W2 := ⟨_, rfl⟩
  rw [hW2] at k1 k2
  have hl2 : ((l.take i ++ List.replicate (n + 1 - i) ((0, 0) : SpT)).take i ++ [x] ++ (l.take i ++ List.replicate (n + 1 - i) ((0, 0) : SpT)).drop (i + [x].length)).length = n + 1 := by
    rw [List.length_append, List.length_append, List.length_take, List.length_drop, hll, List.length_singleton]; omega
  obtain ⟨k3, k4⟩ := (show Row 2 csS W2.drew 49 N C _ from ⟨k1.le, k1.mx, k1.row⟩).over layS (i + 1) (by rw [hl2]; omega) (l.drop i) (by rw [List.length_drop]; omega)
  obtain ⟨W3, hW3⟩ : ∃ W3, W2.drew.setCells N ((i + 1) * 2) (gcells csS (l.drop i)) = W3 := ⟨_, rfl⟩
  rw [hW3] at k3 k4
  have hlist : ((l.take i ++ List.replicate (n + 1 - i) ((0, 0) : SpT)).take i ++ [x] ++ (l.take i ++ List.replicate (n + 1 - i) ((0, 0) : SpT)).drop (i + [x].length)).take (i + 1) ++ l.drop i ++ ((l.take i ++ List.replicate (n + 1 - i) ((0, 0) : SpT)).take i ++ [x] ++ (l.take i ++ List.replicate (n + 1 - i) ((0, 0) : SpT)).drop (i + [x].length)).drop (i + 1 + (l.drop i).length) = l.take i ++ x :: l.drop i := by
    have e1 : (l.take i ++ List.replicate (n + 1 - i) ((0, 0) : SpT)).take i = l.take i := by
      rw [List.take_append_of_le_length (by rw [List.length_take]; omega), List.take_take, Nat.min_self]
    have hl3 := hl2
    rw [e1] at hl3 ⊢
    obtain ⟨D, hDd⟩ : ∃ D, (l.take i ++ List.replicate (n + 1 - i) ((0, 0) : SpT)).drop (i + [x].length) = D := ⟨_, rfl⟩
    rw [hDd] at hl3 ⊢
    have e2 : (l.take i ++ [x] ++ D).drop (i + 1 + (l.drop i).length) = [] := List.drop_of_length_le (by rw [hl3, List.length_drop]; omega)
    have e3 : (l.take i ++ [x] ++ D).take (i + 1) = l.take i ++ [x] := by
      have hli : (l.take i ++ [x]).length = i + 1 := by rw [List.length_append, List.length_take, List.length_singleton]; omega
      rw [List.take_append_of_le_length (by rw [hli]; exact Nat.le_refl _), List.take_of_length_le (by rw [hli]; exact Nat.le_refl _)]
    rw [e2, e3, List.append_nil]
    simp
  rw [hlist] at k3
  have hb2 : Below N w W2 := hb1.trans (k2.below (fun t ht => by omega) (by have := hb1.size; omega))
  have hb3 : Below N w W3 := hb2.drew.trans (k4.below (fun t ht => by omega) (by have := hb2.size; show N ≤ W2.drew.heap.size; exact Nat.le_trans (by omega) this))
  have HK3 := Lib.hid k3
  have HB3 := Lib.hid hb3
  have hW1v : W1.heap[vb]? = some (.cells #[.int .i64 x.1, .int .i64 x.2] 49 (0, 0)) := (hb1.block vb (by omega)).trans hv
  have hcpA : ∀ ty dc, (Builtin.copy_ #[41, 41] ty #[.slice (some ⟨N, i * 2, none⟩) (n + 1 - i) dc, .slice (some ⟨vb, 0, none⟩) 1 1]).run Try.prog W1 = .ok (goInt (Nat.min 1 (n + 1 - i))) W2 := fun ty dc => by
    rw [← hW2]
    refine run_copy_n W1 41 41 ty 49 2 N (i * 2) (n + 1 - i) dc ⟨vb, 0, none⟩ 1 1 (gcells csS [x]) Try.underlying41 hsz (by rw [gcells_len layS, show Nat.min 1 (n + 1 - i) = 1 from Nat.min_eq_left (by omega)]; rfl)
      (fun j u hj => ?_) (fun j hj => ?_) (fun j _ => hR0.free _) (gcells_one layS _)
    · rw [Addr.add_lit, cell_of_row W1 vb _ _ 49 (0, 0) hW1v]
      simpa [gcells, csS] using hj
    · exact hR0.some _ (by rw [gcells_len layS, List.length_singleton] at hj; omega)
  have hdl : (gcells csS (l.drop i)).length = (n - i) * 2 := by rw [gcells_len layS, List.length_drop, hn]
  have hcpB : ∀ ty dc sc, (Builtin.copy_ #[41, 41] ty #[.slice (some ⟨N, (i + 1) * 2, none⟩) (n - i) dc, .slice (some ⟨G, i * 2, none⟩) (n - i) sc]).run Try.prog W2.drew = .ok (goInt (Nat.min (n - i) (n - i))) W3 := fun ty dc sc => by
    rw [← hW3]
    refine run_copy_n W2.drew 41 41 ty 49 2 N ((i + 1) * 2) (n - i) dc ⟨G, i * 2, none⟩ (n - i) sc (gcells csS (l.drop i)) Try.underlying41 hsz (by rw [hdl, show Nat.min (n - i) (n - i) = n - i from Nat.min_self _])
      (fun j u hj => ?_) (fun j hj => ?_) (fun j _ => k1.free _) (gcells_one layS _)
    · rw [← gcells_drop layS, List.getElem?_drop] at hj
      rw [Addr.add_lit]
      have := hcells _ _ hj
      rw [← hb2.cell (by show G < N; omega)] at this
      exact this
    · exact k1.some _ (by rw [hdl] at hj; omega)
  have hT := elS.1
  have hel : Try.prog.elem 41 = 49 := by simp [Program.elem, hT]
  have hes := elS.sizeOf
  have R0 : ∀ W : World, (Instr.sliceAt 41 (.slice (some ⟨G, 0, none⟩) n cap) (some (.int .i64 (i : Int))) none none).run Try.prog W = .ok (.slice (some ⟨G, i * 2, none⟩) (n - i) (cap - i)) W := fun W => by
    rw [run_sliceAt_slice (h := by rw [hel]; exact hT), run_slice_l (ht := by rw [hel]; exact hT) (h0 := by omega) (h1 := by omega), hel, hes, show ((i : Int)).toNat = i by omega]
    simp only [Result.andThen, sliced]
    rw [if_neg (by omega)]
    simp [Addr.add_lit]
  have R1 : ∀ W : World, (Instr.sliceAt 41 (.slice (some ⟨G, 0, none⟩) n cap) none (some (.int .i64 (i : Int))) none).run Try.prog W = .ok (.slice (some ⟨G, 0, none⟩) i cap) W := fun W => by
    rw [run_sliceAt_slice (h := by rw [hel]; exact hT), run_slice_h (ht := by rw [hel]; exact hT) (h0 := by omega) (h2 := by omega), hel, hes]
    simp [Result.andThen, sliced, Addr.add_zero']
  have R2 : ∀ W : World, (Instr.sliceAt 41 (.slice (some ⟨N, 0, none⟩) (n + 1) C) (some (.int .i64 ((i : Int) + 1))) none none).run Try.prog W = .ok (.slice (some ⟨N, (i + 1) * 2, none⟩) (n - i) (C - (i + 1))) W := fun W => by
    rw [run_sliceAt_slice (h := by rw [hel]; exact hT), run_slice_l (ht := by rw [hel]; exact hT) (h0 := by omega) (h1 := by omega), hel, hes, show ((i : Int) + 1).toNat = i + 1 by omega]
    simp only [Result.andThen, sliced]
    rw [if_neg (by omega), show n + 1 - (i + 1) = n - i by omega]
    simp [Addr.add_lit]
  have R3 : ∀ W : World, (Instr.sliceAt 41 (.slice (some ⟨N, 0, none⟩) (n + 1) C) (some (.int .i64 (i : Int))) none none).run Try.prog W = .ok (.slice (some ⟨N, i * 2, none⟩) (n + 1 - i) (C - i)) W := fun W => by
    rw [run_sliceAt_slice (h := by rw [hel]; exact hT), run_slice_l (ht := by rw [hel]; exact hT) (h0 := by omega) (h1 := by omega), hel, hes, show ((i : Int)).toNat = i by omega]
    simp only [Result.andThen, sliced]
    rw [if_neg (by omega)]
    simp [Addr.add_lit]
  have hw1 : IntKind.i64.wrap ((i : Int) + 1) = (i : Int) + 1 := by rw [IntKind.wrap_i64]; omega
  have e1 : ((i : Int) == n) = false := by simp; omega
  have e2 : (cap : Int) < (n : Int) + 1 := by omega
  have hn1 : n ≤ 100000 := by omega
  have hin : i < n := by omega
  rw [hn, hN]
  clear h hv hl g1 g2 g3 k1 k2 k3 k4 hl2 hW1 hW2 hW3 hlist hdl hW1v hT hel hes hsz hn hold hROW hC hR0 hb1 hb2 hb3 hcells hz2 hz3 hll hzs hzb hi0 hz0 hi
  go_enter Try.func52, Try.ntmps52
  go_wp2_with (first
    | (at_builtin; refine Lib.wpList_append_run _ rfl _ _ _ _ rfl _ _ rfl rfl _ _ (hrz _) ?_)
    | (at_builtin; refine wpList_copy_n _ rfl _ _ 41 41 rfl _ _ rfl rfl (hcpA _ _) ?_))
  go_region_law (refine step_copy_n rfl _ _ 41 41 rfl _ _ (by simp [Act.eval, Act.put]) (by simp [Act.eval, Act.put]) (hcpB _ _ _) ?_)
  go_wp2
  go_ret
  exact ⟨C, rfl, HK3.out, HB3.out⟩

set_option maxRecDepth 100000 in
theorem sInsert_end (v : Value) (l : List SpT) (B vb : Nat) (x : SpT) (w : World) (h : Gw 2 csS w B 49 v l) (hB : B ≤ w.heap.size) (hv : Gs 2 csS w (.slice (some ⟨vb, 0, none⟩) 1 1) [x]) (hl : l.length ≤ 100000) :
    Calls Try.prog 52 #[v, .int .i64 (l.length : Int), .slice (some ⟨vb, 0, none⟩) 1 1] w fun e w' => ∃ v', e = .returned v' ∧ Gw 2 csS w' B 49 v' (l ++ [x]) ∧ Below B w w' := by
  obtain ⟨a, c, hs⟩ := h.gs.shape
  subst hs
  obtain ⟨Y, hY, -⟩ := Gs.from layS elS h.gs l.length (Nat.le_refl _)
  have hee : ((l.length : Int) == l.length) = true := by simp
  go_enter Try.func52, Try.ntmps52
  go_wp2_with (at_builtin; go_must (refine wpList_append_gs layS h hv elS (by simp; omega) (by simp; omega) hB ?_ _ _ rfl rfl rfl rfl); intro v3 w3 ho3 hg3 hb3 _; have H3 := Lib.hid ho3; have HB3 := Lib.hid hb3; clear ho3 hg3 hb3)
  go_ret
  exact ⟨_, rfl, H3.out, HB3.out⟩

theorem sInsert_any (v : Value) (l : List SpT) (i B vb : Nat) (x : SpT) (w : World) (h : Gw 2 csS w B 49 v l) (hB : B ≤ w.heap.size) (hv : w.heap[vb]? = some (.cells #[.int .i64 x.1, .int .i64 x.2] 49 (0, 0))) (hne : ∀ t, v.ownBlock = some t → t ≠ vb) (hl : l.length ≤ 100000) (hi : i ≤ l.length) :
    Calls Try.prog 52 #[v, .int .i64 (i : Int), .slice (some ⟨vb, 0, none⟩) 1 1] w fun e w' => ∃ v', e = .returned v' ∧ Gw 2 csS w' B 49 v' (l.take i ++ x :: l.drop i) ∧ Below B w w' := by
  have hlit : Gs 2 csS w (.slice (some ⟨vb, 0, none⟩) 1 1) [x] := ((⟨by simp, by decide, _, hv, rfl, by rfl⟩ : Row 2 csS w 49 vb 1 [x]).gw layS (B := 0) (Nat.zero_le _)).gs
  by_cases he : i = l.length
  · subst he
    have := sInsert_end v l B vb x w h hB hlit hl
    rw [List.take_of_length_le (Nat.le_refl _), List.drop_of_length_le (Nat.le_refl _)]
    exact this
  · obtain ⟨G, cap, rfl, hBG, hrow⟩ := h.row (by intro hn; rw [hn] at hi he; simp at hi he; omega)
    by_cases hroom : l.length + 1 ≤ cap
    · refine (sInsert_room G cap i vb l x w hrow (by omega) hroom hv (fun e => hne G rfl e.symm) hl).mono ?_
      rintro e w' ⟨rfl, hr, ho⟩
      refine ⟨_, rfl, ?_, ho.below (fun t ht => by omega) hB⟩
      have := hr.gw layS hBG
      rwa [show (l.take i ++ x :: l.drop i).length = l.length + 1 by simp; omega] at this
    · refine (sInsert_grow G cap i vb l x w hrow (by omega) (by omega) hv hl).mono ?_
      rintro e w' ⟨c', rfl, hr, hb⟩
      refine ⟨_, rfl, ?_, hb.mono hB⟩
      have := hr.gw layS hB
      rwa [show (l.take i ++ x :: l.drop i).length = l.length + 1 by simp; omega] at this

end Go.Proofs.Ytjnbdeopoohnmaa
