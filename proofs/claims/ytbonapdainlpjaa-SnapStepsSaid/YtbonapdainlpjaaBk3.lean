/- Layer 34 (block): New, Read, Image. -/
import Derived.Test.YtbonapdainlpjaaBk2
import Derived.Deep.DeepCutAuto
set_option linter.unusedSimpArgs false
namespace Go.Proofs.Ytbonapdainlpjaa
open Go.RowKit Go.Sort

theorem bel_a {B : Nat} {a w : World} (h : Below B a w) (o : Obj) (hB : B ≤ w.heap.size := by (first | exact Nat.le_refl _ | (simp; done) | (simp; omega))) : Below B a (w.alloc o) := h.alloc hB o

theorem info_bblock : (Try.prog.info? 124).map (fun i => (i.zero, i.size, i.bytes)) = some (some (.agg (Array.replicate 64 (.int .u8 0))), 64, 64) := by kernel_rfl
theorem elK : ElTy Try.prog 118 124 (.agg (Array.replicate 64 (.int .u8 0))) 64 64 := ⟨Try.underlying118, info_parts info_bblock, by simp [Value.cells], by decide⟩

theorem madeCells_block (n : Nat) : madeCells (Value.agg (Array.replicate 64 (.int .u8 0))).cells (n * 64) = rowb (n * 64) fun _ => 0 := by
  apply Array.ext
  · simp [rowb_len, size_madeCells]
  · intro i h1 h2
    rw [rowb_at]
    have : i % 64 < 64 := Nat.mod_lt _ (by decide)
    simp [madeCells, Value.cells, bv, this]

theorem run_make_blocks (n : Nat) (hn : n ≤ 32768) (W : World) : (Instr.makeSlice 118 (.int .i64 (n : Int)) (.int .i64 (n : Int))).run Try.prog W = .ok (.slice (some ⟨W.heap.size, 0, none⟩) n n) (W.alloc (.cells (rowb (n * 64) fun _ => 0) 124)) := by
  obtain ⟨h1, ⟨i, hi, hz, hs, hb⟩, _⟩ := elK
  have hrun := run_make (P := Try.prog) W 118 124 i _ h1 hi hz .i64 .i64 n n (by omega) (by omega) (by rw [hb]; omega) (by omega)
  rw [hs] at hrun
  simp only [Int.toNat_natCast] at hrun
  rw [madeCells_block] at hrun
  exact hrun

theorem run_bix (gb n : Nat) (i : Int) (h0 : 0 ≤ i) (h1 : i < n) (W : World) : (Instr.indexAt 118 (.slice (some ⟨gb, 0, none⟩) n n) (.int .i64 i)).run Try.prog W = .ok (.pointer (some ⟨gb, i.toNat * 64, none⟩)) W := by
  have hT := elK.1
  have hu : Try.prog.elem 118 = 124 := by simp [Program.elem, hT]
  rw [run_indexAt_slice W 118 _ n n .i64 i (by rw [hu]; exact hT), if_pos ⟨h0, h1⟩, hu, elK.sizeOf]
  simp [Result.andThen, Addr.add_lit]

theorem run_bsl (gb o : Nat) (W : World) : (Instr.sliceAt 124 (.pointer (some ⟨gb, o, none⟩)) none none none).run Try.prog W = .ok (.slice (some ⟨gb, o, none⟩) 64 64) W := by
  have hu := Try.underlying124
  have hs := elB.sizeOf W
  simp [Instr.sliceAt, run_underlying hu, Instr.sureAddr, Instr.sliceBounds, hs, Addr.add_lit, Sem.run_bind]

/-- a piece of a row, seen as bytes with any room -/
theorem bs_rowc {W : World} {g c t : Nat} {f : Nat → UInt8} (h : W.heap[g]? = some (.cells (rowb c f) t (0, 0))) (lo n m : Nat) (hn : lo + n ≤ c) (hm : n ≤ m) (hc : m ≤ maxLen) : Bs W (.slice (some ⟨g, lo, none⟩) n m) ((List.range n).map fun j => f (lo + j)) := by
  have hl : ((List.range n).map fun j => f (lo + j)).length = n := by simp
  refine ⟨by simp, _, _, by rw [hl], by omega, by omega, by simp, .inr ⟨g, lo, rfl, heap_lt h, fun j u hu => ?_⟩⟩
  rw [List.getElem?_map, List.getElem?_map] at hu
  by_cases hj : j < n
  · rw [List.getElem?_range hj] at hu
    rw [cell_of_row W _ _ _ _ _ h, rowb_get _ (by omega)]
    simpa using hu
  · rw [List.getElem?_eq_none (by simp; omega)] at hu
    simp at hu

/-! New -/
def bzero (n : Nat) : BSt := ⟨n, fun _ => 0, false, none, 0⟩

theorem bNew_bad (n : Int) (h : n < 1 ∨ 32768 < n) (w : World) : Calls Try.prog 25 #[.int .i64 n] w fun e w' => e = .returned (.tuple #[.pointer none, .int .i64 2]) ∧ w' = w := by
  go_enter Try.func25, Try.ntmps25
  rcases h with h | h
  · go_wp2
    go_ret2
    exact ⟨rfl, rfl⟩
  · have h1 : ¬ n < 1 := by omega
    go_wp2
    go_ret2
    exact ⟨rfl, rfl⟩

theorem bNew_any (n : Nat) (h1 : 1 ≤ n) (h2 : n ≤ 32768) (w : World) : Calls Try.prog 25 #[.int .i64 (n : Int)] w fun e w' =>
    e = .returned (.tuple #[.pointer (some ⟨w.heap.size + 1, 0, none⟩), .int .i64 0]) ∧ Below w.heap.size w w' ∧ StAt w' w.heap.size (w.heap.size + 1) w.heap.size none (bzero n) := by
  have hmk := run_make_blocks n h2
  have e1 : ¬ (n : Int) < 1 := by omega
  have e2 : ¬ (32768 : Int) < n := by omega
  have fin : Below w.heap.size w ((w.alloc (.cells (rowb (n * 64) fun _ => 0) 124)).alloc (.cells #[.slice (some ⟨w.heap.size, 0, none⟩) n n, .bool false, .pointer none, .int .i64 0] 121)) ∧
      StAt ((w.alloc (.cells (rowb (n * 64) fun _ => 0) 124)).alloc (.cells #[.slice (some ⟨w.heap.size, 0, none⟩) n n, .bool false, .pointer none, .int .i64 0] 121)) w.heap.size (w.heap.size + 1) w.heap.size none (bzero n) := by
    refine ⟨bel_a (bel_a (Below.refl _ _) _) _, Nat.le_succ _, Nat.le_refl _, h1, h2, ?_, ?_, .inl ⟨rfl, rfl⟩⟩
    · rw [alloc_get, if_pos (by simp)]; rfl
    · rw [alloc_get, if_neg (by simp)]; exact heap_alloc_new _ _
  have FIN := Lib.hid fin
  clear fin
  go_enter Try.func25, Try.ntmps25
  go_wp2
  go_ret2
  exact ⟨rfl, FIN.out⟩

/-! Read -/
def bblk (s : BSt) (i : Nat) : List UInt8 := (List.range 64).map fun j => s.f (i * 64 + j)
def bread (s : BSt) (i : Int) : List UInt8 := if bmayE s i = 0 then bblk s i.toNat else []

def ReadPost (w : World) (s : BSt) (i : Int) (e : Ending) (w' : World) : Prop :=
  ∃ v, e = .returned (.tuple #[v, .int .i64 (bmayE s i)]) ∧ Ob w' w.heap.size 5 v (bread s i) ∧ Below w.heap.size w w'

set_option maxRecDepth 100000 in
theorem bRead_any (g gb : Nat) (fo : Option Nat) (s : BSt) (i : Int) (B : Nat) (w : World) (h : StAt w B g gb fo s) :
    Calls Try.prog 28 #[.pointer (some ⟨g, 0, none⟩), .int .i64 i] w (ReadPost w s i) := by
  unfold ReadPost
  have H := Lib.hid h
  obtain ⟨E, hE⟩ : ∃ E, bmayE s i = E := ⟨_, rfl⟩
  have hbad : E ≠ 0 → bread s i = [] := fun h0 => by unfold bread; rw [hE, if_neg h0]
  have hgood : E = 0 → bread s i = bblk s i.toNat ∧ 0 ≤ i ∧ i < s.n := fun h0 => by
    refine ⟨by unfold bread; rw [hE, if_pos h0], ?_⟩
    rw [h0] at hE
    unfold bmayE at hE
    split at hE
    · omega
    · split at hE
      · assumption
      · omega
  have HBD := Lib.hid hbad
  have HGD := Lib.hid hgood
  have hm := bmay_any g gb fo s i B w h
  rw [hE] at hm ⊢
  have HM := Lib.hid hm
  have hg := heap_lt h.row
  have c0 : w.cell? ⟨g, 0, none⟩ = some (.slice (some ⟨gb, 0, none⟩) s.n s.n) := by rw [cell_of_row w g 0 _ _ _ h.row]; rfl
  clear h hE hbad hgood hm
  go_enter Try.func28, Try.ntmps28
  by_cases h0 : E = 0
  · obtain ⟨hr, h1, h2⟩ := HGD.out h0
    rw [hr]
    subst h0
    have hix := run_bix gb s.n i h1 h2
    have hsl := run_bsl gb (i.toNat * 64)
    obtain ⟨n, hn⟩ : ∃ n, s.n = n := ⟨_, rfl⟩
    have hr : w.heap[gb]? = some (.cells (rowb (n * 64) s.f) 124 (0, 0)) := by rw [← hn]; exact H.out.blk
    rw [hn] at c0 hix h2
    have HR := Lib.hid hr
    clear hn hr
    go_wp2_with fail
    refine HM.out.mono ?_
    rintro e w2 ⟨rfl, rfl⟩
    obtain ⟨T, hT⟩ : ∃ T, w2.heap.size = T := ⟨_, rfl⟩
    obtain ⟨W3, hW3⟩ : ∃ W3, w2.alloc (.cells (rowb 64 fun _ => 0) 5) = W3 := ⟨_, rfl⟩
    have c3 : W3.cell? ⟨g, 0, none⟩ = some (.slice (some ⟨gb, 0, none⟩) n n) := by rw [← hW3, World.cell?_alloc_lt _ _ _ hg]; exact c0
    have r3 : W3.heap[T]? = some (.cells (rowb 64 fun _ => 0).toList.toArray 5 (0, 0)) := by rw [← hW3, ← hT]; exact heap_alloc_new _ _
    have hb3 : Below T w2 W3 := by rw [← hW3, ← hT]; exact bel_a (Below.refl _ _) _
    have hs3 : Bs W3 (.slice (some ⟨gb, i.toNat * 64, none⟩) 64 64) (bblk s i.toNat) :=
      bs_rowc (by rw [← hW3, alloc_get, if_neg (by have := heap_lt HR.out; omega)]; exact HR.out) (i.toNat * 64) 64 64 (by omega) (by omega) (by decide)
    have hlen0 : 0 < (bblk s i.toNat).length := by simp [bblk]
    have hsrc : ∀ j v, ((bblk s i.toNat).map bv)[j]? = some v → W3.cell? ((⟨gb, i.toNat * 64, none⟩ : Addr).add j) = some v := by
      obtain ⟨ad, e, h⟩ := hs3.src hlen0
      cases e
      exact h
    have hlen : (bblk s i.toNat).length = 64 := by simp [bblk]
    obtain ⟨cs, hcs⟩ : ∃ cs, (bblk s i.toNat).map bv = cs := ⟨_, rfl⟩
    have hcl : cs.length = 64 := by rw [← hcs, List.length_map, hlen]
    have hone : ∀ u ∈ cs, u.oneCell' = true := by rw [← hcs]; exact bv_one _
    obtain ⟨cur, hcur⟩ : ∃ cur, (rowb 64 fun _ => 0).toList = cur := ⟨_, rfl⟩
    have hcu : cur.length = 64 := by rw [← hcur]; simp [rowb_len]
    rw [hcs] at hsrc
    rw [hcur] at r3
    have HT := Lib.hid hT
    have HSRC := Lib.hid hsrc
    have HCL := Lib.hid hcl
    have HONE := Lib.hid hone
    have HCU := Lib.hid hcu
    have R3 := Lib.hid r3
    have HB3 := Lib.hid hb3
    have HCS := Lib.hid hcs
    have HCUR := Lib.hid hcur
    have HLEN := Lib.hid hlen
    clear hsrc hlen0 hcl hone hcu r3 hb3 hs3 hcs hcur hlen c0
    go_upto_region 4 with fail
    go_upto_region 5 with (at_make; go_must (refine wpList_make_rowb elB 64 64 (by omega) (by omega) (by decide) rfl _ _ rfl _ _ rfl rfl ?_))
    try rw [hW3, hT]
    clear hW3 hT
    go_wp2_with (with_reducible refine wpList_copy_splice rfl _ _ _ _ rfl 5 Try.underlying43 (by kernel_rfl) _ _ _ _ _ _ rfl rfl T 0 cur 5 R3.out cs (by rw [HCL.out]; exact (Nat.min_self 64).symm) (fun _ => ⟨rfl, _, rfl, HSRC.out⟩) (by rw [HCL.out, HCU.out]; omega) HONE.out T w2 HB3.out (Nat.le_refl _) ?_; intro w4 r4 hb4)
    have hfin : Hid (Ob w4 T 5 (.slice (some ⟨T, 0, none⟩) 64 64) (bblk s i.toNat)) := by
      have h1 := r4.out
      rw [← HCS.out, ← HCUR.out, rowb_splice _ _ _ _ (by rw [HLEN.out]; omega)] at h1
      have h2 := ob_rowb h1 T 64 (Nat.le_refl _) (Nat.le_refl _) (by decide)
      have e : ((List.range 64).map fun j => if 0 ≤ j ∧ j < 0 + (bblk s i.toNat).length then (bblk s i.toNat)[j - 0]?.getD 0 else 0) = bblk s i.toNat := by
        apply List.ext_getElem?
        intro j
        by_cases hj : j < 64
        · rw [List.getElem?_map, List.getElem?_range hj]
          simp [HLEN.out, hj, List.getElem?_eq_getElem (show j < (bblk s i.toNat).length by rw [HLEN.out]; exact hj)]
        · rw [List.getElem?_eq_none (by simp; omega), List.getElem?_eq_none (by rw [HLEN.out]; omega)]
      rwa [e] at h2
    go_ret2
    exact ⟨_, rfl, by rw [HT.out]; exact hfin.out, by rw [HT.out]; exact hb4⟩
  · rw [HBD.out h0]
    go_wp2_with fail
    refine HM.out.mono ?_
    rintro e w2 ⟨rfl, rfl⟩
    go_wp2
    go_ret2
    exact ⟨_, rfl, Ob.nil _ _ _, Below.refl _ _⟩

end Go.Proofs.Ytbonapdainlpjaa
