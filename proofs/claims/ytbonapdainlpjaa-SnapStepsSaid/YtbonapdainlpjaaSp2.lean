/- Layer 36 (snap): a generation's record. -/
import Derived.Test.YtbonapdainlpjaaSp1
set_option linter.unusedSimpArgs false
namespace Go.Proofs.Ytbonapdainlpjaa
open Go.RowKit Go.Sort

theorem ix8 (b o n c : Nat) (k : Nat) (hk : k < n) (W : World) : (Instr.indexAt 43 (.slice (some ⟨b, o, none⟩) n c) (.int .i64 (k : Int))).run Try.prog W = .ok (.pointer (some ⟨b, o + k, none⟩)) W := by
  have hT := elB.1
  have hel : Try.prog.elem 43 = 5 := by simp [Program.elem, hT]
  have hs := elB.sizeOf
  rw [run_indexAt_slice W 43 _ n c .i64 k (by rw [hel]; exact hT), if_pos ⟨by omega, by omega⟩, hel, hs]
  simp [Result.andThen, Addr.add_lit]

def fhead (g k : Nat) : Nat → UInt8 := fun j => if j < k then sbyte g j else 0
theorem fhead_next (g k : Nat) : (fun j => if j = k then sbyte g k else fhead g k j) = fhead g (k + 1) := by
  funext j
  unfold fhead
  by_cases h : j = k
  · subst h; simp
  · rw [if_neg h]
    by_cases h2 : j < k
    · rw [if_pos h2, if_pos (by omega)]
    · rw [if_neg h2, if_neg (by omega)]
theorem fhead0 (g : Nat) : fhead g 0 = fun _ => 0 := by funext j; simp [fhead]
theorem fhead8 (g : Nat) : (List.range 8).map (fhead g 8) = shead g := rfl

set_option maxRecDepth 100000 in
set_option maxHeartbeats 800000 in
theorem sRecord_any (gn : Nat) (v : Value) (sn : List UInt8) (w : World) (hv : Bs w v sn) (hl : sn.length ≤ 262136) :
    Calls Try.prog 117 #[.int .u64 (gn : Int), v] w fun e w' => ∃ x, e = .returned x ∧ Ob w' w.heap.size 5 x (srec gn sn) ∧ Below w.heap.size w w' := by
  obtain ⟨S, hS⟩ : ∃ S, sn.length = S := ⟨_, rfl⟩
  obtain ⟨a, c, hs⟩ := hv.shape
  subst hs
  rw [hS] at hl
  have HV := Lib.hid hv
  rw [hS] at HV
  have hb0 : Below w.heap.size w (w.alloc (.cells (rowb (8 + S) (fhead gn 0)) 5)) := (Below.refl _ _).alloc (Nat.le_refl _) _
  have h0 : (w.alloc (.cells (rowb (8 + S) (fhead gn 0)) 5)).heap[w.heap.size]? = some (.cells (rowb (8 + S) (fhead gn 0)) 5 (0, 0)) := heap_alloc_new _ _
  have H0 := Lib.hid h0
  have HB0 := Lib.hid hb0
  have HS := Lib.hid hS
  have f0 := fhead0 gn
  clear hv h0 hb0
  rw [hS]
  go_enter Try.func117, Try.ntmps117
  go_wp2_with (at_make; go_must (refine wpList_make_rowb elB 8 (8 + S) (by omega) (by omega) (by simp [maxLen]; omega) rfl _ _ rfl _ _ rfl (by go_num) ?_))
  rw [← f0]
  go_loopw [13] (fun i wr => ∃ k : Nat, k ≤ 8 ∧ i = .int .i64 k ∧ Hid (wr.heap[w.heap.size]? = some (.cells (rowb (8 + S) (fhead gn k)) 5 (0, 0))) ∧ Hid (Below w.heap.size w wr)) (fun i _ => 8 - (intOf i).toNat)
  case atStart => exact ⟨0, by omega, rfl, H0, HB0⟩
  case round =>
    obtain ⟨k, hk, rfl, HR, HB⟩ := hrel
    clear f0
    by_cases hlt : k < 8
    · have e1 : (k : Int) < 8 := by omega
      have hix := ix8 w.heap.size 0 8 (8 + S) k hlt
      have fz := row_free HR.out k
      obtain ⟨z, hz⟩ : ∃ z, wr.cell? ⟨w.heap.size, k, none⟩ = some z := ⟨_, by rw [cell_of_row wr _ _ _ _ _ HR.out, rowb_get _ (by omega)]⟩
      rw [Nat.zero_add] at hix
      have hn1 : Hid ((wr.setCell ⟨w.heap.size, k, none⟩ (bv (sbyte gn k))).heap[w.heap.size]? = some (.cells (rowb (8 + S) (fhead gn (k + 1))) 5 (0, 0))) := by
        rw [← fhead_next]
        have := row_setCell HR.out k (bv (sbyte gn k))
        rw [rowb_set] at this
        exact this
      have hn2 : Hid (Below w.heap.size w (wr.setCell ⟨w.heap.size, k, none⟩ (bv (sbyte gn k)))) :=
        HB.out.trans ((set_only wr w.heap.size k _).below (fun j hj => Nat.le_of_eq hj.symm) HB.out.size)
      go_wp2
      have hv2 : Value.int IntKind.u8 ((gn : Int) / 2 ^ (56 - 8 * k) % 256) = bv (sbyte gn k) := by
        unfold bv sbyte
        rw [UInt8.toNat_ofNat', Int.natCast_emod, Int.natCast_ediv, Int.natCast_pow]
        rfl
      go_roundw
      case rel => exact ⟨k + 1, by omega, by go_num, by rw [hv2]; exact hn1, by rw [hv2]; exact hn2⟩
      case measure => simp [intOf]; omega
    · obtain rfl : k = 8 := by omega
      have e1 : ¬ (8 : Int) < 8 := by omega
      have hob := ob_rowb HR.out w.heap.size 8 (Nat.le_refl _) (by omega) (by simp [maxLen]; omega)
      rw [fhead8] at hob
      have HOB := Lib.hid hob
      clear hob
      go_wp2_with (at_builtin; go_must (refine wpList_append_bytes HOB.out (HV.out.below HB.out) elB (by rw [shead_len, HS.out]; omega) (by rw [shead_len, HS.out]; omega) HB.out.size ?_ _ _ rfl rfl rfl rfl); intro v3 w3 ho3 hg3 hb3 _)
      go_ret
      exact ⟨_, rfl, ho3, HB.out.trans hb3⟩
end Go.Proofs.Ytbonapdainlpjaa
