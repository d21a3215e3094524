/- Layer 34 (block): a block of ones, and the chapter's example. -/
import Derived.Test.YtbonapdainlpjaaBk9
import Derived.Test.YtbonapdainlpjaaBk7
import Derived.Test.YtbonapdainlpjaaBo0
import Derived.Deep.DeepCutAuto
set_option linter.unusedSimpArgs false
namespace Go.Proofs.Ytbonapdainlpjaa
open Go.RowKit Go.Sort

def fone (k : Nat) (j : Nat) : UInt8 := if j < k then 1 else 0
theorem fone_next (k : Nat) : (fun j => if j = k then 1 else fone k j) = fone (k + 1) := by
  funext j
  unfold fone
  by_cases h : j = k
  · rw [if_pos h, if_pos (by omega)]
  · rw [if_neg h]
    by_cases h2 : j < k
    · rw [if_pos h2, if_pos (by omega)]
    · rw [if_neg h2, if_neg (by omega)]
theorem fone0 : fone 0 = fun _ => 0 := by funext j; simp [fone]
theorem fone_all : ((List.range 64).map fun j => fone 64 (0 + j)) = List.replicate 64 1 := by decide

theorem run_make64 (W : World) : (Instr.makeSlice 43 (.int .i64 64) (.int .i64 64)).run Try.prog W = .ok (.slice (some ⟨W.heap.size, 0, none⟩) 64 64) (W.alloc (.cells (rowb 64 (fone 0)) 5)) := by
  obtain ⟨h1, ⟨i, hi, hz, hs, hb⟩, _⟩ := elB
  have hrun := run_make (P := Try.prog) W 43 5 i _ h1 hi hz .i64 .i64 64 64 (by omega) (by omega) (by rw [hb]; omega) (by omega)
  rw [hs] at hrun
  rw [hrun, fone0]
  exact congrArg (fun c => Result.ok (Value.slice (some ⟨W.heap.size, 0, none⟩) 64 64) (W.alloc (.cells c 5))) (madeCells_rowb 64)

set_option maxRecDepth 100000 in
theorem bones_any (w : World) : Calls Try.prog 88 #[] w fun e w' => e = .returned (.slice (some ⟨w.heap.size, 0, none⟩) 64 64) ∧ Bs w' (.slice (some ⟨w.heap.size, 0, none⟩) 64 64) (List.replicate 64 1) ∧ Below w.heap.size w w' := by
  have hmk := run_make64
  have h0 : (w.alloc (.cells (rowb 64 (fone 0)) 5)).heap[w.heap.size]? = some (.cells (rowb 64 (fone 0)) 5 (0, 0)) := heap_alloc_new _ _
  have hb0 : Below w.heap.size w (w.alloc (.cells (rowb 64 (fone 0)) 5)) := bel_a (Below.refl _ _) _
  have H0 := Lib.hid h0
  have HB0 := Lib.hid hb0
  clear h0 hb0
  go_enter Try.func88, Try.ntmps88
  go_wp2_with fail
  go_loopw [6] (fun i wr => ∃ k : Nat, k ≤ 64 ∧ i = .int .i64 k ∧ Hid (wr.heap[w.heap.size]? = some (.cells (rowb 64 (fone k)) 5 (0, 0))) ∧ Hid (Below w.heap.size w wr)) (fun i _ => 64 - (intOf i).toNat)
  case atStart => exact ⟨0, by omega, rfl, H0, HB0⟩
  case round =>
    obtain ⟨k, hk, rfl, HR, HB⟩ := hrel
    by_cases hlt : k < 64
    · have e1 : (k : Int) < 64 := by omega
      have hix := ixb w.heap.size 0 64 64 k hlt
      have fz := row_free HR.out k
      obtain ⟨z, hz⟩ : ∃ z, wr.cell? ⟨w.heap.size, k, none⟩ = some z := ⟨_, by rw [cell_of_row wr _ _ _ _ _ HR.out, rowb_get _ (by omega)]⟩
      rw [Nat.zero_add] at hix
      have hn1 : Hid ((wr.setCell ⟨w.heap.size, k, none⟩ (.int .u8 1)).heap[w.heap.size]? = some (.cells (rowb 64 (fone (k + 1))) 5 (0, 0))) := by
        rw [← fone_next]
        have := row_setCell HR.out k (bv 1)
        rw [rowb_set] at this
        exact this
      have hn2 : Hid (Below w.heap.size w (wr.setCell ⟨w.heap.size, k, none⟩ (.int .u8 1))) :=
        HB.out.trans ((set_only wr w.heap.size k (.int .u8 1)).below (fun j hj => Nat.le_of_eq hj.symm) HB.out.size)
      go_wp2
      go_roundw
      case rel => exact ⟨k + 1, by omega, by go_num, hn1, hn2⟩
      case measure => simp [intOf]; omega
    · obtain rfl : k = 64 := by omega
      have hbs := bs_rowc HR.out 0 64 64 (by omega) (by omega) (by decide)
      rw [fone_all] at hbs
      have HBS := Lib.hid hbs
      clear hbs
      go_wp2
      go_ret
      exact ⟨rfl, HBS.out, HB.out⟩

def ones64 : List UInt8 := List.replicate 64 1
def sone : BSt := ⟨1, bput (fun _ => 0) 0 (List.replicate 3 1), true, none, 1⟩
theorem sone_set : bset (bzero 1) 0 3 = ⟨1, fun _ => 0, false, some (0, 3), 0⟩ := rfl
theorem sone_wr : bwrS ⟨1, fun _ => 0, false, some (0, 3), 0⟩ 0 (List.replicate 64 1) = sone := by kernel_rfl
theorem sone_img : bimg sone = List.replicate 3 1 ++ List.replicate 61 0 := by kernel_rfl

set_option maxRecDepth 100000 in
theorem bawake_any (w : World) : Calls Try.prog 24 #[] w fun e w' => e = .returned (.bool true) ∧ Below w.heap.size w w' := by
  obtain ⟨B, hB⟩ : ∃ B, w.heap.size = B := ⟨_, rfl⟩
  rw [hB]
  go_enter Try.func24, Try.ntmps24
  go_wp2_with fail
  refine (bNew_any 1 (by omega) (by omega) w).mono ?_
  rintro e w1 ⟨rfl, hb1, hs1⟩
  rw [hB] at hb1 hs1
  go_wp2_with fail
  refine (bFuse_any _ _ _ _ 0 3 (by omega) (by omega) B w1 hs1 (by have := hb1.size; omega)).mono ?_
  rintro e w2 ⟨rfl, fo, hs2, ho2, hn2⟩
  rw [sone_set] at hs2
  have hb2 : Below B w w2 := hb1.trans (ho2.below (fun k hk => (hs1.foot k hk).1) (by have := hb1.size; omega))
  have HB2 := Lib.hid hb2
  have hs2f := Lib.hid hs2.foot
  have HS2 := Lib.hid hs2
  clear hb1 hs1 ho2 hn2 hb2 hs2
  go_wp2_with fail
  refine (bones_any w2).mono ?_
  rintro e w3 ⟨rfl, hl3, hb3⟩
  have HS3 := Lib.hid (HS2.out.below hb3)
  have HB3 := Lib.hid (HB2.out.trans (hb3.mono (by have := HB2.out.size; omega)))
  have HL3 := Lib.hid hl3
  have hoff : SOff (B + 1) B fo (.slice (some ⟨w2.heap.size, 0, none⟩) 64 64) := fun k hk hF => by
    have := (hs2f.out k hF).2
    have h2 : w2.heap.size = k := by simpa [Value.ownBlock] using hk
    omega
  have HO := Lib.hid hoff
  clear hl3 hb3 hoff
  go_wp2_with fail
  refine (bWrite_any _ _ _ _ 0 _ _ B w3 HS3.out HL3.out HO.out (by decide) (by decide)).mono ?_
  rintro e w4 ⟨rfl, fo4, hs4, ho4, hn4⟩
  rw [sone_wr] at hs4
  have HB4 := Lib.hid (HB3.out.trans (ho4.below (fun k hk => (HS3.out.foot k hk).1) (by have := HB3.out.size; omega)))
  have HS4 := Lib.hid hs4
  clear hs4 ho4 hn4
  go_wp2_with fail
  refine (bImage_any _ _ _ _ B w4 HS4.out).mono ?_
  rintro e w5 ⟨v5, rfl, ho5, hb5⟩
  rw [sone_img] at ho5
  have hbs := ho5.bs
  obtain ⟨a5, c5, rfl⟩ := hbs.shape
  obtain ⟨b, o, rfl, hc⟩ := hbs.at (by decide)
  have cc2 : w5.cell? ⟨b, o + 2, none⟩ = some (.int .u8 1) := hc 2 1 rfl
  have cc3 : w5.cell? ⟨b, o + 3, none⟩ = some (.int .u8 0) := hc 3 0 rfl
  have HS5 := Lib.hid (HS4.out.below hb5)
  have HB5 := Lib.hid (HB4.out.trans (hb5.mono (by have := HB4.out.size; omega)))
  clear hbs ho5 hc hb5
  go_wp2_with fail
  refine (bOn_any _ _ _ _ B w5 HS5.out).mono ?_
  rintro e w6 ⟨he, rfl⟩
  obtain rfl : e = .returned (.bool false) := he
  go_wp2
  go_ret
  exact ⟨rfl, HB5.out⟩

end Go.Proofs.Ytbonapdainlpjaa
