/- Layer 15 (graph): cmp.Or of two, after, and slices.ContainsFunc over the stops. -/
import Derived.Test.YtbonapdainlpjaaVe1
import Derived.Deep.RegionHeld3
import Derived.Deep.CutBlock
import Derived.Lib.QuietBelow
set_option linter.unusedSimpArgs false
namespace Go.Proofs.Ytbonapdainlpjaa
open Go.RowKit Go.Sort

def ior (x y : Int) : Int := if x = 0 then y else x
theorem vix (b : Nat) (k : Nat) (hk : k < 2) (W : World) : (Instr.indexAt 106 (.slice (some ⟨b, 0, none⟩) 2 2) (.int .i64 (k : Int))).run Try.prog W = .ok (.pointer (some ⟨b, k, none⟩)) W := by
  have h : k = 0 ∨ k = 1 := by omega
  rcases h with rfl | rfl
  · (show _ = _; kernel_rfl)
  · (show _ = _; kernel_rfl)

set_option maxRecDepth 100000 in
theorem cOr_two (b : Nat) (x y : Int) (w : World) (c0 : w.cell? ⟨b, 0, none⟩ = some (.int .i64 x)) (c1 : w.cell? ⟨b, 1, none⟩ = some (.int .i64 y)) :
    Calls Try.prog 125 #[.slice (some ⟨b, 0, none⟩) 2 2] w fun e w' => e = .returned (.int .i64 (ior x y)) ∧ w' = w := by
  have hx := vix b
  have HI : Hid ((x ≠ 0 → ior x y = x) ∧ (x = 0 → ior x y = y)) := ⟨fun h => if_neg h, fun h => if_pos h⟩
  obtain ⟨z, hz⟩ : ∃ z, ior x y = z := ⟨_, rfl⟩
  rw [hz] at HI ⊢
  clear hz
  go_enter Try.func125, Try.ntmps125
  go_wp2_with fail
  go_loopw [8, 5] (fun vi v5 wr => ∃ k : Nat, k ≤ 2 ∧ vi = .int .i64 k ∧ wr = w ∧ Hid (k = 0 ∨ (k = 1 ∧ x = 0) ∨ (k = 2 ∧ x = 0 ∧ y = 0))) (fun vi _ _ => 2 - (intOf vi).toNat)
  case atStart => exact ⟨0, by omega, rfl, rfl, .inl rfl⟩
  case round =>
    obtain ⟨k, hk, rfl, rfl, HP⟩ := hrel
    by_cases hlt : k < 2
    · have e1 : (k : Int) < 2 := by omega
      have hix := hx k hlt
      have hk2 : k = 0 ∨ k = 1 := by omega
      rcases hk2 with rfl | rfl
      · by_cases h0 : x = 0
        · subst h0
          go_wp2
          go_roundw
          case rel => exact ⟨1, by omega, by go_num, trivial, .inr (.inl ⟨rfl, by first | rfl | trivial⟩)⟩
          case measure => simp [intOf]
        · have e2 : (x != 0) = true := by simpa using h0
          have hf := HI.out.1 h0
          have HF := Lib.hid hf
          clear hf h0
          go_wp2
          go_ret
          exact ⟨by rw [HF.out]; rfl, rfl⟩
      · have hx0 : x = 0 := by
          rcases HP.out with h | ⟨_, h⟩ | ⟨h, _⟩
          · omega
          · exact h
          · omega
        by_cases h0 : y = 0
        · have hxx := Lib.hid hx0
          subst h0
          clear hx0
          go_wp2
          go_roundw
          case rel => exact ⟨2, by omega, by go_num, trivial, .inr (.inr ⟨rfl, hxx.out, by first | rfl | trivial⟩)⟩
          case measure => simp [intOf]
        · have e2 : (y != 0) = true := by simpa using h0
          have hf := HI.out.2 hx0
          have HF := Lib.hid hf
          clear hf h0 hx0
          go_wp2
          go_ret
          exact ⟨by rw [HF.out]; rfl, rfl⟩
    · obtain rfl : k = 2 := by omega
      have e1 : ¬ (((2 : Nat) : Int) < 2) := by decide
      have hf : z = 0 := by
        rcases HP.out with h | ⟨h, _⟩ | ⟨_, h1, h2⟩
        · omega
        · omega
        · rw [HI.out.2 h1, h2]
      have HF := Lib.hid hf
      clear hf
      go_wp2
      go_ret
      exact ⟨by rw [HF.out]; rfl, rfl⟩

def gaft (a b : Int × Int × Int) : Bool := decide (ior (icmp a.1 b.1) (icmp a.2.1 b.2.1) < 0)
theorem gaft_iff (a b : Int × Int × Int) : gaft a b = true ↔ a.1 < b.1 ∨ (a.1 = b.1 ∧ a.2.1 < b.2.1) := by
  unfold gaft ior icmp
  simp only [decide_eq_true_eq]
  split <;> split <;> (try split) <;> (try split) <;> omega

set_option maxRecDepth 100000 in
theorem gAfter_any (a b : Int × Int × Int) (w : World) : Calls Try.prog 122 #[.agg #[.int .i64 a.1, .int .i64 a.2.1, .int .i64 a.2.2], .agg #[.int .i64 b.1, .int .i64 b.2.1, .int .i64 b.2.2]] w fun e w' => e = .returned (.bool (gaft a b)) ∧ Below w.heap.size w w' := by
  obtain ⟨a0, a1, a2⟩ := a
  obtain ⟨b0, b1, b2⟩ := b
  unfold gaft
  simp only
  obtain ⟨W, hW⟩ : ∃ W, (w.alloc (.cells #[.int .i64 a0, .int .i64 a1, .int .i64 a2] 146)).alloc (.cells #[.int .i64 b0, .int .i64 b1, .int .i64 b2] 146) = W := ⟨_, rfl⟩
  have hB : Below w.heap.size w W := by rw [← hW]; exact ((Below.refl _ _).alloc (Nat.le_refl _) _).alloc (by simp) _
  obtain ⟨q, hq⟩ : ∃ q, w.heap.size = q := ⟨_, rfl⟩
  have hr : W.heap[q]? = some (.cells #[.int .i64 a0, .int .i64 a1, .int .i64 a2] 146 (0, 0)) := by rw [← hW, ← hq, alloc_get, if_neg (by simp)]; exact heap_alloc_new _ _
  have hr2 : W.heap[q + 1]? = some (.cells #[.int .i64 b0, .int .i64 b1, .int .i64 b2] 146 (0, 0)) := by rw [← hW, ← hq, alloc_get, if_pos (by simp)]
  have c0 : W.cell? ⟨q, 0, none⟩ = some (.int .i64 a0) := cell_of_row W _ _ _ _ _ hr
  have c1 : W.cell? ⟨q, 1, none⟩ = some (.int .i64 a1) := cell_of_row W _ _ _ _ _ hr
  have d0 : W.cell? ⟨q + 1, 0, none⟩ = some (.int .i64 b0) := cell_of_row W _ _ _ _ _ hr2
  have d1 : W.cell? ⟨q + 1, 1, none⟩ = some (.int .i64 b1) := cell_of_row W _ _ _ _ _ hr2
  have hq2 := heap_lt hr2
  obtain ⟨x, hx⟩ : ∃ x, icmp a0 b0 = x := ⟨_, rfl⟩
  obtain ⟨y, hy⟩ : ∃ y, icmp a1 b1 = y := ⟨_, rfl⟩
  have C1 := Lib.hid (fun V => cCmp_any a0 b0 V)
  have C2 := Lib.hid (fun V => cCmp_any a1 b1 V)
  rw [hx] at C1
  rw [hy] at C2
  rw [hx, hy]
  obtain ⟨V, hV⟩ : ∃ V, (W.alloc (.cells #[.int .i64 x, .int .i64 y] 3)).drew = V := ⟨_, rfl⟩
  have hrv : V.heap[W.heap.size]? = some (.cells #[.int .i64 x, .int .i64 y] 3 (0, 0)) := by rw [← hV]; exact heap_alloc_new W _
  have hbv : Below W.heap.size W V := by rw [← hV]; exact ((Below.refl _ _).alloc (Nat.le_refl _) _).drew
  have C3 := Lib.hid (cOr_two W.heap.size x y V (cell_of_row V _ _ _ _ _ hrv) (cell_of_row V _ _ _ _ _ hrv))
  have HV := Lib.hid hV
  have HBV := Lib.hid hbv
  have v0 : V.cell? ⟨q, 0, none⟩ = some (.int .i64 a0) := (hbv.cell (by exact heap_lt hr)).trans c0
  have v1 : V.cell? ⟨q, 1, none⟩ = some (.int .i64 a1) := (hbv.cell (by exact heap_lt hr)).trans c1
  have v2 : V.cell? ⟨q + 1, 0, none⟩ = some (.int .i64 b0) := (hbv.cell (by exact hq2)).trans d0
  have v3 : V.cell? ⟨q + 1, 1, none⟩ = some (.int .i64 b1) := (hbv.cell (by exact hq2)).trans d1
  have HW := Lib.hid hW
  have HB := Lib.hid hB
  have HQ := Lib.hid hq
  clear hV hrv hbv hW hB hq hr hr2 hx hy
  go_enter Try.func122, Try.ntmps122
  go_upto_region 1 with fail
  rw [HW.out, HQ.out]
  go_region_held3 (fun X => X.cell? ⟨q, 0, none⟩ = some (.int .i64 a0) ∧ X.cell? ⟨q, 1, none⟩ = some (.int .i64 a1) ∧ X.cell? ⟨q + 1, 0, none⟩ = some (.int .i64 b0) ∧ X.cell? ⟨q + 1, 1, none⟩ = some (.int .i64 b1))
    (first | with_reducible exact ⟨c0, c1, d0, d1⟩ | go_keep)
    (first | (go_at_call 126; (with_reducible refine (C1.out _).mono ?_); rintro e w2 ⟨rfl, rfl⟩) | (go_at_call 126; (with_reducible refine (C2.out _).mono ?_); rintro e w2 ⟨rfl, rfl⟩) | (rw [HV.out]; go_at_call 125; (with_reducible refine C3.out.mono ?_); rintro e w2 ⟨rfl, rfl⟩))
  go_wp2
  go_ret
  exact ⟨rfl, HB.out.trans (HBV.out.mono HB.out.size)⟩

end Go.Proofs.Ytbonapdainlpjaa
