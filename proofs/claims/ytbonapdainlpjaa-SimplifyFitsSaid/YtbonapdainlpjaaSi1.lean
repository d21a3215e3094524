/- Layer 53 (simplify): plain; the walks of Area on both sides, slices.Clone at samples, least on both sides. -/
import Derived.Test.YtbonapdainlpjaaSmp0
import Derived.Test.YtbonapdainlpjaaSamp2
import Derived.Deep.RegionHeld3
import Derived.Lib.QuietBelow
import Derived.Lib.SliceRun
import Derived.Deep.CutBlock
import Derived.Deep.RegionLaw
set_option linter.unusedSimpArgs false
namespace Go.Proofs.Ytbonapdainlpjaa
open Go.RowKit Go.Sort

theorem layS : Lay 3 Smp.cells := ⟨fun _ => rfl, fun s u hu => scells_one [s] u (by simpa [scells] using hu), by decide⟩

def scross (a b c : Smp) : Int := (b.x - a.x) * (c.y - a.y) - (b.y - a.y) * (c.x - a.x)
def sarea (a b c : Smp) : Int := if mayB a && (mayB b && mayB c) then sabs (scross a b c) else 0
theorem mul_b (u v : Int) (hu : -67108864 < u ∧ u < 67108864) (hv : -67108864 < v ∧ v < 67108864) : -4503599627370496 ≤ u * v ∧ u * v ≤ 4503599627370496 := by
  have h1 : (u * v).natAbs = u.natAbs * v.natAbs := Int.natAbs_mul u v
  have h2 : u.natAbs * v.natAbs ≤ 67108864 * 67108864 := Nat.mul_le_mul (by omega) (by omega)
  omega
theorem scross_ref (a b c : Smp) : a.x * b.y - b.x * a.y + b.x * c.y - c.x * b.y + c.x * a.y - a.x * c.y = scross a b c := by
  unfold scross
  rw [Int.sub_mul, Int.sub_mul, Int.mul_sub, Int.mul_sub, Int.mul_sub, Int.mul_sub, Int.mul_comm b.y c.x, Int.mul_comm b.y a.x, Int.mul_comm a.y c.x, Int.mul_comm a.y a.x]
  omega
theorem three_ways (b1 b2 b3 : Bool) : b1 = false ∨ (b1 = true ∧ b2 = false) ∨ (b1 = true ∧ b2 = true ∧ b3 = false) ∨ (b1 = true ∧ b2 = true ∧ b3 = true) := by cases b1 <;> cases b2 <;> cases b3 <;> simp

set_option maxRecDepth 100000 in
set_option maxHeartbeats 3200000 in
theorem area_any (a b c : Smp) (w : World) : Calls Try.prog 19 #[.agg #[.int .i64 a.t, .int .i64 a.x, .int .i64 a.y], .agg #[.int .i64 b.t, .int .i64 b.x, .int .i64 b.y], .agg #[.int .i64 c.t, .int .i64 c.x, .int .i64 c.y]] w fun e w' => e = .returned (.int .i64 (sarea a b c)) ∧ Below w.heap.size w w' := by
  have F1 := Lib.hid (smay_any a)
  have F2 := Lib.hid (smay_any b)
  have F3 := Lib.hid (smay_any c)
  have hM : mayB a = true → SMay a := (mayB_iff a).1
  have hM2 : mayB b = true → SMay b := (mayB_iff b).1
  have hM3 : mayB c = true → SMay c := (mayB_iff c).1
  unfold sarea scross
  obtain ⟨b1, e1⟩ : ∃ x, mayB a = x := ⟨_, rfl⟩
  obtain ⟨b2, e2⟩ : ∃ x, mayB b = x := ⟨_, rfl⟩
  obtain ⟨b3, e3⟩ : ∃ x, mayB c = x := ⟨_, rfl⟩
  rw [e1] at F1 hM ⊢
  rw [e2] at F2 hM2 ⊢
  rw [e3] at F3 hM3 ⊢
  clear e1 e2 e3
  unfold SMay at hM hM2 hM3
  obtain ⟨at1, ax, ay⟩ := a
  obtain ⟨bt1, bx, bY⟩ := b
  obtain ⟨ct1, cx, cy⟩ := c
  dsimp only at F1 F2 F3 hM hM2 hM3 ⊢
  obtain ⟨W1, hW1⟩ : ∃ W, ((w.alloc (.cells #[.int .i64 at1, .int .i64 ax, .int .i64 ay] 30)).alloc (.cells #[.int .i64 bt1, .int .i64 bx, .int .i64 bY] 30)).alloc (.cells #[.int .i64 ct1, .int .i64 cx, .int .i64 cy] 30) = W := ⟨_, rfl⟩
  have hb1 : Below w.heap.size w W1 := by rw [← hW1]; exact (((Below.refl _ _).alloc (Nat.le_refl _) _).alloc (by simp) _).alloc (by simp; omega) _
  have r1 : W1.heap[w.heap.size]? = some (.cells #[.int .i64 at1, .int .i64 ax, .int .i64 ay] 30 (0, 0)) := by rw [← hW1, alloc_get, if_neg (by simp; omega), alloc_get, if_neg (by simp), alloc_get, if_pos rfl]
  have r2 : W1.heap[w.heap.size + 1]? = some (.cells #[.int .i64 bt1, .int .i64 bx, .int .i64 bY] 30 (0, 0)) := by rw [← hW1, alloc_get, if_neg (by simp), alloc_get, if_pos (by simp)]
  have r3 : W1.heap[w.heap.size + 1 + 1]? = some (.cells #[.int .i64 ct1, .int .i64 cx, .int .i64 cy] 30 (0, 0)) := by rw [← hW1, alloc_get, if_pos (by simp)]
  have HC : Hid (∀ X, Below W1.heap.size W1 X → (X.cell? ⟨w.heap.size, 0, none⟩ = some (.int .i64 at1) ∧ X.cell? ⟨w.heap.size, 1, none⟩ = some (.int .i64 ax) ∧ X.cell? ⟨w.heap.size, 2, none⟩ = some (.int .i64 ay)) ∧ (X.cell? ⟨w.heap.size + 1, 0, none⟩ = some (.int .i64 bt1) ∧ X.cell? ⟨w.heap.size + 1, 1, none⟩ = some (.int .i64 bx) ∧ X.cell? ⟨w.heap.size + 1, 2, none⟩ = some (.int .i64 bY)) ∧ (X.cell? ⟨w.heap.size + 1 + 1, 0, none⟩ = some (.int .i64 ct1) ∧ X.cell? ⟨w.heap.size + 1 + 1, 1, none⟩ = some (.int .i64 cx) ∧ X.cell? ⟨w.heap.size + 1 + 1, 2, none⟩ = some (.int .i64 cy))) := fun X hX =>
    have k1 := (hX.block _ (heap_lt r1)).trans r1
    have k2 := (hX.block _ (heap_lt r2)).trans r2
    have k3 := (hX.block _ (heap_lt r3)).trans r3
    ⟨⟨cell_of_row X _ _ _ _ _ k1, cell_of_row X _ _ _ _ _ k1, cell_of_row X _ _ _ _ _ k1⟩, ⟨cell_of_row X _ _ _ _ _ k2, cell_of_row X _ _ _ _ _ k2, cell_of_row X _ _ _ _ _ k2⟩, ⟨cell_of_row X _ _ _ _ _ k3, cell_of_row X _ _ _ _ _ k3, cell_of_row X _ _ _ _ _ k3⟩⟩
  have HWW := Lib.hid hW1
  have HB1 := Lib.hid hb1
  clear r1 r2 r3 hW1 hb1
  go_enter Try.func19, Try.ntmps19
  go_upto_region 1 with fail
  rw [HWW.out]
  obtain ⟨⟨c1, c2, c3⟩, ⟨d1, d2, d3⟩, ⟨f1, f2, f3⟩⟩ := HC.out _ (Below.refl _ _)
  rcases three_ways b1 b2 b3 with rfl | ⟨rfl, rfl⟩ | ⟨rfl, rfl, rfl⟩ | ⟨rfl, rfl, rfl⟩
  · go_wp2_with (go_at_call 84; with_reducible refine (F1.out _).mono ?_; rintro e w2 ⟨rfl, hb2⟩; have HB2 := Lib.hid hb2; clear hb2)
    go_ret
    exact ⟨rfl, HB1.out.trans (HB2.out.mono HB1.out.size)⟩
  · go_wp2_with (first
      | (go_at_call 84; with_reducible refine (F1.out _).mono ?_; rintro e w2 ⟨rfl, hb2⟩; have HB2 := Lib.hid hb2; clear hb2 c1 c2 c3 d1 d2 d3 f1 f2 f3; obtain ⟨⟨c1, c2, c3⟩, ⟨d1, d2, d3⟩, ⟨f1, f2, f3⟩⟩ := HC.out _ HB2.out)
      | (go_at_call 84; with_reducible refine (F2.out _).mono ?_; rintro e w3 ⟨rfl, hb3⟩; have HB3 := Lib.hid (HB2.out.trans (hb3.mono HB2.out.size)); clear hb3))
    go_ret
    exact ⟨rfl, HB1.out.trans (HB3.out.mono HB1.out.size)⟩
  · go_wp2_with (first
      | (go_at_call 84; with_reducible refine (F1.out _).mono ?_; rintro e w2 ⟨rfl, hb2⟩; have HB2 := Lib.hid hb2; clear hb2 c1 c2 c3 d1 d2 d3 f1 f2 f3; obtain ⟨⟨c1, c2, c3⟩, ⟨d1, d2, d3⟩, ⟨f1, f2, f3⟩⟩ := HC.out _ HB2.out)
      | (go_at_call 84; with_reducible refine (F2.out _).mono ?_; rintro e w3 ⟨rfl, hb3⟩; have HB3 := Lib.hid (HB2.out.trans (hb3.mono HB2.out.size)); clear hb3 c1 c2 c3 d1 d2 d3 f1 f2 f3; obtain ⟨⟨c1, c2, c3⟩, ⟨d1, d2, d3⟩, ⟨f1, f2, f3⟩⟩ := HC.out _ HB3.out)
      | (go_at_call 84; with_reducible refine (F3.out _).mono ?_; rintro e w4 ⟨rfl, hb4⟩; have HB4 := Lib.hid (HB3.out.trans (hb4.mono HB3.out.size)); clear hb4))
    go_ret
    exact ⟨rfl, HB1.out.trans (HB4.out.mono HB1.out.size)⟩
  · have m1 := hM rfl
    have m2 := hM2 rfl
    have m3 := hM3 rfl
    clear hM hM2 hM3
    have q1 := mul_b (bx - ax) (cy - ay) (by omega) (by omega)
    have q2 := mul_b (bY - ay) (cx - ax) (by omega) (by omega)
    obtain ⟨p1, hp1⟩ : ∃ p, (bx - ax) * (cy - ay) = p := ⟨_, rfl⟩
    obtain ⟨p2, hp2⟩ : ∃ p, (bY - ay) * (cx - ax) = p := ⟨_, rfl⟩
    rw [hp1] at q1
    rw [hp2] at q2
    go_upto_region 3 with (first
      | (go_at_call 84; with_reducible refine (F1.out _).mono ?_; rintro e w2 ⟨rfl, hb2⟩; have HB2 := Lib.hid hb2; clear hb2 c1 c2 c3 d1 d2 d3 f1 f2 f3; obtain ⟨⟨c1, c2, c3⟩, ⟨d1, d2, d3⟩, ⟨f1, f2, f3⟩⟩ := HC.out _ HB2.out)
      | (go_at_call 84; with_reducible refine (F2.out _).mono ?_; rintro e w3 ⟨rfl, hb3⟩; have HB3 := Lib.hid (HB2.out.trans (hb3.mono HB2.out.size)); clear hb3 c1 c2 c3 d1 d2 d3 f1 f2 f3; obtain ⟨⟨c1, c2, c3⟩, ⟨d1, d2, d3⟩, ⟨f1, f2, f3⟩⟩ := HC.out _ HB3.out)
      | (go_at_call 84; with_reducible refine (F3.out _).mono ?_; rintro e w4 ⟨rfl, hb4⟩; have HB4 := Lib.hid (HB3.out.trans (hb4.mono HB3.out.size)); clear hb4 c1 c2 c3 d1 d2 d3 f1 f2 f3; obtain ⟨⟨c1, c2, c3⟩, ⟨d1, d2, d3⟩, ⟨f1, f2, f3⟩⟩ := HC.out _ HB4.out))
    go_upto_region 4 with fail
    clear c1 c2 c3 d1 d2 d3 f1 f2 f3
    have HBE := Lib.hid (HB1.out.trans (HB4.out.mono HB1.out.size))
    have HPP := Lib.hid (And.intro hp1 hp2)
    clear hp1 hp2
    by_cases hneg : p1 - p2 < 0
    · have hn2 : p1 - p2 < -(p1 - p2) := by omega
      go_wp2
      go_ret
      exact ⟨ret_int (by rw [HPP.out.1, HPP.out.2]; simp [sabs]; omega), HBE.out⟩
    · have hn2 : ¬ p1 - p2 < -(p1 - p2) := by omega
      go_wp2
      go_ret
      exact ⟨ret_int (by rw [HPP.out.1, HPP.out.2]; simp [sabs]; omega), HBE.out⟩

set_option maxRecDepth 100000 in
set_option maxHeartbeats 3200000 in
theorem warea_any (a b c : Smp) (w : World) : Calls Try.prog 20 #[.agg #[.int .i64 a.t, .int .i64 a.x, .int .i64 a.y], .agg #[.int .i64 b.t, .int .i64 b.x, .int .i64 b.y], .agg #[.int .i64 c.t, .int .i64 c.x, .int .i64 c.y]] w fun e w' => e = .returned (.int .i64 (sarea a b c)) ∧ Below w.heap.size w w' := by
  have F1 := Lib.hid (rmay_any a)
  have F2 := Lib.hid (rmay_any b)
  have F3 := Lib.hid (rmay_any c)
  have hM : mayB a = true → SMay a := (mayB_iff a).1
  have hM2 : mayB b = true → SMay b := (mayB_iff b).1
  have hM3 : mayB c = true → SMay c := (mayB_iff c).1
  unfold sarea scross
  obtain ⟨b1, e1⟩ : ∃ x, mayB a = x := ⟨_, rfl⟩
  obtain ⟨b2, e2⟩ : ∃ x, mayB b = x := ⟨_, rfl⟩
  obtain ⟨b3, e3⟩ : ∃ x, mayB c = x := ⟨_, rfl⟩
  rw [e1] at F1 hM ⊢
  rw [e2] at F2 hM2 ⊢
  rw [e3] at F3 hM3 ⊢
  clear e1 e2 e3
  unfold SMay at hM hM2 hM3
  obtain ⟨at1, ax, ay⟩ := a
  obtain ⟨bt1, bx, bY⟩ := b
  obtain ⟨ct1, cx, cy⟩ := c
  dsimp only at F1 F2 F3 hM hM2 hM3 ⊢
  obtain ⟨W1, hW1⟩ : ∃ W, ((w.alloc (.cells #[.int .i64 at1, .int .i64 ax, .int .i64 ay] 30)).alloc (.cells #[.int .i64 bt1, .int .i64 bx, .int .i64 bY] 30)).alloc (.cells #[.int .i64 ct1, .int .i64 cx, .int .i64 cy] 30) = W := ⟨_, rfl⟩
  have hb1 : Below w.heap.size w W1 := by rw [← hW1]; exact (((Below.refl _ _).alloc (Nat.le_refl _) _).alloc (by simp) _).alloc (by simp; omega) _
  have r1 : W1.heap[w.heap.size]? = some (.cells #[.int .i64 at1, .int .i64 ax, .int .i64 ay] 30 (0, 0)) := by rw [← hW1, alloc_get, if_neg (by simp; omega), alloc_get, if_neg (by simp), alloc_get, if_pos rfl]
  have r2 : W1.heap[w.heap.size + 1]? = some (.cells #[.int .i64 bt1, .int .i64 bx, .int .i64 bY] 30 (0, 0)) := by rw [← hW1, alloc_get, if_neg (by simp), alloc_get, if_pos (by simp)]
  have r3 : W1.heap[w.heap.size + 1 + 1]? = some (.cells #[.int .i64 ct1, .int .i64 cx, .int .i64 cy] 30 (0, 0)) := by rw [← hW1, alloc_get, if_pos (by simp)]
  have HC : Hid (∀ X, Below W1.heap.size W1 X → (X.cell? ⟨w.heap.size, 0, none⟩ = some (.int .i64 at1) ∧ X.cell? ⟨w.heap.size, 1, none⟩ = some (.int .i64 ax) ∧ X.cell? ⟨w.heap.size, 2, none⟩ = some (.int .i64 ay)) ∧ (X.cell? ⟨w.heap.size + 1, 0, none⟩ = some (.int .i64 bt1) ∧ X.cell? ⟨w.heap.size + 1, 1, none⟩ = some (.int .i64 bx) ∧ X.cell? ⟨w.heap.size + 1, 2, none⟩ = some (.int .i64 bY)) ∧ (X.cell? ⟨w.heap.size + 1 + 1, 0, none⟩ = some (.int .i64 ct1) ∧ X.cell? ⟨w.heap.size + 1 + 1, 1, none⟩ = some (.int .i64 cx) ∧ X.cell? ⟨w.heap.size + 1 + 1, 2, none⟩ = some (.int .i64 cy))) := fun X hX =>
    have k1 := (hX.block _ (heap_lt r1)).trans r1
    have k2 := (hX.block _ (heap_lt r2)).trans r2
    have k3 := (hX.block _ (heap_lt r3)).trans r3
    ⟨⟨cell_of_row X _ _ _ _ _ k1, cell_of_row X _ _ _ _ _ k1, cell_of_row X _ _ _ _ _ k1⟩, ⟨cell_of_row X _ _ _ _ _ k2, cell_of_row X _ _ _ _ _ k2, cell_of_row X _ _ _ _ _ k2⟩, ⟨cell_of_row X _ _ _ _ _ k3, cell_of_row X _ _ _ _ _ k3, cell_of_row X _ _ _ _ _ k3⟩⟩
  have HWW := Lib.hid hW1
  have HB1 := Lib.hid hb1
  clear r1 r2 r3 hW1 hb1
  go_enter Try.func20, Try.ntmps20
  go_upto_region 1 with fail
  rw [HWW.out]
  obtain ⟨⟨c1, c2, c3⟩, ⟨d1, d2, d3⟩, ⟨f1, f2, f3⟩⟩ := HC.out _ (Below.refl _ _)
  rcases three_ways b1 b2 b3 with rfl | ⟨rfl, rfl⟩ | ⟨rfl, rfl, rfl⟩ | ⟨rfl, rfl, rfl⟩
  · go_wp2_with (go_at_call 85; with_reducible refine (F1.out _).mono ?_; rintro e w2 ⟨rfl, hb2⟩; have HB2 := Lib.hid hb2; clear hb2)
    go_ret
    exact ⟨rfl, HB1.out.trans (HB2.out.mono HB1.out.size)⟩
  · go_wp2_with (first
      | (go_at_call 85; with_reducible refine (F1.out _).mono ?_; rintro e w2 ⟨rfl, hb2⟩; have HB2 := Lib.hid hb2; clear hb2 c1 c2 c3 d1 d2 d3 f1 f2 f3; obtain ⟨⟨c1, c2, c3⟩, ⟨d1, d2, d3⟩, ⟨f1, f2, f3⟩⟩ := HC.out _ HB2.out)
      | (go_at_call 85; with_reducible refine (F2.out _).mono ?_; rintro e w3 ⟨rfl, hb3⟩; have HB3 := Lib.hid (HB2.out.trans (hb3.mono HB2.out.size)); clear hb3))
    go_ret
    exact ⟨rfl, HB1.out.trans (HB3.out.mono HB1.out.size)⟩
  · go_wp2_with (first
      | (go_at_call 85; with_reducible refine (F1.out _).mono ?_; rintro e w2 ⟨rfl, hb2⟩; have HB2 := Lib.hid hb2; clear hb2 c1 c2 c3 d1 d2 d3 f1 f2 f3; obtain ⟨⟨c1, c2, c3⟩, ⟨d1, d2, d3⟩, ⟨f1, f2, f3⟩⟩ := HC.out _ HB2.out)
      | (go_at_call 85; with_reducible refine (F2.out _).mono ?_; rintro e w3 ⟨rfl, hb3⟩; have HB3 := Lib.hid (HB2.out.trans (hb3.mono HB2.out.size)); clear hb3 c1 c2 c3 d1 d2 d3 f1 f2 f3; obtain ⟨⟨c1, c2, c3⟩, ⟨d1, d2, d3⟩, ⟨f1, f2, f3⟩⟩ := HC.out _ HB3.out)
      | (go_at_call 85; with_reducible refine (F3.out _).mono ?_; rintro e w4 ⟨rfl, hb4⟩; have HB4 := Lib.hid (HB3.out.trans (hb4.mono HB3.out.size)); clear hb4))
    go_ret
    exact ⟨rfl, HB1.out.trans (HB4.out.mono HB1.out.size)⟩
  · have m1 := hM rfl
    have m2 := hM2 rfl
    have m3 := hM3 rfl
    clear hM hM2 hM3
    have href := scross_ref ⟨at1, ax, ay⟩ ⟨bt1, bx, bY⟩ ⟨ct1, cx, cy⟩
    unfold scross at href
    dsimp only at href
    have q1 := mul_b ax bY (by omega) (by omega)
    have q2 := mul_b bx ay (by omega) (by omega)
    have q3 := mul_b bx cy (by omega) (by omega)
    have q4 := mul_b cx bY (by omega) (by omega)
    have q5 := mul_b cx ay (by omega) (by omega)
    have q6 := mul_b ax cy (by omega) (by omega)
    obtain ⟨p1, hp1⟩ : ∃ p, ax * bY = p := ⟨_, rfl⟩
    obtain ⟨p2, hp2⟩ : ∃ p, bx * ay = p := ⟨_, rfl⟩
    obtain ⟨p3, hp3⟩ : ∃ p, bx * cy = p := ⟨_, rfl⟩
    obtain ⟨p4, hp4⟩ : ∃ p, cx * bY = p := ⟨_, rfl⟩
    obtain ⟨p5, hp5⟩ : ∃ p, cx * ay = p := ⟨_, rfl⟩
    obtain ⟨p6, hp6⟩ : ∃ p, ax * cy = p := ⟨_, rfl⟩
    rw [hp1] at q1 href
    rw [hp2] at q2 href
    rw [hp3] at q3 href
    rw [hp4] at q4 href
    rw [hp5] at q5 href
    rw [hp6] at q6 href
    obtain ⟨sc, hsc⟩ : ∃ z, (bx - ax) * (cy - ay) - (bY - ay) * (cx - ax) = z := ⟨_, rfl⟩
    rw [hsc] at href
    have HSC := Lib.hid hsc
    have HREF := Lib.hid href
    clear hsc href
    go_upto_region 3 with (first
      | (go_at_call 85; with_reducible refine (F1.out _).mono ?_; rintro e w2 ⟨rfl, hb2⟩; have HB2 := Lib.hid hb2; clear hb2 c1 c2 c3 d1 d2 d3 f1 f2 f3; obtain ⟨⟨c1, c2, c3⟩, ⟨d1, d2, d3⟩, ⟨f1, f2, f3⟩⟩ := HC.out _ HB2.out)
      | (go_at_call 85; with_reducible refine (F2.out _).mono ?_; rintro e w3 ⟨rfl, hb3⟩; have HB3 := Lib.hid (HB2.out.trans (hb3.mono HB2.out.size)); clear hb3 c1 c2 c3 d1 d2 d3 f1 f2 f3; obtain ⟨⟨c1, c2, c3⟩, ⟨d1, d2, d3⟩, ⟨f1, f2, f3⟩⟩ := HC.out _ HB3.out)
      | (go_at_call 85; with_reducible refine (F3.out _).mono ?_; rintro e w4 ⟨rfl, hb4⟩; have HB4 := Lib.hid (HB3.out.trans (hb4.mono HB3.out.size)); clear hb4 c1 c2 c3 d1 d2 d3 f1 f2 f3; obtain ⟨⟨c1, c2, c3⟩, ⟨d1, d2, d3⟩, ⟨f1, f2, f3⟩⟩ := HC.out _ HB4.out))
    go_upto_region 4 with fail
    clear c1 c2 c3 d1 d2 d3 f1 f2 f3 hp1 hp2 hp3 hp4 hp5 hp6
    have HBE := Lib.hid (HB1.out.trans (HB4.out.mono HB1.out.size))
    rw [HREF.out]
    have hscb : -27021597764222976 ≤ sc ∧ sc ≤ 27021597764222976 := by have := HREF.out; omega
    clear q1 q2 q3 q4 q5 q6
    by_cases hneg : sc < 0
    · go_wp2
      go_ret
      exact ⟨ret_int (by rw [HSC.out]; simp [sabs]; omega), HBE.out⟩
    · go_wp2
      go_ret
      exact ⟨ret_int (by rw [HSC.out]; simp [sabs]; omega), HBE.out⟩

end Go.Proofs.Ytbonapdainlpjaa
