/- Layer 34 (block): BlockTears, as its row wants it. -/
import Derived.Test.YtbonapdainlpjaaBk13
import Derived.Test.YtbonapdainlpjaaFrame
set_option linter.unusedSimpArgs false
namespace Go.Proofs.Ytbonapdainlpjaa
open Go.RowKit Go.Sort
set_option maxRecDepth 100000 in
theorem blocktears_walk (v0 : Value) (l : List UInt8) (x y z : Nat) (hx : x < 256) (hy : y < 256) (hz : z < 256) (v4 : Value) (lb : List UInt8) (w : World) (h0 : Bs w v0 l) (h4 : Bs w v4 lb) :
    Calls Try.prog 6 #[v0, .agg #[.int .u8 (x : Int), .int .u8 (y : Int), .int .u8 (z : Int)], v4] w fun e w' => e = .returned (.bool true) ∧ Below w.heap.size w w' := by
  have H0 := Lib.hid h0
  have H4 := Lib.hid h4
  obtain ⟨a, c, rfl⟩ := h0.shape
  obtain ⟨a4, c4, rfl⟩ := h4.shape
  obtain ⟨n, hn⟩ : ∃ n, l.length = n := ⟨_, rfl⟩
  obtain ⟨n4, hn4⟩ : ∃ n, lb.length = n := ⟨_, rfl⟩
  rw [hn] at H0 ⊢
  rw [hn4] at H4 ⊢
  clear h0 h4 hn hn4
  go_enter Try.func6, Try.ntmps6
  go_wp2_with fail
  refine (tears_any _ _ l lb x y z hx hy hz _ (H0.out.alloc _) (H4.out.alloc _)).mono ?_
  rintro e w2 ⟨rfl, hb⟩
  go_wp2
  go_ret
  exact ⟨rfl, ((Below.refl _ _).alloc (Nat.le_refl _) _).trans (hb.mono (by simp))⟩

theorem blocktears_row (v0 : Value) (l : List UInt8) (v1 : Value) (a : Int × Int × Int) (v4 : Value) (lb : List UInt8) (w : World) (h0 : Bs w v0 l) (ha : v1 = .agg #[.int .u8 a.1, .int .u8 a.2.1, .int .u8 a.2.2] ∧ (Lit.int .u8 a.1).wf = true ∧ (Lit.int .u8 a.2.1).wf = true ∧ (Lit.int .u8 a.2.2).wf = true) (h4 : Bs w v4 lb) :
    Calls Try.prog 6 #[v0, v1, v4] w fun e w' => e = .returned (.bool true) ∧ Below w.heap.size w w' := by
  obtain ⟨x, y, z⟩ := a
  obtain ⟨rfl, h1, h2, h3⟩ := ha
  have k1 : 0 ≤ x ∧ x < 256 := by have := wf_u8 h1; simp only at this ⊢; omega
  have k2 : 0 ≤ y ∧ y < 256 := by have := wf_u8 h2; simp only at this ⊢; omega
  have k3 : 0 ≤ z ∧ z < 256 := by have := wf_u8 h3; simp only at this ⊢; omega
  obtain ⟨x, rfl⟩ : ∃ n : Nat, x = n := ⟨x.toNat, by omega⟩
  obtain ⟨y, rfl⟩ : ∃ n : Nat, y = n := ⟨y.toNat, by omega⟩
  obtain ⟨z, rfl⟩ : ∃ n : Nat, z = n := ⟨z.toNat, by omega⟩
  exact blocktears_walk v0 l x y z (by omega) (by omega) (by omega) v4 lb w h0 h4
end Go.Proofs.Ytbonapdainlpjaa
