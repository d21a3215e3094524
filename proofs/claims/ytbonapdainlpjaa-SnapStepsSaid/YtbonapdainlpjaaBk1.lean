/- Layer 34 (block): a store in the heap; the walks of its small methods. -/
import Derived.Test.YtbonapdainlpjaaVarint
import Derived.Test.YtbonapdainlpjaaBase
import Derived.Deep.RegionHeld3
import Derived.Deep.RegionLaw
import Derived.Deep.MidRow
import Derived.Lib.QuietBelow
import Derived.Lib.SliceRun
set_option linter.unusedSimpArgs false
namespace Go.Proofs.Ytbonapdainlpjaa
open Go.RowKit Go.Sort

/-- a store as plain data: how many blocks, their bytes, off or not, the fuse, how many writes. -/
structure BSt where
  n : Nat
  f : Nat → UInt8
  off : Bool
  fu : Option (Int × Int)
  cnt : Int

def fptr (fo : Option Nat) : Value := .pointer (fo.map fun h => ⟨h, 0, none⟩)
def FuAt (w : World) (B : Nat) (fo : Option Nat) (fu : Option (Int × Int)) : Prop :=
  (fo = none ∧ fu = none) ∨ ∃ h a b, fo = some h ∧ fu = some (a, b) ∧ B ≤ h ∧ 0 ≤ a ∧ a ≤ 9223372036854775807 ∧ 0 ≤ b ∧ b ≤ 9223372036854775807 ∧ w.heap[h]? = some (.cells #[.int .i64 a, .int .i64 b] 126 (0, 0))

structure StAt (w : World) (B g gb : Nat) (fo : Option Nat) (s : BSt) : Prop where
  low : B ≤ g
  lowb : B ≤ gb
  n1 : 1 ≤ s.n
  n2 : s.n ≤ 32768
  row : w.heap[g]? = some (.cells #[.slice (some ⟨gb, 0, none⟩) s.n s.n, .bool s.off, fptr fo, .int .i64 s.cnt] 121 (0, 0))
  blk : w.heap[gb]? = some (.cells (rowb (s.n * 64) s.f) 124 (0, 0))
  fus : FuAt w B fo s.fu

/-- the blocks of the heap that are the store's -/
def stF (g gb : Nat) (fo : Option Nat) (k : Nat) : Prop := k = g ∨ k = gb ∨ fo = some k

def bmayE (s : BSt) (i : Int) : Int := if s.off then 50 else if 0 ≤ i ∧ i < s.n then 0 else 2

theorem bmay_any (g gb : Nat) (fo : Option Nat) (s : BSt) (i : Int) (B : Nat) (w : World) (h : StAt w B g gb fo s) :
    Calls Try.prog 89 #[.pointer (some ⟨g, 0, none⟩), .int .i64 i] w fun e w' => e = .returned (.int .i64 (bmayE s i)) ∧ w' = w := by
  have c0 : w.cell? ⟨g, 0, none⟩ = some (.slice (some ⟨gb, 0, none⟩) s.n s.n) := by rw [cell_of_row w g 0 _ _ _ h.row]; rfl
  have c1 : w.cell? ⟨g, 1, none⟩ = some (.bool s.off) := by rw [cell_of_row w g 1 _ _ _ h.row]; rfl
  have n1 := h.n1
  have n2 := h.n2
  obtain ⟨n, hn⟩ : ∃ n, s.n = n := ⟨_, rfl⟩
  obtain ⟨b, hb⟩ : ∃ b, s.off = b := ⟨_, rfl⟩
  unfold bmayE
  rw [hn] at c0 n1 n2 ⊢
  rw [hb] at c1 ⊢
  have e0 : ((n : Int) == 0) = false := by simp; omega
  clear h hn hb
  go_enter Try.func89, Try.ntmps89
  cases b with
  | true =>
    go_wp2
    go_ret
    exact ⟨rfl, rfl⟩
  | false =>
    by_cases h1 : i < 0
    · go_wp2
      go_ret
      exact ⟨rfl, rfl⟩
    · by_cases h2 : i < n
      · go_wp2
        go_ret
        exact ⟨rfl, rfl⟩
      · go_wp2
        go_ret
        exact ⟨rfl, rfl⟩

theorem bLen_any (g gb : Nat) (fo : Option Nat) (s : BSt) (B : Nat) (w : World) (h : StAt w B g gb fo s) :
    Calls Try.prog 27 #[.pointer (some ⟨g, 0, none⟩)] w fun e w' => e = .returned (.int .i64 (s.n : Int)) ∧ w' = w := by
  have c0 : w.cell? ⟨g, 0, none⟩ = some (.slice (some ⟨gb, 0, none⟩) s.n s.n) := by rw [cell_of_row w g 0 _ _ _ h.row]; rfl
  obtain ⟨n, hn⟩ : ∃ n, s.n = n := ⟨_, rfl⟩
  rw [hn] at c0 ⊢
  clear h hn
  go_enter Try.func27, Try.ntmps27
  go_wp2
  go_ret
  exact ⟨rfl, rfl⟩

theorem bOn_any (g gb : Nat) (fo : Option Nat) (s : BSt) (B : Nat) (w : World) (h : StAt w B g gb fo s) :
    Calls Try.prog 37 #[.pointer (some ⟨g, 0, none⟩)] w fun e w' => e = .returned (.bool (!s.off)) ∧ w' = w := by
  have c0 : w.cell? ⟨g, 0, none⟩ = some (.slice (some ⟨gb, 0, none⟩) s.n s.n) := by rw [cell_of_row w g 0 _ _ _ h.row]; rfl
  have c1 : w.cell? ⟨g, 1, none⟩ = some (.bool s.off) := by rw [cell_of_row w g 1 _ _ _ h.row]; rfl
  have n1 := h.n1
  obtain ⟨n, hn⟩ : ∃ n, s.n = n := ⟨_, rfl⟩
  obtain ⟨b, hb⟩ : ∃ b, s.off = b := ⟨_, rfl⟩
  rw [hn] at c0 n1
  rw [hb] at c1 ⊢
  have e0 : (0 : Int) < (n : Int) := by omega
  clear h hn hb
  go_enter Try.func37, Try.ntmps37
  go_wp2
  go_ret
  exact ⟨rfl, rfl⟩

theorem bWrites_any (g gb : Nat) (fo : Option Nat) (s : BSt) (B : Nat) (w : World) (h : StAt w B g gb fo s) :
    Calls Try.prog 38 #[.pointer (some ⟨g, 0, none⟩)] w fun e w' => e = .returned (.int .i64 s.cnt) ∧ w' = w := by
  have c0 : w.cell? ⟨g, 3, none⟩ = some (.int .i64 s.cnt) := by rw [cell_of_row w g 3 _ _ _ h.row]; rfl
  obtain ⟨n, hn⟩ : ∃ n, s.cnt = n := ⟨_, rfl⟩
  rw [hn] at c0 ⊢
  clear h hn
  go_enter Try.func38, Try.ntmps38
  go_wp2
  go_ret
  exact ⟨rfl, rfl⟩

/-! None at all -/
theorem bmay_nil (i : Int) (w : World) : Calls Try.prog 89 #[.pointer none, .int .i64 i] w fun e w' => e = .returned (.int .i64 1) ∧ w' = w := by
  go_enter Try.func89, Try.ntmps89
  go_wp2
  go_ret
  exact ⟨rfl, rfl⟩
theorem bLen_nil (w : World) : Calls Try.prog 27 #[.pointer none] w fun e w' => e = .returned (.int .i64 0) ∧ w' = w := by
  go_enter Try.func27, Try.ntmps27
  go_wp2
  go_ret
  exact ⟨rfl, rfl⟩
theorem bOn_nil (w : World) : Calls Try.prog 37 #[.pointer none] w fun e w' => e = .returned (.bool false) ∧ w' = w := by
  go_enter Try.func37, Try.ntmps37
  go_wp2
  go_ret
  exact ⟨rfl, rfl⟩
theorem bWrites_nil (w : World) : Calls Try.prog 38 #[.pointer none] w fun e w' => e = .returned (.int .i64 0) ∧ w' = w := by
  go_enter Try.func38, Try.ntmps38
  go_wp2
  go_ret
  exact ⟨rfl, rfl⟩
theorem bImage_nil (w : World) : Calls Try.prog 39 #[.pointer none] w fun e w' => e = .returned (.slice none 0 0) ∧ w' = w := by
  go_enter Try.func39, Try.ntmps39
  go_wp2
  go_ret
  exact ⟨rfl, rfl⟩
theorem bFuse_nil (a b : Int) (w : World) : Calls Try.prog 33 #[.pointer none, .int .i64 a, .int .i64 b] w fun e w' => e = .returned (.int .i64 1) ∧ w' = w := by
  go_enter Try.func33, Try.ntmps33
  go_wp2
  go_ret
  exact ⟨rfl, rfl⟩
theorem bRead_nil (i : Int) (w : World) : Calls Try.prog 28 #[.pointer none, .int .i64 i] w fun e w' => e = .returned (.tuple #[.slice none 0 0, .int .i64 1]) ∧ w' = w := by
  go_enter Try.func28, Try.ntmps28
  go_wp2_with fail
  refine (bmay_nil i w).mono ?_
  rintro e w2 ⟨rfl, rfl⟩
  go_wp2
  go_ret2
  exact ⟨rfl, rfl⟩
theorem bWrite_nil (i : Int) (v : Value) (w : World) : Calls Try.prog 31 #[.pointer none, .int .i64 i, v] w fun e w' => e = .returned (.int .i64 1) ∧ w' = w := by
  go_enter Try.func31, Try.ntmps31
  go_wp2_with fail
  refine (bmay_nil i w).mono ?_
  rintro e w2 ⟨rfl, rfl⟩
  go_wp2
  go_ret
  exact ⟨rfl, rfl⟩

end Go.Proofs.Ytbonapdainlpjaa
