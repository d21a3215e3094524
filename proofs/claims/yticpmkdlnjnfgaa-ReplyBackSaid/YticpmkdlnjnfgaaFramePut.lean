/- Walks of Put of layer 4 (frame), of its reference, and of the statement FramePuts. -/
import Derived.Test.YticpmkdlnjnfgaaCrc
import Derived.Test.YticpmkdlnjnfgaaVBspec
import Derived.Test.YticpmkdlnjnfgaaFoot
namespace Go.Proofs.Yticpmkdlnjnfgaa
open Go.RowKit

/-- a frame ahead of its checksum; a frame -/
def fhead (k : UInt8) (c : List UInt8) : List UInt8 := [199, k] ++ vput c.length ++ c
def fframe (k : UInt8) (c : List UInt8) : List UInt8 := fhead k c ++ cbytes (csum (fhead k c))

theorem csum_lt (l : List UInt8) : csum l < 4294967296 := cmore_lt 0 l
theorem cbytes_len (n : Nat) : (cbytes n).length = 4 := rfl

set_option maxRecDepth 100000 in
set_option maxHeartbeats 800000 in
theorem fput_any (k : UInt8) (K : Int) (hK : K = k.toNat) (y : Value) (c : List UInt8) (w : World) (hy : Bs w y c) (hc : c.length ≤ 1048576) :
    Calls Try.prog 80 #[.int .u8 K, y] w fun e w' => ∃ v, e = .returned (.tuple #[v, .int .i64 0]) ∧ Ob w' w.heap.size 5 v (fframe k c) ∧ Below w.heap.size w w' := by
  obtain ⟨a, ca, hs⟩ := hy.shape
  subst hs
  have hpn := vput_len10 c.length (by omega)
  have ho0 : Ob (w.alloc (.cells #[.int .u8 199, .int .u8 K] 5)) w.heap.size 5 (.slice (some ⟨w.heap.size, 0, none⟩) 2 2) [199, k] := ob_lit w 5 _ _ 2 rfl (by simp [maxLen]) (by simp [bv, hK])
  have hb0 : Below w.heap.size w (w.alloc (.cells #[.int .u8 199, .int .u8 K] 5)) := (Below.refl _ _).alloc (Nat.le_refl _) _
  clear hK
  go_enter Try.func80, Try.ntmps80
  go_wp2_with fail
  refine (put_int c.length (by omega) (by omega) _).mono ?_
  rintro e w1 ⟨v1, rfl, ho1, hb1⟩
  rw [show ((c.length : Int)).toNat = c.length by omega] at ho1
  have hA := ho0.below hb1
  have hw1 := hb0.trans (hb1.mono hb0.size)
  have hs1 := hw1.size
  go_wp2_with (first | (at_builtin; refine wpList_append_bytes hA ho1.bs elB (by simp; omega) (by simp; omega) hs1 ?_ _ _ rfl rfl rfl rfl; intro v2 w2 ho2 hg2 hb2 _; have hw2 := hw1.trans hb2; have hs2 := hw2.size; have hy2 := hy.below hw2) | (at_builtin; refine wpList_append_bytes ho2 hy2 elB (by simp; omega) (by simp; omega) hs2 ?_ _ _ rfl rfl rfl rfl; intro v3 w3 ho3 hg3 hb3 _; have hw3 := hw2.trans hb3; have hs3 := hw3.size; have HO3 := Lib.hid ho3; clear ho3 ho2 hA))
  have h3 : Ob w3 w.heap.size 5 v3 (fhead k c) := HO3.out
  clear HO3
  refine (sum_any _ _ _ h3.bs).mono ?_
  rintro e w4 ⟨rfl, hb4⟩
  go_wp2_with fail
  refine (cbytes_any _ (csum_lt _) _).mono ?_
  rintro e w5 ⟨v5, rfl, ho5, hb5⟩
  have h5 := (h3.below hb4).below hb5
  have hw5 := (hw3.trans (hb4.mono hs3)).trans (hb5.mono (by have := hb4.size; omega))
  have hs5 := hw5.size
  have hcl := cbytes_len (csum (fhead k c))
  have hfl : (fhead k c).length ≤ 1048590 := by simp [fhead]; omega
  have HCL : (cbytes (csum (fhead k c))).length ≤ 4 := by omega
  clear hcl
  go_wp2_with (at_builtin; go_must (refine wpList_append_bytes h5 ho5.bs elB (by omega) (by omega) hs5 ?_ _ _ rfl rfl rfl rfl); intro v6 w6 ho6 hg6 hb6 _; have HO6 := Lib.hid ho6; clear ho6)
  go_ret2
  exact ⟨_, rfl, HO6.out, hw5.trans hb6⟩

theorem fput_no (K : Int) (y : Value) (c : List UInt8) (w : World) (hy : Bs w y c) (hc : 1048576 < c.length) :
    Calls Try.prog 80 #[.int .u8 K, y] w fun e w' => e = .returned (.tuple #[.slice none 0 0, .int .i64 3]) ∧ Below w.heap.size w w' := by
  obtain ⟨a, ca, hs⟩ := hy.shape
  subst hs
  have hc' : (1048576 : Int) < c.length := by omega
  go_enter Try.func80, Try.ntmps80
  go_wp2
  go_ret2
  exact ⟨rfl, Below.refl _ _⟩

set_option maxRecDepth 100000 in
set_option maxHeartbeats 800000 in
theorem rfput_any (k : UInt8) (K : Int) (hK : K = k.toNat) (y : Value) (c : List UInt8) (w : World) (hy : Bs w y c) (hc : c.length ≤ 1048576) :
    Calls Try.prog 82 #[.int .u8 K, y] w fun e w' => ∃ v, e = .returned v ∧ Ob w' w.heap.size 5 v (fframe k c) ∧ Below w.heap.size w w' := by
  obtain ⟨a, ca, hs⟩ := hy.shape
  subst hs
  have hpn := vput_len10 c.length (by omega)
  have ho0 : Ob (w.alloc (.cells #[.int .u8 199, .int .u8 K] 5)) w.heap.size 5 (.slice (some ⟨w.heap.size, 0, none⟩) 2 2) [199, k] := ob_lit w 5 _ _ 2 rfl (by simp [maxLen]) (by simp [bv, hK])
  have hb0 : Below w.heap.size w (w.alloc (.cells #[.int .u8 199, .int .u8 K] 5)) := (Below.refl _ _).alloc (Nat.le_refl _) _
  clear hK
  go_enter Try.func82, Try.ntmps82
  go_wp2_with fail
  refine (rput_int c.length (by omega) (by omega) _).mono ?_
  rintro e w1 ⟨v1, rfl, ho1, hb1⟩
  rw [show ((c.length : Int)).toNat = c.length by omega] at ho1
  have hA := ho0.below hb1
  have hw1 := hb0.trans (hb1.mono hb0.size)
  have hs1 := hw1.size
  go_wp2_with (first | (at_builtin; refine wpList_append_bytes hA ho1.bs elB (by simp; omega) (by simp; omega) hs1 ?_ _ _ rfl rfl rfl rfl; intro v2 w2 ho2 hg2 hb2 _; have hw2 := hw1.trans hb2; have hs2 := hw2.size; have hy2 := hy.below hw2) | (at_builtin; refine wpList_append_bytes ho2 hy2 elB (by simp; omega) (by simp; omega) hs2 ?_ _ _ rfl rfl rfl rfl; intro v3 w3 ho3 hg3 hb3 _; have hw3 := hw2.trans hb3; have hs3 := hw3.size; have HO3 := Lib.hid ho3; clear ho3 ho2 hA))
  have h3 : Ob w3 w.heap.size 5 v3 (fhead k c) := HO3.out
  clear HO3
  refine (rsum_any _ _ _ h3.bs).mono ?_
  rintro e w4 ⟨rfl, rfl⟩
  go_wp2_with fail
  refine (rcbytes_any _ (csum_lt _) _).mono ?_
  rintro e w5 ⟨v5, rfl, ho5, hb5⟩
  have h5 := h3.below hb5
  have hw5 := hw3.trans (hb5.mono hs3)
  have hs5 := hw5.size
  have hcl := cbytes_len (csum (fhead k c))
  have hfl : (fhead k c).length ≤ 1048590 := by simp [fhead]; omega
  have HCL : (cbytes (csum (fhead k c))).length ≤ 4 := by omega
  clear hcl
  go_wp2_with (at_builtin; go_must (refine wpList_append_bytes h5 ho5.bs elB (by omega) (by omega) hs5 ?_ _ _ rfl rfl rfl rfl); intro v6 w6 ho6 hg6 hb6 _; have HO6 := Lib.hid ho6; clear ho6)
  go_ret
  exact ⟨_, rfl, HO6.out, hw5.trans hb6⟩

end Go.Proofs.Yticpmkdlnjnfgaa
