/- The statement of layer 2 on checksums: the walk of the law CrcSums. -/
import Derived.Test.YtkgfcaoeldfbdaaCrc
namespace Go.Proofs.Ytkgfcaoeldfbdaa
open Go.RowKit

theorem csum_check : csum [49, 50, 51, 52, 53, 54, 55, 56, 57] = 3421780262 := by decide +kernel

set_option maxRecDepth 100000 in
theorem awake2 (w : World) : Calls Try.prog 24 #[] w fun e w' => e = .returned (.bool true) ∧ Below w.heap.size w w' := by
  have hs := Lib.hid csum_check
  go_enter Try.func24, Try.ntmps24
  go_wp2_with fail
  have hb := (ob_lit w 5 #[.int .u8 49, .int .u8 50, .int .u8 51, .int .u8 52, .int .u8 53, .int .u8 54, .int .u8 55, .int .u8 56, .int .u8 57] [49, 50, 51, 52, 53, 54, 55, 56, 57] 9 rfl (by simp [maxLen]) rfl).bs
  have hm := sum_any _ _ _ hb
  rw [hs.out] at hm
  refine hm.mono ?_
  rintro e w1 ⟨rfl, hb1⟩
  go_wp2
  go_ret
  exact ⟨rfl, ((Below.refl _ _).alloc (Nat.le_refl _) _).trans (hb1.mono (by simp))⟩

set_option maxRecDepth 100000 in
theorem crcSums_walk (vb : Value) (l : List UInt8) (n : Int) (w : World) (hb : Bs w vb l) (hn : 0 ≤ n ∧ n < 4294967296) :
    Calls Try.prog 7 #[vb, .int .u32 n] w fun e w' => e = .returned (.bool true) ∧ Below w.heap.size w w' := by
  obtain ⟨m, rfl⟩ := Int.eq_ofNat_of_zero_le hn.1
  have hm : m < 4294967296 := by omega
  obtain ⟨a, ca, adr, rfl, ha1, ha2, ha3, ha4, ha5⟩ := Bs.open_ elB hb
  clear ha3 ha4 ha5
  by_cases hl : l.length ≤ 5000
  · go_enter Try.func7, Try.ntmps7
    go_wp2_with fail
    refine (awake2 _).mono ?_
    rintro e w1 ⟨rfl, hb1⟩
    go_wp2_with fail
    refine (sum_any _ _ _ (hb.below hb1)).mono ?_
    rintro e w2 ⟨rfl, hb2⟩
    have hw2 := hb1.trans (hb2.mono hb1.size)
    go_wp2_with fail
    refine (rsum_any _ _ _ (hb.below hw2)).mono ?_
    rintro e w3 ⟨rfl, rfl⟩
    go_wp2_with fail
    refine (cbytes_any m hm _).mono ?_
    rintro e w3 ⟨v3, rfl, ho3, hb3⟩
    have hw3 := hw2.trans (hb3.mono hw2.size)
    go_wp2_with fail
    refine (rcbytes_any m hm _).mono ?_
    rintro e w4 ⟨v4, rfl, ho4, hb4⟩
    have hw4 := hw3.trans (hb4.mono hw3.size)
    go_wp2_with fail
    refine (same_any _ _ _ _ _ (ho3.bs.below hb4) ho4.bs).mono ?_
    rintro e w5 ⟨rfl, hb5⟩
    go_wp2
    go_ret
    exact ⟨ret_bool (by simp), hw4.trans (hb5.mono hw4.size)⟩
  · have hl' : (5000 : Int) < l.length := by omega
    go_enter Try.func7, Try.ntmps7
    go_wp2_with fail
    refine (awake2 _).mono ?_
    rintro e w1 ⟨rfl, hb1⟩
    go_wp2
    go_ret
    exact ⟨rfl, hb1⟩

end Go.Proofs.Ytkgfcaoeldfbdaa
