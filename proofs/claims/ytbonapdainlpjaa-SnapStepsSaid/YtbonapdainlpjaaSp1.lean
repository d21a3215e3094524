/- Layer 36 (snap): a bank's count. -/
import Derived.Test.YtbonapdainlpjaaLg15
import Derived.Test.YtbonapdainlpjaaSp0
import Derived.Laws.Bits64b
set_option linter.unusedSimpArgs false
namespace Go.Proofs.Ytbonapdainlpjaa
open Go.RowKit Go.Sort

theorem be_or (n c : Nat) (hn : n < 72057594037927936) (hc : c < 256) : bits BinOp.or IntKind.u64 ((n : Int) * 256) (c : Int) = ((n * 256 + c : Nat) : Int) := by
  have h := bits_or_u64_nat (n * 256) c (by omega) (by omega)
  have h2 : n * 256 ||| c = n * 256 + c := by
    rw [show n * 256 = n <<< 8 by rw [Nat.shiftLeft_eq], Nat.shiftLeft_add_eq_or_of_lt (by omega)]
  rw [h2] at h
  rw [← h]
  congr 1

set_option maxRecDepth 100000 in
set_option maxHeartbeats 800000 in
theorem sCounts_any (w : World) (B lg bb bc g : Nat) (vr : Value) (ps : List Rc) (d : Lg) (h : LoAt w B lg bb bc g vr ps d) :
    Calls Try.prog 100 #[.agg #[.pointer (some ⟨lg, 0, none⟩)]] w fun e w' => e = .returned (.tuple #[.int .u64 (sgen d.recs : Nat), .bool (decide (sok d.recs))]) ∧ Below w.heap.size w w' := by
  have hal : Below w.heap.size w (w.alloc (.cells #[.pointer (some ⟨lg, 0, none⟩)] 136)) := (Below.refl _ _).alloc (Nat.le_refl _) _
  have C := Lib.hid (lRecords_any _ B lg bb bc g vr ps d (h.below hal))
  have HIS := Lib.hid h.is
  have HE := Lib.hid (fun (p : Rc) (hp : p ∈ ps) => (h.each p hp).1.bs)
  have HAL := Lib.hid hal
  have hc0 : (w.alloc (.cells #[.pointer (some ⟨lg, 0, none⟩)] 136)).cell? ⟨w.heap.size, 0, none⟩ = some (.pointer (some ⟨lg, 0, none⟩)) := cell_of_row _ _ _ _ _ _ (heap_alloc_new _ _)
  clear h hal
  go_enter Try.func100, Try.ntmps100
  go_upto_region 2 with (go_at_call 46; refine C.out.mono ?_; rintro e w1 ⟨v1, rfl, ho1, hb1⟩)
  have HB : Hid (Below w.heap.size w w1) := HAL.out.trans (hb1.mono HAL.out.size)
  obtain ⟨n, hn⟩ : ∃ n, ps.length = n := ⟨_, rfl⟩
  obtain ⟨a, c, b, o, rfl, q1, q2, hix, hlt', hcell, -⟩ := ho1.gs.open_n layP elOB n hn
  clear ho1 hb1 hc0 C
  cases ps with
  | nil =>
    obtain rfl : n = 0 := hn.symm
    have e0 : d.recs = [] := HIS.out.symm
    have e1 : ¬ sok d.recs := by rw [e0]; rintro ⟨x, L, h, _⟩; cases h
    go_wp2
    go_ret2
    refine ⟨?_, HB.out⟩
    rw [show sgen d.recs = 0 from if_neg e1, decide_eq_false e1]
    rfl
  | cons x L =>
    have e0 : d.recs = x.2 :: rbs L := HIS.out.symm
    have m0 := hcell 0 x rfl 0 _ rfl
    rw [Nat.add_zero] at m0
    have ix0 : ∀ W, (Instr.indexAt 65 (.slice a n c) (.int .i64 0)).run Try.prog W = .ok (.pointer (some ⟨b, o 0, none⟩)) W := fun W => hix W 0 (by rw [← hn]; simp)
    have hx := (HE.out x (by simp)).below HB.out
    obtain ⟨⟨xa, xn, xc⟩, xl⟩ := x
    obtain rfl : xn = xl.length := by
      obtain ⟨_, a', c', he, _⟩ := hx
      simp only [Rc.v, Value.slice.injEq] at he
      exact he.2.1
    simp only [Rc.v] at m0 hx e0
    have hn0 : ((n : Int) == 0) = false := by rw [← hn]; simp; omega
    have hn1 : 0 < n := by rw [← hn]; simp
    clear hcell hix
    obtain ⟨M, hM⟩ : ∃ M, xl.length = M := ⟨_, rfl⟩
    rw [hM] at m0 hx
    have HM := Lib.hid hM
    have E0 := Lib.hid e0
    by_cases h8 : M < 8
    · have e1 : ¬ sok d.recs := by rw [e0]; rintro ⟨x, L, h, h2⟩; injection h with h1; subst h1; omega
      have e2 : (M : Int) < 8 := by omega
      clear hM e0 hx
      go_wp2
      go_ret2
      refine ⟨?_, HB.out⟩
      rw [show sgen d.recs = 0 from if_neg e1, decide_eq_false e1]
      rfl
    · have e1 : sok d.recs := by rw [e0]; exact ⟨_, _, rfl, by omega⟩
      have e2 : ¬ (M : Int) < 8 := by omega
      have hsl := run_upto xa M xc 8 (by omega) (by rw [← hM]; exact (hx.len_eq).2.1 |> (by rw [hM]; exact ·))
      rw [show ((8 : Nat) : Int) = 8 from rfl] at hsl
      have hT := hx.take 8 (by omega)
      obtain ⟨ta, tc, adr, he, t1, t2, t3, t4, t5⟩ := Bs.open_n elB hT 8 (by simp; omega)
      simp only [Value.slice.injEq] at he
      obtain ⟨rfl, -, rfl⟩ := he
      have HT4 := Lib.hid t4
      have HT5 := Lib.hid t5
      have SOK := Lib.hid e1
      clear hM e0 hx hT t4 t5 e1
      go_wp2_with fail
      go_loopw [5, 26] (fun vn vi wr => ∃ k : Nat, k ≤ 8 ∧ vi = .int .i64 k ∧ vn = .int .u64 (sbe (xl.take k) : Nat) ∧ wr = w1) (fun _ vi _ => 8 - (intOf vi).toNat)
      case atStart => exact ⟨0, by omega, rfl, rfl, rfl⟩
      case round =>
        obtain ⟨k, hk, rfl, rfl, rfl⟩ := hrel
        by_cases hlt : k < 8
        · have e3 : (k : Int) < 8 := by omega
          have ixk := fun W => t3 W (k : Int) (by omega) (by omega)
          rw [show (k : Int).toNat = k by omega] at ixk
          have hkl : k < xl.length := by have := HM.out; omega
          have ck := HT5.out k _ (by rw [List.getElem?_take, if_pos hlt, List.getElem?_eq_getElem hkl])
          obtain ⟨c, hc⟩ : ∃ c, xl[k] = c := ⟨_, rfl⟩
          rw [hc] at ck
          have hc2 : sbe (xl.take (k + 1)) = sbe (xl.take k) * 256 + c.toNat := by rw [sbe_take xl k hkl, hc]
          have hb : sbe (xl.take k) < 72057594037927936 := by
            have h := sbe_lt (xl.take k)
            have h3 : 256 ^ (xl.take k).length ≤ 256 ^ 7 := Nat.pow_le_pow_right (by omega) (by simp; omega)
            have h4 : (256 : Nat) ^ 7 = 72057594037927936 := by decide
            omega
          obtain ⟨q, hq⟩ : ∃ q, sbe (xl.take k) = q := ⟨_, rfl⟩
          rw [hq] at hb hc2
          have hor := be_or q c.toNat hb c.toNat_lt
          have hcl := c.toNat_lt
          rw [hq]
          have HC2 := Lib.hid hc2
          clear hq hc2 hkl hc
          go_wp2_with fail
          have hor2 : bits BinOp.or IntKind.u64 ((q : Int) * 256 % 18446744073709551616) (c.toNat : Int) = ((q * 256 + c.toNat : Nat) : Int) := by rw [Int.emod_eq_of_lt (by omega) (by omega)]; exact hor
          go_roundw
          case rel => exact ⟨k + 1, by omega, by go_num, by rw [HC2.out]; rw [Int.natCast_add, Int.natCast_mul]; rfl, by trivial⟩
          case measure => simp [intOf]; omega
        · obtain rfl : k = 8 := by omega
          have e3 : ¬ (8 : Int) < 8 := by omega
          go_wp2_with fail
          go_ret2
          refine ⟨?_, HB.out⟩
          rw [decide_eq_true SOK.out, show sgen d.recs = sbe (xl.take 8) by rw [sgen, if_pos SOK.out, E0.out]; rfl]
          rfl
end Go.Proofs.Ytbonapdainlpjaa
