/- Layer 36 (snap): the law's bank. -/
import Derived.Test.YtbonapdainlpjaaSp10
set_option linter.unusedSimpArgs false
namespace Go.Proofs.Ytbonapdainlpjaa
open Go.RowKit Go.Sort

theorem results_tmp4 {fn : Func} {t u v x : Tmp} (h : fn.results = #[.tmp t, .tmp u, .tmp v, .tmp x]) (tmps : Array Value) (P : Program) (w : World) :
    (results fn tmps).run P w = .ok (.tuple #[tmps.getD t undef, tmps.getD u undef, tmps.getD v undef, tmps.getD x undef]) w := by
  simp [results, h]

def BankPost (w : World) (R : List (List UInt8)) (e : Ending) (w' : World) : Prop :=
  ∃ v2 v3 ps, e = .returned (.tuple #[.int .u64 (sgen R : Nat), v2, v3, .bool (decide (sok R))]) ∧ Bs w' v2 (ssnap R) ∧ Rcs w' v3 ps ∧ rbs ps = srecs R ∧ Below w.heap.size w w'

set_option maxRecDepth 100000 in
set_option maxHeartbeats 1600000 in
theorem sBank_any (vb : Value) (l : List UInt8) (w : World) (hv : Bs w vb l) (hl : l.length ≤ 100000) : Calls Try.prog 57 #[vb] w (BankPost w (lrecs l).1) := by
  have CR := Lib.hid (rrecs_any vb l w hv (by omega))
  obtain ⟨a, c, rfl⟩ := hv.shape
  obtain ⟨R, hR⟩ : ∃ R, (lrecs l).1 = R := ⟨_, rfl⟩
  unfold RRecPost at CR
  rw [hR] at CR ⊢
  have HL := Lib.hid hl
  clear hR hv hl
  obtain ⟨q, hq⟩ : ∃ q, (lrecs l).2 = q := ⟨_, rfl⟩
  rw [hq] at CR
  clear hq
  go_enter Try.func57, Try.ntmps57
  go_wp2_with fail
  refine CR.out.mono ?_
  rintro e w1 ⟨v1, ps, rfl, ⟨hg1, he1⟩, hrb, hb1⟩
  have HB1 := Lib.hid hb1
  have HRB := Lib.hid hrb
  have HE := Lib.hid he1
  obtain ⟨n, hn⟩ : ∃ n, ps.length = n := ⟨_, rfl⟩
  obtain ⟨a1, c1, b, o, rfl, q1, q2, hix, hlt', hcell, -⟩ := hg1.open_n layP elOB n hn
  clear hb1 hrb CR he1
  cases ps with
  | nil =>
    obtain rfl : n = 0 := hn.symm
    have e0 : R = [] := HRB.out.symm
    subst e0
    clear hcell hix hlt'
    go_wp2
    refine bodyPost_ret (results_tmp4 rfl _ _ _) rfl ?_
    refine ⟨.slice none 0 0, .slice none 0 0, [], ?_, Rd.nil _ _, ⟨Gs.nil _, by simp⟩, ?_, HB1.out⟩
    · rw [show sgen [] = 0 from if_neg sok_nil, decide_eq_false sok_nil]
      rfl
    · unfold srecs; rw [if_neg sok_nil]; rfl
  | cons x L =>
    have e0 : R = x.2 :: rbs L := HRB.out.symm
    have m0 := hcell 0 x rfl 0 _ rfl
    rw [Nat.add_zero] at m0
    have ix0 : ∀ W, (Instr.indexAt 65 (.slice a1 n c1) (.int .i64 0)).run Try.prog W = .ok (.pointer (some ⟨b, o 0, none⟩)) W := fun W => hix W 0 (by rw [← hn]; simp)
    have hx := HE.out x (by simp)
    obtain ⟨⟨xa, xn, xc⟩, xl⟩ := x
    obtain rfl : xn = xl.length := by
      obtain ⟨_, a', c', he, _⟩ := hx
      simp only [Rc.v, Value.slice.injEq] at he
      exact he.2.1
    simp only [Rc.v] at m0 hx e0
    have hn0 : ((n : Int) == 0) = false := by rw [← hn]; simp; omega
    have hn1 : 0 < n := by rw [← hn]; simp
    obtain ⟨Z, hZ, hZg⟩ := Gs.from (P := Try.prog) layP elOB hg1 1 (by rw [hn]; omega)
    rw [show ((1 : Nat) : Int) = 1 from rfl] at hZ
    have HZ := Lib.hid hZg
    clear hcell hix hZg hg1
    obtain ⟨M, hM⟩ : ∃ M, xl.length = M := ⟨_, rfl⟩
    rw [hM] at m0 hx
    have HM := Lib.hid hM
    have E0 := Lib.hid e0
    by_cases h8 : M < 8
    · have e1 : ¬ sok R := by rw [e0]; rintro ⟨x, L, h, h2⟩; injection h with h1; subst h1; omega
      have e2 : (M : Int) < 8 := by omega
      have E1 := Lib.hid e1
      clear hM e0 hx e1
      go_wp2
      refine bodyPost_ret (results_tmp4 rfl _ _ _) rfl ?_
      refine ⟨.slice none 0 0, .slice none 0 0, [], ?_, ?_, ⟨Gs.nil _, by simp⟩, ?_, HB1.out⟩
      · rw [show sgen R = 0 from if_neg E1.out, decide_eq_false E1.out]
        rfl
      · unfold ssnap; rw [if_neg E1.out]; exact Rd.nil _ _
      · unfold srecs; rw [if_neg E1.out]; rfl
    · have e1 : sok R := by rw [e0]; exact ⟨_, _, rfl, by omega⟩
      have e2 : ¬ (M : Int) < 8 := by omega
      obtain ⟨Y, hY, hYb⟩ := Bs.from (P := Try.prog) elB hx 8 (by omega)
      rw [show ((8 : Nat) : Int) = 8 from rfl] at hY
      have HY := Lib.hid hYb
      obtain ⟨ta, tc, adr, he, t1, t2, t3, t4, t5⟩ := Bs.open_n elB hx M hM
      simp only [Value.slice.injEq] at he
      obtain ⟨rfl, -, rfl⟩ := he
      have HT4 := Lib.hid t4
      have HT5 := Lib.hid t5
      have SOK := Lib.hid e1
      clear hM e0 hx t4 t5 e1 hYb
      go_wp2_with fail
      go_loopw [8, 9] (fun vn vi wr => ∃ k : Nat, k ≤ 8 ∧ vi = .int .i64 k ∧ vn = .int .u64 (sbe (xl.take k) : Nat) ∧ wr = w1) (fun _ vi _ => 8 - (intOf vi).toNat)
      case atStart => exact ⟨0, by omega, rfl, rfl, rfl⟩
      case round =>
        obtain ⟨k, hk, rfl, rfl, rfl⟩ := hrel
        by_cases hlt : k < 8
        · have e3 : (k : Int) < 8 := by omega
          have ixk := fun W => t3 W (k : Int) (by omega) (by omega)
          rw [show (k : Int).toNat = k by omega] at ixk
          have hkl : k < xl.length := by have := HM.out; omega
          have ck := HT5.out k _ (List.getElem?_eq_getElem hkl)
          obtain ⟨c, hc⟩ : ∃ c, xl[k] = c := ⟨_, rfl⟩
          rw [hc] at ck
          have hc2 : sbe (xl.take (k + 1)) = sbe (xl.take k) * 256 + c.toNat := by rw [sbe_take xl k hkl, hc]
          have hb : sbe (xl.take k) < 72057594037927936 := by
            have h := sbe_lt (xl.take k)
            have h3 : 256 ^ (xl.take k).length ≤ 256 ^ 7 := Nat.pow_le_pow_right (by omega) (by simp; omega)
            have h4 : (256 : Nat) ^ 7 = 72057594037927936 := by decide
            omega
          obtain ⟨q0, hq⟩ : ∃ q, sbe (xl.take k) = q := ⟨_, rfl⟩
          rw [hq] at hb hc2
          have hcl := c.toNat_lt
          rw [hq]
          have HC2 := Lib.hid hc2
          clear hq hc2 hkl hc
          go_wp2_with fail
          go_roundw
          case rel => exact ⟨k + 1, by omega, by go_num, by rw [HC2.out]; go_num, by trivial⟩
          case measure => simp [intOf]; omega
        · obtain rfl : k = 8 := by omega
          have e3 : ¬ (8 : Int) < 8 := by omega
          go_wp2_with fail
          go_quiet (fail)
          have hbq : Below wr.heap.size wr (wr.drewN nq) := below_drewN (Below.refl _ _) nq
          have HBQ := Lib.hid hbq
          clear hbq
          go_wp2
          refine bodyPost_ret (results_tmp4 rfl _ _ _) rfl ?_
          refine ⟨Y, Z, L, ?_, ?_, ⟨HZ.out.below HBQ.out, fun p hp => (HE.out p (by simp [hp])).below HBQ.out⟩, ?_, HB1.out.trans (HBQ.out.mono HB1.out.size)⟩
          · rw [decide_eq_true SOK.out, show sgen R = sbe (xl.take 8) by rw [sgen, if_pos SOK.out, E0.out]; rfl]
            rfl
          · rw [show ssnap R = xl.drop 8 by rw [ssnap, if_pos SOK.out, E0.out]; rfl]
            exact HY.out.below HBQ.out
          · rw [srecs, if_pos SOK.out, E0.out]; rfl
end Go.Proofs.Ytbonapdainlpjaa
