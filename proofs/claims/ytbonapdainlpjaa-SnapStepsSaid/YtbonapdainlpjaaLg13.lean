/- Layer 35 (log): Open refused; the law's store of bytes; the chapter's example. -/
import Derived.Test.YtbonapdainlpjaaLg12
set_option linter.unusedSimpArgs false
namespace Go.Proofs.Ytbonapdainlpjaa
open Go.RowKit Go.Sort

set_option maxRecDepth 100000 in
set_option maxHeartbeats 1600000 in
theorem lOpen_bad (w : World) (B g gb : Nat) (fo : Option Nat) (s : BSt) (fr n : Int) (hs : StAt w B g gb fo s) (hf1 : -9223372036854775808 ≤ fr) (hn1 : -9223372036854775808 ≤ n) (hf2 : fr ≤ 9223372036854775807) (hn2 : n ≤ 9223372036854775807) (h : n < 1 ∨ fr < 0 ∨ (s.n : Int) < n ∨ (s.n : Int) - n < fr) :
    Calls Try.prog 43 #[.pointer (some ⟨g, 0, none⟩), .int .i64 fr, .int .i64 n] w fun e w' => e = .returned (.tuple #[.pointer none, .int .i64 2]) ∧ w = w' := by
  have hm1 := hs.n1
  have hm2 := hs.n2
  obtain ⟨M, hM⟩ : ∃ M, s.n = M := ⟨_, rfl⟩
  have CL := Lib.hid (bLen_any g gb fo s B w hs)
  rw [hM] at CL hm1 hm2 h
  clear hM hs
  have e0 : ((M : Int) == 0) = false := by simp; omega
  by_cases h1 : n < 1
  · go_enter Try.func43, Try.ntmps43
    go_wp2_with (go_at_call 27; refine CL.out.mono ?_; rintro e w' ⟨rfl, rfl⟩)
    go_ret2
    exact ⟨rfl, rfl⟩
  · by_cases h2 : fr < 0
    · go_enter Try.func43, Try.ntmps43
      go_wp2_with (go_at_call 27; refine CL.out.mono ?_; rintro e w' ⟨rfl, rfl⟩)
      go_ret2
      exact ⟨rfl, rfl⟩
    · by_cases h3 : (M : Int) - n < fr
      · go_enter Try.func43, Try.ntmps43
        go_wp2_with (go_at_call 27; refine CL.out.mono ?_; rintro e w' ⟨rfl, rfl⟩)
        go_ret2
        exact ⟨rfl, rfl⟩
      · have h4 : (M : Int) < n := by omega
        go_enter Try.func43, Try.ntmps43
        go_wp2_with (go_at_call 27; refine CL.out.mono ?_; rintro e w' ⟨rfl, rfl⟩)
        go_ret2
        exact ⟨rfl, rfl⟩

/-! a store that has bytes -/
/-- the store's bytes up to a block -/
def bfill (l : List UInt8) (k : Nat) : Nat → UInt8 := fun j => if j < k * 64 then l[j]?.getD 0 else 0
theorem bfill_more (l : List UInt8) (k : Nat) (h : (k + 1) * 64 ≤ l.length) : bput (bfill l k) (k * 64) ((l.drop (k * 64)).take 64) = bfill l (k + 1) := by
  funext j
  unfold bput bfill
  rw [List.length_take, List.length_drop]
  by_cases h1 : j < k * 64
  · rw [if_neg (by omega), if_pos h1, if_pos (by omega)]
  · by_cases h2 : j < (k + 1) * 64
    · rw [if_pos (by omega), if_pos h2, List.getElem?_take, if_pos (by omega), List.getElem?_drop]
      congr 2; omega
    · rw [if_neg (by omega), if_neg h1, if_neg h2]

/-- what the law's store of bytes is -/
def StorePost (w : World) (l : List UInt8) (e : Ending) (w' : World) : Prop :=
  ∃ g gb, e = .returned (.pointer (some ⟨g, 0, none⟩)) ∧ Below w.heap.size w w' ∧ StAt w' w.heap.size g gb none ⟨l.length / 64, bfill l (l.length / 64), false, none, ((l.length / 64 : Nat) : Int)⟩

set_option maxRecDepth 100000 in
set_option maxHeartbeats 1600000 in
theorem lStore_any (v : Value) (l : List UInt8) (w : World) (hv : Bs w v l) (h1 : 64 ≤ l.length) (h2 : l.length ≤ 100000) : Calls Try.prog 42 #[v] w (StorePost w l) := by
  obtain ⟨L, hL⟩ : ∃ L, l.length = L := ⟨_, rfl⟩
  obtain ⟨n, hn⟩ : ∃ n, L / 64 = n := ⟨_, rfl⟩
  have hdiv : ((L : Int) / 64) = (n : Int) := by omega
  have hn1 : 1 ≤ n := by omega
  have hn2 : n ≤ 32768 := by omega
  have CN := Lib.hid (bNew_any n hn1 hn2 w)
  obtain ⟨a, c, hs⟩ := hv.shape
  rw [hL] at hs h1 h2
  subst hs
  have HL := Lib.hid hL
  have HV := Lib.hid hv
  have HN := Lib.hid hn
  clear hL hv hn
  go_enter Try.func42, Try.ntmps42
  go_wp2_with fail
  refine CN.out.mono ?_
  rintro e w1 ⟨rfl, hb1, hst1⟩
  have HB1 := Lib.hid hb1
  have CL := Lib.hid (bLen_any _ _ _ _ _ _ hst1)
  have START : Hid (StAt w1 w.heap.size (w.heap.size + 1) w.heap.size none ⟨n, bfill l 0, false, none, ((0 : Nat) : Int)⟩) := by
    have : bfill l 0 = fun _ => 0 := by funext j; unfold bfill; rw [if_neg (by omega)]
    rw [this]
    exact hst1
  obtain ⟨g, hg⟩ : ∃ g, w.heap.size + 1 = g := ⟨_, rfl⟩
  rw [hg] at START CL
  have HG := Lib.hid hg
  unfold bzero at CL
  simp only at CL
  clear hb1 hst1
  go_wp2_with (go_at_call 27; refine CL.out.mono ?_; rintro e w' ⟨rfl, rfl⟩)
  go_loopw [17] (fun vi wr => ∃ k : Nat, k ≤ n ∧ vi = .int .i64 k ∧ Hid (Below w.heap.size w wr ∧ StAt wr w.heap.size g w.heap.size none ⟨n, bfill l k, false, none, (k : Int)⟩)) (fun vi _ => n - (intOf vi).toNat)
  case atStart => exact ⟨0, by omega, rfl, HB1.out, START.out⟩
  case round =>
    obtain ⟨k, hk, rfl, HR⟩ := hrel
    clear START
    by_cases hlt : k < n
    · have e5 : (k : Int) < n := by omega
      obtain ⟨Y, hY, hYb⟩ := Bs.piece (P := Try.prog) elB HV.out (k * 64) ((k + 1) * 64) (by omega) (by rw [HL.out]; have := HN.out; omega)
      rw [show (k + 1) * 64 - k * 64 = 64 by omega] at hYb
      rw [show (((k * 64 : Nat)) : Int) = (k : Int) * 64 by omega, show ((((k + 1) * 64 : Nat)) : Int) = ((k : Int) + 1) * 64 by omega] at hY
      have hYr := hYb.below HR.out.1
      have hpl : ((l.drop (k * 64)).take 64).length = 64 := by rw [List.length_take, List.length_drop, HL.out]; have := HN.out; omega
      have hoff : SOff g w.heap.size none Y := by
        intro j hj hf
        have h3 := hYb.lt (by intro e; rw [e] at hpl; simp at hpl) j hj
        have h4 := HR.out.2.foot j hf
        omega
      have CW := bWrite_any g w.heap.size none _ (k : Int) Y _ w.heap.size wr HR.out.2 hYr hoff (by show (0 : Int) ≤ (k : Int); omega) (by show (k : Int) ≤ 4611686018427387904; omega)
      have hm : bmayE (⟨n, bfill l k, false, none, (k : Int)⟩ : BSt) (k : Int) = 0 := by
        unfold bmayE
        rw [if_neg (by simp), if_pos ⟨by omega, by show (k : Int) < (n : Int); omega⟩]
      have hE : bwrE (⟨n, bfill l k, false, none, (k : Int)⟩ : BSt) (k : Int) ((l.drop (k * 64)).take 64) = 0 := by
        unfold bwrE
        rw [hm, if_pos rfl, if_pos hpl]
      have hS : bwrS (⟨n, bfill l k, false, none, (k : Int)⟩ : BSt) (k : Int) ((l.drop (k * 64)).take 64) = ⟨n, bfill l (k + 1), false, none, ((k + 1 : Nat) : Int)⟩ := by
        unfold bwrS
        rw [hm, if_pos ⟨rfl, hpl⟩]
        simp only [Int.toNat_natCast]
        rw [bfill_more l k (by rw [HL.out]; have := HN.out; omega)]
        simp
      unfold WritePost at CW
      rw [hE, hS] at CW
      have CWH := Lib.hid CW
      have HLT := Lib.hid hlt
      clear CW hYb hYr hpl hoff hm hE hS hlt
      go_wp2_with fail
      refine CWH.out.mono ?_
      rintro e w3 ⟨rfl, fo', hst3, ho3, hf3⟩
      have hfo : fo' = none := by
        rcases hst3.fus with h | ⟨j, a, b, _, h, _⟩
        · exact h.1
        · cases h
      subst hfo
      have hf : Hid (Below w.heap.size w w3 ∧ StAt w3 w.heap.size g w.heap.size none ⟨n, bfill l (k + 1), false, none, ((k + 1 : Nat) : Int)⟩) :=
        ⟨HR.out.1.trans (ho3.below (fun j hj => (HR.out.2.foot j hj).1) HR.out.1.size), hst3⟩
      clear hst3 ho3 hf3
      go_wp2_with fail
      go_roundw
      case rel => exact ⟨k + 1, HLT.out, by go_num, hf⟩
      case measure => simp [intOf]; have := HLT.out; omega
    · obtain rfl : k = n := by omega
      have e5 : ¬ (k : Int) < k := by omega
      go_wp2
      go_ret
      refine ⟨g, w.heap.size, rfl, HR.out.1, ?_⟩
      rw [HL.out, HN.out]
      exact HR.out.2

end Go.Proofs.Ytbonapdainlpjaa
