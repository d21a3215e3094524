/- Layer 19 (version): Find. -/
import Derived.Test.YtbonapdainlpjaaVe8
import Derived.Deep.CutBlock
set_option linter.unusedSimpArgs false
namespace Go.Proofs.Ytbonapdainlpjaa
open Go.RowKit Go.Sort

/-- none of the first ones has the version -/
def vnone (l : List NetX) (z : Int) (k : Nat) : Prop := ∀ (j : Nat) (x : NetX), j < k → l[j]? = some x → x.1.ver ≠ z
/-- what is found: the first one, or none -/
def FindPost (l : List NetX) (z : Int) (w : World) (e : Ending) (w' : World) : Prop :=
  ((∃ (k : Nat) (x : NetX), vnone l z k ∧ l[k]? = some x ∧ x.1.ver = z ∧ e = .returned (.tuple #[x.agg, .bool true])) ∨ (vnone l z l.length ∧ e = .returned (.tuple #[netZero.agg, .bool false]))) ∧ Below w.heap.size w w'

set_option maxRecDepth 100000 in
set_option maxHeartbeats 800000 in
theorem vFind_any (v : Value) (l : List NetX) (z : Int) (w : World) (h : Nets w v l) : Calls Try.prog 68 #[v, .func (Fn.func 67) #[] #[], .int .i64 z] w (FindPost l z w) := by
  unfold FindPost
  obtain ⟨n, hn⟩ : ∃ n, l.length = n := ⟨_, rfl⟩
  obtain ⟨a, c, b, o, rfl, h1, h2, hix, hlt', hcell, -⟩ := h.1.open_n layX elNet n hn
  have HC := Lib.hid hcell
  have HN := Lib.hid hn
  have HLT := Lib.hid hlt'
  obtain ⟨W, hW⟩ : ∃ V, w.alloc (.cells #[.int .i64 0, .slice none 0 0, .slice none 0 0] 95) = V := ⟨_, rfl⟩
  obtain ⟨r, hr⟩ : ∃ r, w.heap.size = r := ⟨_, rfl⟩
  have hrow : W.heap[r]? = some (.cells #[.int .i64 0, .slice none 0 0, .slice none 0 0] 95 (0, 0)) := by rw [← hW, ← hr]; exact heap_alloc_new _ _
  have hB : Below w.heap.size w W := by rw [← hW]; exact (Below.refl _ _).alloc (Nat.le_refl _) _
  have HW := Lib.hid hW
  have HR := Lib.hid hr
  have HROW := Lib.hid hrow
  have HB := Lib.hid hB
  clear h hn hcell hlt' hW hr hrow hB
  go_enter Try.func68, Try.ntmps68
  go_upto_region 1 with fail
  rw [HW.out, HR.out]
  go_wp2_with fail
  go_loopw [13, 9] (fun vi v9 wr => ∃ k : Nat, k ≤ n ∧ vi = .int .i64 k ∧ Hid (vnone l z k) ∧ Hid (Below W.heap.size W wr)) (fun vi _ _ => n - (intOf vi).toNat)
  case atStart => exact ⟨0, by omega, rfl, fun j x hj => absurd hj (by omega), Below.refl _ _⟩
  case round =>
    obtain ⟨k, hk, rfl, HP, HBr⟩ := hrel
    have hBw := HB.out.trans (HBr.out.mono HB.out.size)
    have HBw := Lib.hid hBw
    have hrr := (HBr.out.block r (heap_lt HROW.out)).trans HROW.out
    have HRR := Lib.hid hrr
    by_cases hlt : k < n
    · have e2 : (k : Int) < n := by omega
      obtain ⟨x, hs⟩ : ∃ s, l[k]? = some s := ⟨_, List.getElem?_eq_getElem (by have := HN.out; omega)⟩
      have c0 := HC.out k x hs 0 _ rfl
      have c1 := HC.out k x hs 1 _ rfl
      have c2 := HC.out k x hs 2 _ rfl
      rw [Nat.add_zero] at c0
      have hbl := HLT.out k hlt
      rw [← hBw.cell (by exact hbl)] at c0 c1 c2
      have hixk := fun W => hix W k hlt
      obtain ⟨nt, ⟨xa, xn, xc⟩, ⟨ya, yn, yc⟩⟩ := x
      obtain ⟨ver, st, ln⟩ := nt
      unfold Sl3.v at c1 c2
      simp only at c0 c1 c2
      obtain ⟨W2, hW2⟩ : ∃ V, wr.alloc (.cells #[.int .i64 ver, .slice xa xn xc, .slice ya yn yc] 95) = V := ⟨_, rfl⟩
      obtain ⟨q2, hq2⟩ : ∃ x, wr.heap.size = x := ⟨_, rfl⟩
      have hr2 : W2.heap[q2]? = some (.cells #[.int .i64 ver, .slice xa xn xc, .slice ya yn yc] 95 (0, 0)) := by rw [← hW2, ← hq2]; exact heap_alloc_new _ _
      have hb2 : Below wr.heap.size wr W2 := by rw [← hW2]; exact (Below.refl _ _).alloc (Nat.le_refl _) _
      have CF := Lib.hid (vOf1_any ⟨ver, st, ln⟩ (.slice xa xn xc) (.slice ya yn yc) W2)
      unfold Net.agg at CF
      simp only at CF
      have HBB2 := Lib.hid hb2
      obtain ⟨d0, d1, d2⟩ := net_cells hr2
      have HR2 := Lib.hid hr2
      have HS := Lib.hid hs
      have HW2 := Lib.hid hW2
      have HQ2 := Lib.hid hq2
      clear hs hbl hr2 hb2 hW2 hq2 hBw hrr
      go_upto_region 4 with fail
      rw [HW2.out, HQ2.out]
      clear c0 c1 c2
      go_wp2_with fail
      refine CF.out.mono ?_
      rintro e w3 ⟨rfl, hb3⟩
      have hb23 : Below wr.heap.size wr w3 := HBB2.out.trans (hb3.mono HBB2.out.size)
      have HB23 := Lib.hid hb23
      clear d0 d1 d2
      by_cases hv : ver = z
      · have hr3 := (hb23.block r (heap_lt HRR.out)).trans HRR.out
        have hq3 := (hb3.block q2 (heap_lt HR2.out)).trans HR2.out
        obtain ⟨s0, s1, s2⟩ := net_cells hr3
        obtain ⟨f0, f1, f2⟩ := net_frees hr3
        obtain ⟨t0, t1, t2⟩ := net_cells hq3
        obtain ⟨hz1, hz2⟩ := net_chain hr3 (.int .i64 ver) (.slice xa xn xc) (.slice ya yn yc)
        have hb03 := HBw.out.trans (hb23.mono HBw.out.size)
        have hZb : Below w.heap.size w (netChain w3 r (.int .i64 ver) (.slice xa xn xc) (.slice ya yn yc)) := hb03.trans (hz2.below (fun x hx => by have := HR.out; omega) hb03.size)
        have HZ1 := Lib.hid hz1
        have HZb := Lib.hid hZb
        have HVE := Lib.hid hv
        have e5 : (ver == z) = true := by simpa using hv
        clear hr3 hq3 hz1 hz2 hZb hb03 hb23 hb3 hv
        go_wp2
        obtain ⟨Z, hZ⟩ : ∃ Z, netChain w3 r (.int .i64 ver) (.slice xa xn xc) (.slice ya yn yc) = Z := ⟨_, rfl⟩
        rw [hZ] at HZ1 HZb
        unfold netChain at hZ
        rw [hZ]
        obtain ⟨g0, g1, g2⟩ := net_cells HZ1.out
        refine bodyPost_ret (v := .tuple #[.agg #[.int .i64 ver, .slice xa xn xc, .slice ya yn yc], .bool true]) ?_ rfl ⟨.inl ⟨k, _, HP.out, HS.out, HVE.out, rfl⟩, HZb.out⟩
        simp [results, Try.results68, go_sem, g0, g1, g2]
      · have e5 : (ver == z) = false := by simpa using hv
        have hf : Hid (vnone l z (k + 1)) := fun j x hj hx => by
          by_cases hjk : j < k
          · exact HP.out j x hjk hx
          · obtain rfl : j = k := by omega
            rw [HS.out] at hx
            cases hx
            exact hv
        have hf2 : Hid (Below W.heap.size W w3) := HBr.out.trans (hb23.mono HBr.out.size)
        clear hb3 hb23 hv
        go_wp2
        go_roundw
        case rel => exact ⟨k + 1, by omega, by go_num, hf, hf2⟩
        case measure => simp [intOf]; omega
    · obtain rfl : k = n := by omega
      have e2 : ¬ (k : Int) < k := by omega
      obtain ⟨W5, hW5⟩ : ∃ V, wr.alloc (.cells #[.int .i64 0, .slice none 0 0, .slice none 0 0] 95) = V := ⟨_, rfl⟩
      obtain ⟨q5, hq5⟩ : ∃ x, wr.heap.size = x := ⟨_, rfl⟩
      have hr5 : W5.heap[q5]? = some (.cells #[.int .i64 0, .slice none 0 0, .slice none 0 0] 95 (0, 0)) := by rw [← hW5, ← hq5]; exact heap_alloc_new _ _
      have hb5 : Below wr.heap.size wr W5 := by rw [← hW5]; exact (Below.refl _ _).alloc (Nat.le_refl _) _
      have hr6 := (hb5.block r (heap_lt HRR.out)).trans HRR.out
      obtain ⟨s0, s1, s2⟩ := net_cells hr6
      obtain ⟨f0, f1, f2⟩ := net_frees hr6
      obtain ⟨t0, t1, t2⟩ := net_cells hr5
      obtain ⟨hz1, hz2⟩ := net_chain hr6 (.int .i64 0) (.slice none 0 0) (.slice none 0 0)
      have hb05 := HBw.out.trans (hb5.mono HBw.out.size)
      have hZb : Below w.heap.size w (netChain W5 r (.int .i64 0) (.slice none 0 0) (.slice none 0 0)) := hb05.trans (hz2.below (fun x hx => by have := HR.out; omega) hb05.size)
      have HZ1 := Lib.hid hz1
      have HZb := Lib.hid hZb
      have HW5 := Lib.hid hW5
      have HQ5 := Lib.hid hq5
      have HV : Hid (vnone l z l.length) := by show vnone l z l.length; rw [HN.out]; exact HP.out
      clear hr5 hr6 hb5 hz1 hz2 hZb hb05 hW5 hq5 hBw hrr
      go_upto_region 8 with fail
      rw [HW5.out, HQ5.out]
      go_wp2
      obtain ⟨Z, hZ⟩ : ∃ Z, netChain W5 r (.int .i64 0) (.slice none 0 0) (.slice none 0 0) = Z := ⟨_, rfl⟩
      rw [hZ] at HZ1 HZb
      unfold netChain at hZ
      rw [hZ]
      obtain ⟨g0, g1, g2⟩ := net_cells HZ1.out
      refine bodyPost_ret (v := .tuple #[netZero.agg, .bool false]) ?_ rfl ⟨.inr ⟨HV.out, rfl⟩, HZb.out⟩
      simp [results, Try.results68, go_sem, g0, g1, g2, NetX.agg, Net.agg, netZero, Sl3.v]

end Go.Proofs.Ytbonapdainlpjaa
