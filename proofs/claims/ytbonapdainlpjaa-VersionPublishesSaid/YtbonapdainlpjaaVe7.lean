/- Layer 19 (version): what is told of all of a shelf (the versions). -/
import Derived.Test.YtbonapdainlpjaaVe6
import Derived.Deep.CutBlock
set_option linter.unusedSimpArgs false
namespace Go.Proofs.Ytbonapdainlpjaa
open Go.RowKit Go.Sort

def vers (l : List NetX) : List Int := l.map fun x => x.1.ver
theorem vers_next {l : List NetX} {k : Nat} {x : NetX} (h : l[k]? = some x) : vers (l.take (k + 1)) = vers (l.take k) ++ [x.1.ver] := by
  unfold vers
  rw [List.take_add_one, h, List.map_append]
  rfl

set_option maxRecDepth 100000 in
theorem vAll_any (v : Value) (l : List NetX) (w : World) (h : Nets w v l) (hl : l.length ≤ 1000) : Calls Try.prog 104 #[v, .func (Fn.func 105) #[] #[]] w fun e w' => ∃ v', e = .returned v' ∧ Gw 1 csN w' w.heap.size 3 v' (vers l) ∧ Below w.heap.size w w' := by
  obtain ⟨n, hn⟩ : ∃ n, l.length = n := ⟨_, rfl⟩
  obtain ⟨a, c, b, o, rfl, h1, h2, hix, hlt', hcell, -⟩ := h.1.open_n layX elNet n hn
  have HC := Lib.hid hcell
  have HN := Lib.hid hn
  have HLT := Lib.hid hlt'
  rw [hn] at hl
  have HL := Lib.hid hl
  clear h hn hcell hlt' hl
  go_enter Try.func104, Try.ntmps104
  go_wp2_with fail
  go_loopw [10, 5, 7] (fun vi v5 v7 wr => ∃ k : Nat, k ≤ n ∧ vi = .int .i64 k ∧ Hid (Gw 1 csN wr w.heap.size 3 v5 (vers (l.take k))) ∧ Hid (Below w.heap.size w wr)) (fun vi _ _ _ => n - (intOf vi).toNat)
  case atStart => exact ⟨0, by omega, rfl, Gw.nil _ _ _, Below.refl _ _⟩
  case round =>
    obtain ⟨k, hk, rfl, HO, HB⟩ := hrel
    by_cases hlt : k < n
    · have e2 : (k : Int) < n := by omega
      obtain ⟨x, hs⟩ : ∃ s, l[k]? = some s := ⟨_, List.getElem?_eq_getElem (by have := HN.out; omega)⟩
      have c0 := HC.out k x hs 0 _ rfl
      have c1 := HC.out k x hs 1 _ rfl
      have c2 := HC.out k x hs 2 _ rfl
      rw [Nat.add_zero] at c0
      have hbl := HLT.out k hlt
      rw [← HB.out.cell (by exact hbl)] at c0 c1 c2
      have hixk := fun W => hix W k hlt
      have hvn := vers_next hs
      obtain ⟨nt, ⟨xa, xn, xc⟩, ⟨ya, yn, yc⟩⟩ := x
      obtain ⟨ver, st, ln⟩ := nt
      unfold Sl3.v at c1 c2
      simp only at c0 c1 c2 hvn
      have HVN := Lib.hid hvn
      obtain ⟨W2, hW2⟩ : ∃ V, wr.alloc (.cells #[.int .i64 ver, .slice xa xn xc, .slice ya yn yc] 95) = V := ⟨_, rfl⟩
      obtain ⟨q2, hq2⟩ : ∃ x, wr.heap.size = x := ⟨_, rfl⟩
      have hr2 : W2.heap[q2]? = some (.cells #[.int .i64 ver, .slice xa xn xc, .slice ya yn yc] 95 (0, 0)) := by rw [← hW2, ← hq2]; exact heap_alloc_new _ _
      have hb2 : Below wr.heap.size wr W2 := by rw [← hW2]; exact (Below.refl _ _).alloc (Nat.le_refl _) _
      have CF := Lib.hid (vOf_any ⟨ver, st, ln⟩ (.slice xa xn xc) (.slice ya yn yc) W2)
      unfold Net.agg at CF
      simp only at CF
      have HB2 := Lib.hid (HB.out.trans (hb2.mono HB.out.size))
      have HBB2 := Lib.hid hb2
      have d0 : W2.cell? ⟨q2, 0, none⟩ = some (.int .i64 ver) := cell_of_row W2 _ _ _ _ _ hr2
      have d1 : W2.cell? ⟨q2, 1, none⟩ = some (.slice xa xn xc) := cell_of_row W2 _ _ _ _ _ hr2
      have d2 : W2.cell? ⟨q2, 2, none⟩ = some (.slice ya yn yc) := cell_of_row W2 _ _ _ _ _ hr2
      have HW2 := Lib.hid hW2
      have HQ2 := Lib.hid hq2
      have hlen : (vers (l.take k)).length ≤ 1000 := by unfold vers; rw [List.length_map, List.length_take]; have := HL.out; omega
      obtain ⟨L, hL⟩ : ∃ L, vers (l.take k) = L := ⟨_, rfl⟩
      rw [hL] at HO HVN hlen
      obtain ⟨pv, pcv, hsv⟩ := HO.out.gs.shape
      subst hsv
      clear hs hbl hr2 hb2 hW2 hq2 hvn hL
      go_upto_region 5 with fail
      rw [HW2.out, HQ2.out]
      clear c0 c1 c2
      go_wp2_with fail
      refine CF.out.mono ?_
      rintro e w3 ⟨rfl, hb3⟩
      have hal : Below w3.heap.size w3 (w3.alloc (.cells #[.int .i64 ver] 3)) := (Below.refl _ _).alloc (Nat.le_refl _) _
      have hb23 : Below wr.heap.size wr (w3.alloc (.cells #[.int .i64 ver] 3)) := HBB2.out.trans ((hb3.trans (hal.mono hb3.size)).mono HBB2.out.size)
      have HB3 := Lib.hid (HB.out.trans (hb23.mono HB.out.size))
      have hown := HO.out.below hb23
      have hlit : Gs 1 csN (w3.alloc (.cells #[.int .i64 ver] 3)) (.slice (some ⟨w3.heap.size, 0, none⟩) 1 1) [ver] := (gw_lit layN w3 3 #[.int .i64 ver] [ver] 1 rfl (by decide) rfl).gs
      have hbz : w.heap.size ≤ (w3.alloc (.cells #[.int .i64 ver] 3)).heap.size := HB3.out.size
      clear hb3 hal hb23 d0 d1 d2
      go_wp2_with (at_builtin; go_must (refine wpList_append_gs layN hown hlit elVI (by simp; omega) (by simp; omega) hbz ?_ _ _ rfl rfl rfl rfl); intro v8 w8 h8 hg8 hb8 _; have H8 := Lib.hid h8; have HB8 := Lib.hid hb8; clear h8 hg8 hb8)
      have hf1 : Hid (Gw 1 csN w8 w.heap.size 3 v8 (vers (l.take (k + 1)))) := by rw [HVN.out]; exact H8.out
      have hf2 : Hid (Below w.heap.size w w8) := HB3.out.trans HB8.out
      clear hown hlit hbz
      go_roundw
      case rel => exact ⟨k + 1, by omega, by go_num, hf1, hf2⟩
      case measure => simp [intOf]; omega
    · obtain rfl : k = n := by omega
      have e2 : ¬ (k : Int) < k := by omega
      have ho := HO.out
      rw [List.take_of_length_le (by have := HN.out; omega)] at ho
      have HOF := Lib.hid ho
      clear ho
      go_wp2
      go_ret
      exact ⟨_, rfl, HOF.out, HB.out⟩

end Go.Proofs.Ytbonapdainlpjaa
