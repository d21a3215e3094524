/- Layer 56 (roster), the document's side: with, Block. -/
import Derived.Test.YtjnbdeopoohnmaaRt7
import Derived.Deep.DeepCutAuto
import Derived.Deep.CutBlock
import Derived.Lib.QuietBelow
import Derived.Lib.SliceRun
set_option linter.unusedSimpArgs false
namespace Go.Proofs.Ytjnbdeopoohnmaa
open Go.RowKit Go.Sort

theorem AcX.eta (x : AcX) : csA x = [.int .i64 x.1.id, .int .i64 x.1.bl, Sl3.v x.2] := rfl
theorem lit_acct (w : World) (x : AcX) : Gs 3 csA (w.alloc (.cells #[.int .i64 x.1.id, .int .i64 x.1.bl, Sl3.v x.2] 43)) (.slice (some ⟨w.heap.size, 0, none⟩) 1 1) [x] := (gw_lit layA w 43 #[.int .i64 x.1.id, .int .i64 x.1.bl, Sl3.v x.2] [x] 1 rfl (by decide) rfl).gs
theorem take_next {α : Type} {l : List α} {k : Nat} {x : α} (h : l[k]? = some x) : l.take (k + 1) = l.take k ++ [x] := by rw [List.take_add_one, h]; rfl

set_option maxRecDepth 100000 in
set_option maxHeartbeats 1600000 in
theorem rrtWith_any (v : Value) (l : List AcX) (at_ : Nat) (x : AcX) (w : World) (h : Gs 3 csA w v l) (hl : l.length ≤ 100000) :
    Calls Try.prog 62 #[v, .int .i64 (at_ : Nat), x.agg] w fun e w' => ∃ v', e = .returned v' ∧ Gw 3 csA w' w.heap.size 43 v' (l.set at_ x) ∧ Below w.heap.size w w' := by
  obtain ⟨n, hn⟩ : ∃ n, l.length = n := ⟨_, rfl⟩
  obtain ⟨a, c, b, o, rfl, h1, h2, hix, hlt', hcell, -⟩ := h.open_n layA elA n hn
  have HC := Lib.hid hcell
  have HN := Lib.hid hn
  have HLT := Lib.hid hlt'
  obtain ⟨q, hq⟩ : ∃ q, w.heap.size = q := ⟨_, rfl⟩
  obtain ⟨W, hW⟩ : ∃ W, w.alloc (.cells #[.int .i64 x.1.id, .int .i64 x.1.bl, Sl3.v x.2] 43) = W := ⟨_, rfl⟩
  have hb0 : Below w.heap.size w W := by rw [← hW]; exact (Below.refl _ _).alloc (Nat.le_refl _) _
  have hr0 : W.heap[q]? = some (.cells #[.int .i64 x.1.id, .int .i64 x.1.bl, Sl3.v x.2] 43 (0, 0)) := by rw [← hW, ← hq]; exact heap_alloc_new _ _
  have HQX := Lib.hid (fun (V : World) (hV : Below W.heap.size W V) => acct_cells ((hV.block q (heap_lt hr0)).trans hr0))
  have HB := Lib.hid hb0
  have HL := Lib.hid hl
  have HLIT := Lib.hid (fun V => lit_acct V x)
  have hn63 : n ≤ 9223372036854775807 := by omega
  have HQ := Lib.hid hq
  obtain ⟨⟨xid, xbl, xsp⟩, ⟨xa, xn, xc⟩⟩ := x
  have HSET : Hid (∀ (k : Nat) (y : AcX), l[k]? = some y → (l.set at_ (⟨xid, xbl, xsp⟩, (xa, xn, xc)))[k]? = some (if k = at_ then (⟨xid, xbl, xsp⟩, (xa, xn, xc)) else y)) := fun k y hy => by
    rw [List.getElem?_set]
    by_cases hk : at_ = k
    · rw [if_pos hk, if_pos hk.symm, if_pos (by rw [hk]; exact (List.getElem?_eq_some_iff.1 hy).1)]
    · rw [if_neg hk, if_neg (fun e => hk e.symm), hy]
  have HSL : Hid ((l.set at_ (⟨xid, xbl, xsp⟩, (xa, xn, xc))).length = n) := by show _ = _; rw [List.length_set]; exact hn
  obtain ⟨M, hM⟩ : ∃ M, l.set at_ (⟨xid, xbl, xsp⟩, (xa, xn, xc)) = M := ⟨_, rfl⟩
  rw [hM] at HSET HSL ⊢
  unfold Sl3.v at *
  unfold AcX.agg at *
  unfold Sl3.v at *
  simp only at *
  clear h hn hcell hlt' hb0 hr0 hl hM
  go_enter Try.func62, Try.ntmps62
  go_wp2_with fail
  go_loopw [7, 8] (fun vo vi wr => ∃ k : Nat, k ≤ n ∧ vi = .int .i64 k ∧ Hid (Gw 3 csA wr W.heap.size 43 vo (M.take k)) ∧ Hid (Below W.heap.size W wr)) (fun _ vi _ => n - (intOf vi).toNat)
  case atStart => exact ⟨0, by omega, rfl, Gw.nil _ _ _, Below.refl _ _⟩
  case round =>
    obtain ⟨k, hk, rfl, HO, HBR⟩ := hrel
    by_cases hlt : k < n
    · have e2 : (k : Int) < n := by omega
      obtain ⟨y, hy⟩ : ∃ s, l[k]? = some s := ⟨_, List.getElem?_eq_getElem (by have := HN.out; omega)⟩
      have hMk := HSET.out k y hy
      have hbw : Below w.heap.size w wr := HB.out.trans (HBR.out.mono HB.out.size)
      have HBW := Lib.hid hbw
      have HTK : Hid (∀ z, M[k]? = some z → M.take (k + 1) = M.take k ++ [z]) := fun z hz => take_next hz
      have HTL : Hid ((M.take k).length = k) := by show _ = _; rw [List.length_take, HSL.out]; omega
      have HLTK := Lib.hid hlt
      have HK1 : Hid (k ≤ 100000) := by show _ ≤ _; have := HL.out; have := HN.out; omega
      obtain ⟨oa, oc, hos⟩ := HO.out.gs.shape
      rw [HTL.out] at hos
      subst hos
      by_cases he : k = at_
      · have e4 : ((k : Int) == (at_ : Int)) = true := by simp; omega
        rw [if_pos he] at hMk
        obtain ⟨z0, z1, z2⟩ := HQX.out wr HBR.out
        have hal : Below wr.heap.size wr (wr.alloc (.cells #[.int .i64 xid, .int .i64 xbl, .slice xa xn xc] 43)) := (Below.refl _ _).alloc (Nat.le_refl _) _
        have HO2 := Lib.hid (HO.out.below hal)
        have HAL := Lib.hid hal
        have hnx := HTK.out _ hMk
        have HNX := Lib.hid hnx
        have hsz : W.heap.size ≤ (wr.alloc (.cells #[.int .i64 xid, .int .i64 xbl, .slice xa xn xc] 43)).heap.size := Nat.le_trans HBR.out.size hal.size
        have HSZ := Lib.hid hsz
        clear hMk hy hal hbw hnx hsz he hlt
        go_wp2_with (at_builtin; go_must (refine wpList_append_gs layA HO2.out (HLIT.out wr) elA (by rw [HTL.out]; have := HK1.out; simp; omega) (by rw [HTL.out]; have := HK1.out; simp; omega) HSZ.out ?_ _ _ rfl rfl rfl rfl); intro v5 w5 ho5 hg5 hb5 _; have HO5 := Lib.hid ho5; have HG5 := Lib.hid hb5; clear ho5 hg5 hb5)
        have hf : Hid (Gw 3 csA w5 W.heap.size 43 v5 (M.take (k + 1))) := by rw [HNX.out]; exact HO5.out
        have hbb : Hid (Below W.heap.size W w5) := (HBR.out.trans (HAL.out.mono HBR.out.size)).trans HG5.out
        go_wp2
        go_roundw
        case rel => exact ⟨k + 1, by have := HLTK.out; omega, by go_num, hf, hbb⟩
        case measure => simp [intOf]; have := HLTK.out; omega
      · have e4 : ((k : Int) == (at_ : Int)) = false := by simp; omega
        rw [if_neg he] at hMk
        have m0 := HC.out k y hy 0 _ rfl
        have m1 := HC.out k y hy 1 _ rfl
        have m2 := HC.out k y hy 2 _ rfl
        rw [Nat.add_zero] at m0
        have hbl := HLT.out k hlt
        rw [← hbw.cell (by exact hbl)] at m0 m1 m2
        have hixk := fun W => hix W k hlt
        have HLY := Lib.hid (lit_acct wr y)
        obtain ⟨⟨yid, ybl, ysp⟩, ⟨ya, yn, yc⟩⟩ := y
        unfold Sl3.v at m2 HLY
        simp only at m0 m1 m2 HLY
        have hal : Below wr.heap.size wr (wr.alloc (.cells #[.int .i64 yid, .int .i64 ybl, .slice ya yn yc] 43)) := (Below.refl _ _).alloc (Nat.le_refl _) _
        have HO2 := Lib.hid (HO.out.below hal)
        have HAL := Lib.hid hal
        have hnx := HTK.out _ hMk
        have HNX := Lib.hid hnx
        have hsz : W.heap.size ≤ (wr.alloc (.cells #[.int .i64 yid, .int .i64 ybl, .slice ya yn yc] 43)).heap.size := Nat.le_trans HBR.out.size hal.size
        have HSZ := Lib.hid hsz
        clear hMk hy hal hbw hnx hsz he hlt hbl
        go_wp2_with (at_builtin; go_must (refine wpList_append_gs layA HO2.out HLY.out elA (by rw [HTL.out]; have := HK1.out; simp; omega) (by rw [HTL.out]; have := HK1.out; simp; omega) HSZ.out ?_ _ _ rfl rfl rfl rfl); intro v5 w5 ho5 hg5 hb5 _; have HO5 := Lib.hid ho5; have HG5 := Lib.hid hb5; clear ho5 hg5 hb5)
        have hf : Hid (Gw 3 csA w5 W.heap.size 43 v5 (M.take (k + 1))) := by rw [HNX.out]; exact HO5.out
        have hbb : Hid (Below W.heap.size W w5) := (HBR.out.trans (HAL.out.mono HBR.out.size)).trans HG5.out
        go_wp2
        go_roundw
        case rel => exact ⟨k + 1, by have := HLTK.out; omega, by go_num, hf, hbb⟩
        case measure => simp [intOf]; have := HLTK.out; omega
    · obtain rfl : k = n := by omega
      have e2 : ¬ (k : Int) < k := by omega
      have HT : Hid (M.take k = M) := List.take_of_length_le (by rw [HSL.out]; exact Nat.le_refl _)
      go_wp2
      go_ret
      exact ⟨_, rfl, by rw [← HQ.out, ← HT.out]; exact HO.out.mono HB.out.size, by rw [← HQ.out]; exact HB.out.trans (HBR.out.mono HB.out.size)⟩
end Go.Proofs.Ytjnbdeopoohnmaa
