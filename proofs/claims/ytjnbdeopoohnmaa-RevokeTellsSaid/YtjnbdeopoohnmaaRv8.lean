/- Layer 12 (revoke), the document's side: Prune and Has. -/
import Derived.Test.YtjnbdeopoohnmaaRv7
import Derived.Deep.DeepCutAuto
import Derived.Deep.CutBlock
import Derived.Lib.QuietBelow
set_option linter.unusedSimpArgs false
namespace Go.Proofs.Ytjnbdeopoohnmaa
open Go.RowKit Go.Sort

set_option maxRecDepth 100000 in
theorem rrPrune_any (v : Value) (l : List RT) (z : Int) (w : World) (h : Gs 2 csR w v l) (hl : l.length ≤ 10000) : Calls Try.prog 16 #[v, .int .i64 z] w fun e w' => ∃ v', e = .returned v' ∧ Gs 2 csR w' v' (vsince l z) ∧ Below w.heap.size w w' := by
  obtain ⟨n, hn⟩ : ∃ n, l.length = n := ⟨_, rfl⟩
  obtain ⟨a, c, b, o, rfl, h1, h2, hix, hlt', hcell, -⟩ := h.open_n layR elR n hn
  have HC := Lib.hid hcell
  have HN := Lib.hid hn
  have HLT := Lib.hid hlt'
  have hn1 : n ≤ 10000 := by omega
  clear h hn hcell hlt' hl
  go_enter Try.func16, Try.ntmps16
  go_wp2_with fail
  go_loopw [6, 5] (fun vi v5 wr => ∃ (k : Nat) (O : List RT) (y5 : Value), y5 = v5 ∧ k ≤ n ∧ O.length ≤ k ∧ vi = .int .i64 k ∧ Hid (Gw 2 csR wr w.heap.size 29 y5 O) ∧ Hid (O = vsince (l.take k) z) ∧ Hid (Below w.heap.size w wr)) (fun vi _ _ => n - (intOf vi).toNat)
  case atStart => exact ⟨0, [], _, rfl, by omega, by simp, rfl, Gw.nil _ _ _, rfl, Below.refl _ _⟩
  case round =>
    obtain ⟨k, O, y5, rfl, hk, hOk, rfl, HO, HE, HB⟩ := hrel
    by_cases hlt : k < n
    · have e2 : (k : Int) < n := by omega
      obtain ⟨x, hs⟩ : ∃ s, l[k]? = some s := ⟨_, List.getElem?_eq_getElem (by have := HN.out; omega)⟩
      have c0 := HC.out k x hs 0 _ rfl
      have c1 := HC.out k x hs 1 _ rfl
      rw [Nat.add_zero] at c0
      rw [← HB.out.cell (by exact HLT.out k hlt)] at c0 c1
      have hixk := fun W => hix W k hlt
      have HVN := Lib.hid (vsince_next (z := z) hs)
      obtain ⟨xt, xu⟩ := x
      simp only at c0 c1 HVN
      have HLTK := Lib.hid hlt
      have hOl : O.length ≤ 10000 := by omega
      obtain ⟨pv, pcv, hsv⟩ := HO.out.gs.shape
      subst hsv
      clear hs
      by_cases hz : z ≤ xu
      · have hal : Below wr.heap.size wr (wr.alloc (.cells #[.int .i64 xt, .int .i64 xu] 29)) := (Below.refl _ _).alloc (Nat.le_refl _) _
        have hown := HO.out.below hal
        have hlit : Gs 2 csR (wr.alloc (.cells #[.int .i64 xt, .int .i64 xu] 29)) (.slice (some ⟨wr.heap.size, 0, none⟩) 1 1) [((xt, xu) : RT)] := (gw_lit layR wr 29 #[.int .i64 xt, .int .i64 xu] [(xt, xu)] 1 rfl (by decide) rfl).gs
        have HAL := Lib.hid hal
        clear hal
        go_wp2_with (at_builtin; go_must (refine wpList_append_gs layR hown hlit elR (by simp; omega) (by simp; omega) (by have := HB.out.size; have := HAL.out.size; omega) ?_ _ _ rfl rfl rfl rfl); intro v8 w8 h8 hg8 hb8 _; have H8 := Lib.hid h8; have HB8 := Lib.hid hb8; clear h8 hg8 hb8)
        have hf1 : Hid (O ++ [(xt, xu)] = vsince (l.take (k + 1)) z) := by show _ = _; rw [HVN.out, if_neg (by omega), HE.out]
        have hf2 := Lib.hid ((HB.out.trans (HAL.out.mono HB.out.size)).trans HB8.out)
        clear hown hlit
        go_wp2
        go_roundw
        case rel => exact ⟨k + 1, _, _, rfl, by have := HLTK.out; omega, by simp; omega, by go_num, H8, hf1, hf2⟩
        case measure => simp [intOf]; have := HLTK.out; omega
      · have hf1 : Hid (O = vsince (l.take (k + 1)) z) := by show _ = _; rw [HVN.out, if_pos (by omega), List.append_nil, HE.out]
        go_wp2
        go_roundw
        case rel => exact ⟨k + 1, _, _, rfl, by have := HLTK.out; omega, by omega, by go_num, HO, hf1, HB⟩
        case measure => simp [intOf]; have := HLTK.out; omega
    · obtain rfl : k = n := by omega
      have e2 : ¬ (k : Int) < k := by omega
      have hO := HO.out.gs
      rw [HE.out, List.take_of_length_le (by rw [HN.out]; exact Nat.le_refl _)] at hO
      have HF := Lib.hid hO
      clear hO
      go_wp2
      go_ret
      exact ⟨_, rfl, HF.out, HB.out⟩

theorem rfd_of {l : List RT} {k0 z u : Int} {k : Nat} (hs : rlt k0 l) (h : l[k]? = some (z, u)) : RFd l z k :=
  ⟨by have := (List.getElem?_eq_some_iff.1 h).1; omega, fun j x hj hx => rlt_get hs j k x _ hj hx h, fun j x hj hx => by
    rcases Nat.lt_or_eq_of_le hj with h1 | rfl
    · have := rlt_get hs k j _ x h1 h hx
      simp only at this; omega
    · rw [h] at hx; cases hx; exact Int.le_refl _⟩

set_option maxRecDepth 100000 in
theorem rrHas_any (v : Value) (l : List RT) (z t k0 : Int) (w : World) (h : Gs 2 csR w v l) (hl : l.length ≤ 10000) (hs : rlt k0 l) : Calls Try.prog 18 #[v, .int .i64 z, .int .i64 t] w fun e w' => e = .returned (.bool (rhas l z t)) ∧ Below w.heap.size w w' := by
  obtain ⟨n, hn⟩ : ∃ n, l.length = n := ⟨_, rfl⟩
  obtain ⟨a, c, b, o, rfl, h1, h2, hix, hlt', hcell, -⟩ := h.open_n layR elR n hn
  have HC := Lib.hid hcell
  have HN := Lib.hid hn
  have HLT := Lib.hid hlt'
  have hn1 : n ≤ 10000 := by omega
  have HAT := Lib.hid (fun (k : Nat) (u : Int) (hk : l[k]? = some (z, u)) => rhas_at (t := t) hs (rfd_of hs hk))
  obtain ⟨R, hR⟩ : ∃ R, rhas l z t = R := ⟨_, rfl⟩
  rw [hR] at HAT ⊢
  have HNO : Hid ((∀ (j : Nat) (y : RT), l[j]? = some y → y.1 ≠ z) → R = false) := fun hh => by
    rw [← hR]
    unfold rhas
    rw [List.any_eq_false]
    intro y hy
    obtain ⟨j, hj⟩ := List.getElem?_of_mem hy
    simp [hh j y hj]
  clear h hn hcell hlt' hl hs hR
  go_enter Try.func18, Try.ntmps18
  go_wp2_with fail
  go_loopw [7] (fun vi wr => ∃ k : Nat, k ≤ n ∧ vi = .int .i64 k ∧ Hid (∀ (j : Nat) (y : RT), j < k → l[j]? = some y → y.1 ≠ z) ∧ Hid (wr = w)) (fun vi _ => n - (intOf vi).toNat)
  case atStart => exact ⟨0, by omega, rfl, fun j y hj => absurd hj (by omega), rfl⟩
  case round =>
    obtain ⟨k, hk, rfl, HP, HWW⟩ := hrel
    by_cases hlt : k < n
    · have e2 : (k : Int) < n := by omega
      obtain ⟨x, hs⟩ : ∃ s, l[k]? = some s := ⟨_, List.getElem?_eq_getElem (by have := HN.out; omega)⟩
      have c0 := HC.out k x hs 0 _ rfl
      have c1 := HC.out k x hs 1 _ rfl
      rw [Nat.add_zero] at c0
      rw [← HWW.out] at c0 c1
      have hixk := fun W => hix W k hlt
      have HS := Lib.hid hs
      obtain ⟨xt, xu⟩ := x
      simp only at c0 c1
      have HLTK := Lib.hid hlt
      clear hs
      by_cases he : xt = z
      · have e3 : (xt == z) = true := by simpa using he
        have HF : Hid (R = decide (t ≤ xu)) := by
          have h := HS.out
          rw [he] at h
          have h2 := HAT.out k xu h
          rw [h] at h2
          show R = _
          rw [h2]
          simp
        clear he
        go_wp2
        go_ret
        exact ⟨by rw [HF.out]; rfl, by rw [HWW.out]; exact Below.refl _ _⟩
      · have e3 : (xt == z) = false := by simpa using he
        have hf : Hid (∀ (j : Nat) (y : RT), j < k + 1 → l[j]? = some y → y.1 ≠ z) := fun j y hj hy => by
          by_cases hjk : j < k
          · exact HP.out j y hjk hy
          · obtain rfl : j = k := by omega
            rw [HS.out] at hy
            cases hy
            exact he
        clear he
        go_wp2
        go_roundw
        case rel => exact ⟨k + 1, by have := HLTK.out; omega, by go_num, hf, HWW⟩
        case measure => simp [intOf]; have := HLTK.out; omega
    · obtain rfl : k = n := by omega
      have e2 : ¬ (k : Int) < k := by omega
      have HF : Hid (R = false) := HNO.out (fun j y hy => HP.out j y (by rw [← HN.out]; exact (List.getElem?_eq_some_iff.1 hy).1) hy)
      go_wp2
      go_ret
      exact ⟨by rw [HF.out]; rfl, by rw [HWW.out]; exact Below.refl _ _⟩

end Go.Proofs.Ytjnbdeopoohnmaa
