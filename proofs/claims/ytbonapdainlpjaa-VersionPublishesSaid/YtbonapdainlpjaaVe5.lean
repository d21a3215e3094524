/- Layer 19 (version): Right, and the chapter's example. -/
import Derived.Test.YtbonapdainlpjaaVe4
set_option linter.unusedSimpArgs false
namespace Go.Proofs.Ytbonapdainlpjaa
open Go.RowKit Go.Sort

def csN (x : Int) : List Value := [.int .i64 x]
theorem layN : Lay 1 csN := ⟨fun _ => rfl, fun a u h => by simp only [csN, List.mem_singleton] at h; subst h; rfl, by decide⟩
theorem info_vi : (Try.prog.info? 3).map (fun i => (i.zero, i.size, i.bytes)) = some (some (.int .i64 0), 1, 8) := by kernel_rfl
theorem elVI : ElTy Try.prog 106 3 (.int .i64 0) 1 8 := ⟨Try.underlying106, info_parts info_vi, rfl, by decide⟩

def vinc (last : Int) : List Int → Bool
  | [] => true
  | v :: r => decide (last < v) && (decide (v ≤ 1048576) && vinc v r)
def vright (l : List Int) : Bool := decide (l.length ≤ 64) && vinc 0 l

theorem vinc_drop {l : List Int} {k : Nat} {x last : Int} (h : l[k]? = some x) : vinc last (l.drop k) = (decide (last < x) && (decide (x ≤ 1048576) && vinc x (l.drop (k + 1)))) := by
  obtain ⟨hk, hx⟩ := List.getElem?_eq_some_iff.1 h
  rw [List.drop_eq_getElem_cons hk, hx]
  rfl

set_option maxRecDepth 100000 in
theorem vRight_any (v : Value) (l : List Int) (w : World) (h : Gs 1 csN w v l) : Calls Try.prog 75 #[v] w fun e w' => e = .returned (.bool (vright l)) ∧ Below w.heap.size w w' := by
  obtain ⟨n, hn⟩ : ∃ n, l.length = n := ⟨_, rfl⟩
  obtain ⟨a, c, b, o, rfl, h1, h2, hix, hlt', hcell, -⟩ := h.open_n layN elVI n hn
  have HC := Lib.hid hcell
  have HN := Lib.hid hn
  have HLT := Lib.hid hlt'
  have HV : Hid (vright l = (decide (n ≤ 64) && vinc 0 l)) := by show _ = _; unfold vright; rw [hn]
  obtain ⟨R, hR⟩ : ∃ R, vright l = R := ⟨_, rfl⟩
  rw [hR] at HV ⊢
  clear h hn hcell hlt' hR
  go_enter Try.func75, Try.ntmps75
  by_cases hbig : 64 < n
  · have e1 : (64 : Int) < n := by omega
    have hf : R = false := by rw [HV.out]; simp; omega
    have HF := Lib.hid hf
    clear hf
    go_wp2
    go_ret
    exact ⟨by rw [HF.out]; rfl, Below.refl _ _⟩
  · have e1 : ¬ (64 : Int) < n := by omega
    have HV2 : Hid (R = vinc 0 l) := by show _ = _; rw [HV.out, decide_eq_true (by omega : n ≤ 64)]; rfl
    clear hbig
    go_wp2_with fail
    go_loopw [11, 3, 5] (fun vi v3 v5 wr => ∃ (k : Nat) (last : Int), k ≤ n ∧ vi = .int .i64 k ∧ v3 = .int .i64 last ∧ Hid (R = vinc last (l.drop k)) ∧ Hid (Below w.heap.size w wr)) (fun vi _ _ _ => n - (intOf vi).toNat)
    case atStart => exact ⟨0, 0, by omega, rfl, rfl, HV2, Below.refl _ _⟩
    case round =>
      obtain ⟨k, last, hk, rfl, rfl, HP, HB⟩ := hrel
      by_cases hlt : k < n
      · have e2 : (k : Int) < n := by omega
        obtain ⟨x, hs⟩ : ∃ s, l[k]? = some s := ⟨_, List.getElem?_eq_getElem (by have := HN.out; omega)⟩
        have c0 := HC.out k x hs 0 _ rfl
        rw [Nat.add_zero] at c0
        have hbl := HLT.out k hlt
        rw [← HB.out.cell (by exact hbl)] at c0
        have hixk := fun W => hix W k hlt
        have hd := vinc_drop (last := last) hs
        have HD := Lib.hid hd
        clear hs hd hbl
        by_cases h3 : x ≤ last
        · have hf : R = false := by rw [HP.out, HD.out]; simp; omega
          have HF := Lib.hid hf
          clear hf
          go_wp2
          go_ret
          exact ⟨by rw [HF.out]; rfl, HB.out⟩
        · by_cases h4 : 1048576 < x
          · have hf : R = false := by rw [HP.out, HD.out]; simp; omega
            have HF := Lib.hid hf
            clear hf
            go_wp2
            go_ret
            exact ⟨by rw [HF.out]; rfl, HB.out⟩
          · have hf : Hid (R = vinc x (l.drop (k + 1))) := by
              show _ = _
              rw [HP.out, HD.out, decide_eq_true (by omega : last < x), decide_eq_true (by omega : x ≤ 1048576)]
              rfl
            go_wp2
            go_roundw
            case rel => exact ⟨k + 1, x, by omega, by go_num, rfl, hf, HB⟩
            case measure => simp [intOf]; omega
      · obtain rfl : k = n := by omega
        have e2 : ¬ (k : Int) < k := by omega
        have hf : R = true := by
          rw [HP.out, List.drop_of_length_le (by have := HN.out; omega)]
          rfl
        have HF := Lib.hid hf
        clear hf
        go_wp2
        go_ret
        exact ⟨by rw [HF.out]; rfl, HB.out⟩

set_option maxRecDepth 100000 in
theorem vAwake_any (w : World) : Calls Try.prog 64 #[] w fun e w' => e = .returned (.bool true) ∧ Below w.heap.size w w' := by
  have hl : ∀ V : World, ∀ x y : Int, Gs 1 csN (V.alloc (.cells #[.int .i64 x, .int .i64 y] 3)) (.slice (some ⟨V.heap.size, 0, none⟩) 2 2) [x, y] := fun V x y => (gw_lit layN V 3 #[.int .i64 x, .int .i64 y] [x, y] 2 rfl (by decide) rfl).gs
  have C1 := Lib.hid (fun V => vRight_any _ _ _ (hl V 3 5))
  have C2 := Lib.hid (fun V => vRight_any _ _ _ (hl V 5 3))
  rw [show vright [3, 5] = true by decide] at C1
  rw [show vright [5, 3] = false by decide] at C2
  clear hl
  go_enter Try.func64, Try.ntmps64
  go_wp2_with fail
  refine (C1.out w).mono ?_
  rintro e w2 ⟨rfl, hb2⟩
  have HB2 := Lib.hid (((Below.refl w.heap.size w).alloc (Nat.le_refl _) (.cells #[.int .i64 3, .int .i64 5] 3)).trans (hb2.mono (by simp)))
  clear hb2
  go_wp2_with fail
  refine (C2.out w2).mono ?_
  rintro e w3 ⟨rfl, hb3⟩
  have HB3 := Lib.hid (HB2.out.trans ((((Below.refl w2.heap.size w2).alloc (Nat.le_refl _) (.cells #[.int .i64 5, .int .i64 3] 3)).trans (hb3.mono (by simp))).mono HB2.out.size))
  clear hb3
  go_wp2
  go_ret
  exact ⟨rfl, HB3.out⟩

end Go.Proofs.Ytbonapdainlpjaa
