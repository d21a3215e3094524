/- Layer 19 (version), the document's side: Versions and Right. -/
import Derived.Test.YtbonapdainlpjaaVe15
import Derived.Deep.DeepCutAuto
import Derived.Deep.CutBlock
import Derived.Lib.QuietBelow
set_option linter.unusedSimpArgs false
namespace Go.Proofs.Ytbonapdainlpjaa
open Go.RowKit Go.Sort

set_option maxRecDepth 100000 in
theorem rvVers_any (v : Value) (l : List NetX) (w : World) (h : Nets w v l) (hl : l.length ≤ 1000) : Calls Try.prog 72 #[v] w fun e w' => ∃ v', e = .returned v' ∧ Gw 1 csN w' w.heap.size 3 v' (vers l) ∧ Below w.heap.size w w' := by
  obtain ⟨n, hn⟩ : ∃ n, l.length = n := ⟨_, rfl⟩
  obtain ⟨a, c, b, o, rfl, h1, h2, hix, hlt', hcell, -⟩ := h.1.open_n layX elNet n hn
  have HC := Lib.hid hcell
  have HN := Lib.hid hn
  have HLT := Lib.hid hlt'
  rw [hn] at hl
  have HL := Lib.hid hl
  clear h hn hcell hlt' hl
  go_enter Try.func72, Try.ntmps72
  go_wp2_with fail
  go_loopw [4, 3] (fun vi v3 wr => ∃ k : Nat, k ≤ n ∧ vi = .int .i64 k ∧ Hid (Gw 1 csN wr w.heap.size 3 v3 (vers (l.take k))) ∧ Hid (Below w.heap.size w wr)) (fun vi _ _ => n - (intOf vi).toNat)
  case atStart => exact ⟨0, by omega, rfl, Gw.nil _ _ _, Below.refl _ _⟩
  case round =>
    obtain ⟨k, hk, rfl, HO, HB⟩ := hrel
    by_cases hlt : k < n
    · have e2 : (k : Int) < n := by omega
      obtain ⟨x, hs⟩ : ∃ s, l[k]? = some s := ⟨_, List.getElem?_eq_getElem (by have := HN.out; omega)⟩
      have c0 := HC.out k x hs 0 _ rfl
      rw [Nat.add_zero] at c0
      have hbl := HLT.out k hlt
      rw [← HB.out.cell (by exact hbl)] at c0
      have hixk := fun W => hix W k hlt
      have hvn := vers_next hs
      obtain ⟨ver, hver⟩ : ∃ z, x.1.ver = z := ⟨_, rfl⟩
      rw [hver] at c0 hvn
      have HVN := Lib.hid hvn
      have hlen : (vers (l.take k)).length ≤ 1000 := by unfold vers; rw [List.length_map, List.length_take]; have := HL.out; omega
      obtain ⟨L, hL⟩ : ∃ L, vers (l.take k) = L := ⟨_, rfl⟩
      rw [hL] at HO HVN hlen
      obtain ⟨pv, pcv, hsv⟩ := HO.out.gs.shape
      subst hsv
      have hal : Below wr.heap.size wr (wr.alloc (.cells #[.int .i64 ver] 3)) := (Below.refl _ _).alloc (Nat.le_refl _) _
      have hown := HO.out.below hal
      have hlit : Gs 1 csN (wr.alloc (.cells #[.int .i64 ver] 3)) (.slice (some ⟨wr.heap.size, 0, none⟩) 1 1) [ver] := (gw_lit layN wr 3 #[.int .i64 ver] [ver] 1 rfl (by decide) rfl).gs
      have HB3 := Lib.hid (HB.out.trans (hal.mono HB.out.size))
      have hbz : w.heap.size ≤ (wr.alloc (.cells #[.int .i64 ver] 3)).heap.size := HB3.out.size
      clear hs hbl hvn hL hal hver
      go_wp2_with (at_builtin; go_must (refine wpList_append_gs layN hown hlit elVI (by simp; omega) (by simp; omega) hbz ?_ _ _ rfl rfl rfl rfl); intro v8 w8 h8 hg8 hb8 _; have H8 := Lib.hid h8; have HB8 := Lib.hid hb8; clear h8 hg8 hb8)
      have hf1 : Hid (Gw 1 csN w8 w.heap.size 3 v8 (vers (l.take (k + 1)))) := by rw [HVN.out]; exact H8.out
      have hf2 : Hid (Below w.heap.size w w8) := HB3.out.trans HB8.out
      clear hown hlit hbz
      go_roundw
      case rel => exact ⟨k + 1, by omega, by go_num, hf1, hf2⟩
      case measure => simp [intOf]; omega
    · obtain rfl : k = n := by omega
      have e2 : ¬ (k : Int) < k := by omega
      have ho := HO.out
      rw [List.take_of_length_le (by have := HN.out; omega)] at ho
      have HOF := Lib.hid ho
      clear ho
      go_wp2
      go_ret
      exact ⟨_, rfl, HOF.out, HB.out⟩

def vlast (last : Int) (l : List Int) : Nat → Int
  | 0 => last
  | j + 1 => l[j]?.getD 0
/-- right up to here, as the document says it -/
theorem vinc_take (last : Int) (l : List Int) (k : Nat) (x : Int) (h : l[k]? = some x) : vinc last (l.take (k + 1)) = (vinc last (l.take k) && (decide (x ≤ 1048576) && decide (vlast last l k < x))) := by
  induction l generalizing last k with
  | nil => simp at h
  | cons a r ih =>
    cases k with
    | zero =>
      simp at h
      subst h
      rw [Bool.eq_iff_iff]
      simp [vinc, vlast, and_comm]
      exact fun _ => decide_eq_true_iff.symm
    | succ k =>
      have := ih a k (by simpa using h)
      rw [List.take_succ_cons, List.take_succ_cons]
      simp only [vinc]
      rw [this]
      cases k with
      | zero => rw [Bool.eq_iff_iff]; simp [and_assoc, vlast]; exact fun _ _ _ _ => decide_eq_true_iff
      | succ j => rw [Bool.eq_iff_iff]; simp [and_assoc, vlast]; intros; exact decide_eq_decide.2 Iff.rfl
theorem vlast_pos {l : List Int} {k : Nat} (h : vinc 0 (l.take k) = true) (hk : k ≤ l.length) : 0 ≤ vlast 0 l k ∧ (0 < k → l[k - 1]? = some (vlast 0 l k)) := by
  cases k with
  | zero => exact ⟨by simp [vlast], fun h => by omega⟩
  | succ j =>
    obtain ⟨y, hy⟩ : ∃ y, l[j]? = some y := ⟨_, List.getElem?_eq_getElem (by omega)⟩
    have := vinc_take 0 l j y hy
    rw [h] at this
    have hp := (vinc_get h).1 j y (by rw [List.getElem?_take]; simp [hy])
    simp only [vlast, hy, Option.getD_some, Nat.add_sub_cancel]
    exact ⟨by omega, fun _ => trivial⟩
theorem vinc_cut {last : Int} {l : List Int} {k : Nat} (h : vinc last (l.take k) = false) : vinc last l = false := by
  induction l generalizing last k with
  | nil => simp [vinc] at h
  | cons a r ih =>
    cases k with
    | zero => simp [vinc] at h
    | succ k =>
      rw [List.take_succ_cons] at h
      simp only [vinc] at h ⊢
      cases h1 : decide (last < a) <;> cases h2 : decide (a ≤ 1048576) <;> simp [h1, h2] at h ⊢
      exact ih h

set_option maxRecDepth 100000 in
theorem rvRight_any (v : Value) (l : List Int) (w : World) (h : Gs 1 csN w v l) (hl : l.length ≤ 1000) : Calls Try.prog 73 #[v] w fun e w' => e = .returned (.bool (vright l)) ∧ Below w.heap.size w w' := by
  obtain ⟨n, hn⟩ : ∃ n, l.length = n := ⟨_, rfl⟩
  obtain ⟨a, c, b, o, rfl, h1, h2, hix, hlt', hcell, -⟩ := h.open_n layN elVI n hn
  have HC := Lib.hid hcell
  have HN := Lib.hid hn
  have HLT := Lib.hid hlt'
  rw [hn] at hl
  have HL := Lib.hid hl
  have HV : Hid (vright l = (decide (n ≤ 64) && vinc 0 l)) := by show _ = _; unfold vright; rw [hn]
  obtain ⟨R, hR⟩ : ∃ R, vright l = R := ⟨_, rfl⟩
  rw [hR] at HV ⊢
  clear h hn hcell hlt' hR hl
  go_enter Try.func73, Try.ntmps73
  go_wp2_with fail
  go_loopw [3] (fun vi wr => ∃ k : Nat, k ≤ n ∧ vi = .int .i64 k ∧ Hid (vinc 0 (l.take k) = true) ∧ Hid (Below w.heap.size w wr)) (fun vi _ => n - (intOf vi).toNat)
  case atStart => exact ⟨0, by omega, rfl, rfl, Below.refl _ _⟩
  case round =>
    obtain ⟨k, hk, rfl, HP, HB⟩ := hrel
    by_cases hlt : k < n
    · have e2 : (k : Int) < n := by omega
      obtain ⟨x, hs⟩ : ∃ s, l[k]? = some s := ⟨_, List.getElem?_eq_getElem (by have := HN.out; omega)⟩
      have c0 := HC.out k x hs 0 _ rfl
      rw [Nat.add_zero] at c0
      have hbl := HLT.out k hlt
      rw [← HB.out.cell (by exact hbl)] at c0
      have hixk := fun W => hix W k hlt
      have hd := vinc_take 0 l k x hs
      rw [HP.out, Bool.true_and] at hd
      have HD := Lib.hid hd
      obtain ⟨hla0, hla1⟩ := vlast_pos HP.out (by rw [HN.out]; omega)
      obtain ⟨la, hla⟩ : ∃ z, vlast 0 l k = z := ⟨_, rfl⟩
      have HK0 : Hid (k = 0 → la = 0) := fun h => by rw [← hla, h]; rfl
      rw [hla] at hla0 hla1 HD
      have hno : (x ≤ 1048576 ∧ la < x → False) → R = false := fun h => by
        rw [HV.out, vinc_cut (k := k + 1)]
        · simp
        · rw [HD.out]
          cases h1 : decide (x ≤ 1048576) <;> cases h2 : decide (la < x) <;> simp at h1 h2 ⊢
          exact absurd ⟨h1, h2⟩ h
      have HNO := Lib.hid hno
      have r0 := fun d os => cell_regrown c0 d os
      have HLTK := Lib.hid hlt
      clear hs hd hbl hno hla
      go_upto_region 4 with fail
      clear c0
      by_cases h3 : x < 1
      · have hf : R = false := HNO.out (fun h => by omega)
        have HF := Lib.hid hf
        clear hf hla0 hla1
        refine wp_region_quiet_below (by kernel_rfl) (by kernel_rfl) ?_
        repeat (go_big_quiet_step ((fail)))
        refine wpQuiet_nil ?_
        intro _ hw'
        obtain ⟨⟨dq, osq⟩, hw''⟩ := hw'
        subst hw''
        have HB2 := below_regrown wr dq osq
        obtain ⟨W2, hwq⟩ : ∃ x, x = grow (redrawn wr dq) osq := ⟨_, rfl⟩
        rw [← hwq] at HB2 ⊢
        clear hwq
        have hfin := HB.out.trans (HB2.mono HB.out.size)
        have HFIN := Lib.hid hfin
        clear HB2 hfin
        go_wp2
        go_ret
        exact ⟨by rw [HF.out]; rfl, HFIN.out⟩
      · by_cases h4 : 1048576 < x
        · have hf : R = false := HNO.out (fun h => by omega)
          have HF := Lib.hid hf
          clear hf hla0 hla1
          refine wp_region_quiet_below (by kernel_rfl) (by kernel_rfl) ?_
          repeat (go_big_quiet_step ((fail)))
          refine wpQuiet_nil ?_
          intro _ hw'
          obtain ⟨⟨dq, osq⟩, hw''⟩ := hw'
          subst hw''
          have HB2 := below_regrown wr dq osq
          obtain ⟨W2, hwq⟩ : ∃ x, x = grow (redrawn wr dq) osq := ⟨_, rfl⟩
          rw [← hwq] at HB2 ⊢
          clear hwq
          have hfin := HB.out.trans (HB2.mono HB.out.size)
          have HFIN := Lib.hid hfin
          clear HB2 hfin
          go_wp2
          go_ret
          exact ⟨by rw [HF.out]; rfl, HFIN.out⟩
        · by_cases hk0 : 0 < k
          · have m0 := HC.out (k - 1) la (hla1 hk0) 0 _ rfl
            rw [Nat.add_zero, ← HB.out.cell (by exact HLT.out (k - 1) (by omega))] at m0
            have r1 := fun d os => cell_regrown m0 d os
            have hixp : ∀ V : World, (Instr.indexAt 106 (.slice a n c) (.int .i64 ((k : Int) - 1))).run Try.prog V = .ok (.pointer (some ⟨b, o (k - 1), none⟩)) V := fun V => by
              have := hix V (k - 1) (by omega)
              rwa [show (((k - 1 : Nat)) : Int) = (k : Int) - 1 by omega] at this
            have hsub : IntKind.i64.wrap ((k : Int) - 1) = (k : Int) - 1 := by rw [IntKind.wrap_i64]; have := HL.out; omega
            clear m0 hla0 hla1
            by_cases hle : x ≤ la
            · have hf : R = false := HNO.out (fun h => by omega)
              have HF := Lib.hid hf
              clear hf
              refine wp_region_quiet_below (by kernel_rfl) (by kernel_rfl) ?_
              repeat (go_big_quiet_step ((fail)))
              refine wpQuiet_nil ?_
              intro _ hw'
              obtain ⟨⟨dq, osq⟩, hw''⟩ := hw'
              subst hw''
              have HB2 := below_regrown wr dq osq
              obtain ⟨W2, hwq⟩ : ∃ x, x = grow (redrawn wr dq) osq := ⟨_, rfl⟩
              rw [← hwq] at HB2 ⊢
              clear hwq
              have hfin := HB.out.trans (HB2.mono HB.out.size)
              have HFIN := Lib.hid hfin
              clear HB2 hfin
              go_wp2
              go_ret
              exact ⟨by rw [HF.out]; rfl, HFIN.out⟩
            · have hf : Hid (vinc 0 (l.take (k + 1)) = true) := by show _ = _; rw [HD.out, decide_eq_true (by omega : x ≤ 1048576), decide_eq_true (by omega : la < x)]; rfl
              refine wp_region_quiet_below (by kernel_rfl) (by kernel_rfl) ?_
              repeat (go_big_quiet_step ((fail)))
              refine wpQuiet_nil ?_
              intro _ hw'
              obtain ⟨⟨dq, osq⟩, hw''⟩ := hw'
              subst hw''
              have HB2 := below_regrown wr dq osq
              obtain ⟨W2, hwq⟩ : ∃ x, x = grow (redrawn wr dq) osq := ⟨_, rfl⟩
              rw [← hwq] at HB2 ⊢
              clear hwq
              have HFIN := Lib.hid (HB.out.trans (HB2.mono HB.out.size))
              clear HB2
              go_wp2
              go_roundw
              case rel => exact ⟨k + 1, by have := HLTK.out; omega, by go_num, hf, HFIN⟩
              case measure => simp [intOf]; have := HLTK.out; omega
          · have hla : la = 0 := HK0.out (by omega)
            have hf : Hid (vinc 0 (l.take (k + 1)) = true) := by show _ = _; rw [HD.out, decide_eq_true (by omega : x ≤ 1048576), decide_eq_true (by omega : la < x)]; rfl
            have e1 : decide (0 < k) = false := by simpa using hk0
            clear hk0 hla hla0 hla1
            refine wp_region_quiet_below (by kernel_rfl) (by kernel_rfl) ?_
            repeat (go_big_quiet_step ((fail)))
            refine wpQuiet_nil ?_
            intro _ hw'
            obtain ⟨⟨dq, osq⟩, hw''⟩ := hw'
            subst hw''
            have HB2 := below_regrown wr dq osq
            obtain ⟨W2, hwq⟩ : ∃ x, x = grow (redrawn wr dq) osq := ⟨_, rfl⟩
            rw [← hwq] at HB2 ⊢
            clear hwq
            have HFIN := Lib.hid (HB.out.trans (HB2.mono HB.out.size))
            clear HB2
            go_wp2
            go_roundw
            case rel => exact ⟨k + 1, by have := HLTK.out; omega, by go_num, hf, HFIN⟩
            case measure => simp [intOf]; have := HLTK.out; omega
    · obtain rfl : k = n := by omega
      have e2 : ¬ (k : Int) < k := by omega
      by_cases h64 : k ≤ 64
      · have e3 : (k : Int) ≤ 64 := by omega
        have hf : R = true := by
          rw [HV.out, decide_eq_true h64]
          have := HP.out
          rw [List.take_of_length_le (by have := HN.out; omega)] at this
          rw [this]; rfl
        have HF := Lib.hid hf
        clear hf
        go_wp2
        go_ret
        exact ⟨by rw [HF.out]; rfl, HB.out⟩
      · have e3 : ¬ (k : Int) ≤ 64 := by omega
        have hf : R = false := by rw [HV.out, decide_eq_false h64]; rfl
        have HF := Lib.hid hf
        clear hf
        go_wp2
        go_ret
        exact ⟨by rw [HF.out]; rfl, HB.out⟩

end Go.Proofs.Ytbonapdainlpjaa
