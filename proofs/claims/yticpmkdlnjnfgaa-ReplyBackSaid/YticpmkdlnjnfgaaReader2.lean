/- Walks of the reader of layer 3 (field): numbers. -/
import Derived.Test.YticpmkdlnjnfgaaReader
namespace Go.Proofs.Yticpmkdlnjnfgaa
open Go.RowKit Go.Sort

def RawPost (may : Nat → Bool) (g : Nat) (y : Value) (l : List UInt8) (pos bad : Nat) (w : World) (e : Ending) (w' : World) : Prop :=
  ∃ (n : Int) (b : Bool), e = .returned (.tuple #[.int .u64 n, .bool b]) ∧ n = ((rraw may l pos bad).1 : Int) ∧ b = decide ((rraw may l pos bad).2.2 = 0) ∧ Rdr w' g y l (rraw may l pos bad).2.1 (rraw may l pos bad).2.2 ∧ Only (fun k => k = g) w w'

set_option maxRecDepth 100000 in
set_option maxHeartbeats 800000 in
theorem raw_number (most : Int) (p : Nat) (g : Nat) (y : Value) (l : List UInt8) (pos bad : Nat) (w : World) (h : Rdr w g y l pos bad) (hp : w.cell? ⟨p, 0, none⟩ = some (.int .i64 most)) (hpl : p < w.heap.size) :
    Calls Try.prog 100 #[.pointer (some ⟨g, 0, none⟩), .func (.func 101) #[] #[.pointer (some ⟨p, 0, none⟩)]] w (RawPost (mayN most) g y l pos bad w) := by
  by_cases hb : bad = 0
  · subst hb
    have hle := h.le
    obtain ⟨a, ca, hs⟩ := h.src.shape
    subst hs
    obtain ⟨Y, hY, hYb⟩ := Bs.from (P := Try.prog) elB h.src pos h.le
    have hlen := h.src.len_eq
    have hvb := vtake_bad (l.drop pos)
    have hvg := vtake_good (l.drop pos)
    have hvl : (vtake (l.drop pos)).1 < 18446744073709551616 := by
      by_cases hf : (vtake (l.drop pos)).2.2 = 0
      · exact (hvg hf).1
      · rw [(hvb hf).1]; omega
    have hrr : rraw (mayN most) l pos 0 = if (vtake (l.drop pos)).2.2 ≠ 0 then (0, pos, (vtake (l.drop pos)).2.2) else if mayN most (vtake (l.drop pos)).1 then ((vtake (l.drop pos)).1, pos + (vtake (l.drop pos)).2.1, 0) else (0, pos, 3) := by
      unfold rraw
      rw [if_neg (by simp)]
    have htk := fun w hb => take_any Y (l.drop pos) w hb
    obtain ⟨n, k, f, hv⟩ : ∃ n k f, vtake (l.drop pos) = (n, k, f) := ⟨_, _, _, rfl⟩
    rw [hv] at hvg hvl hrr htk
    simp only at hvl hrr htk
    have HRR := Lib.hid hrr
    have HYB := Lib.hid hYb
    have HVG := Lib.hid hvg
    have HTK := Lib.hid htk
    clear hrr hYb hvg hvb hv htk
    have c0 := fun d os => cell_regrown h.c0 d os
    have c1 := fun d os => cell_regrown h.c1 d os
    have hg := h.lt
    go_enter Try.func100, Try.ntmps100
    go_wp2_with fail
    refine (rok_yes g _ l pos _ h).mono ?_
    rintro e w1 ⟨rfl, rfl⟩
    go_wp2_with fail
    refine wp_region_quiet_below (by kernel_rfl) (by kernel_rfl) ?_
    repeat (go_big_quiet_step ((go_at_call 112; exact Calls.regrown_of (HTK.out _ (HYB.out.below (below_regrown _ _ _))))))
    refine wpQuiet_nil ?_
    intro _ hw'
    obtain ⟨⟨dq, osq⟩, hw''⟩ := hw'
    subst hw''
    have hb2 := below_regrown w dq osq
    obtain ⟨w2, hwq⟩ : ∃ x, x = grow (redrawn w dq) osq := ⟨_, rfl⟩
    rw [← hwq] at hb2 ⊢
    clear hwq
    have h2 := h.below hb2
    have hp2 : w2.cell? ⟨p, 0, none⟩ = some (.int .i64 most) := (hb2.cell (p := ⟨p, 0, none⟩) hpl).trans hp
    clear c0 c1 hY HTK
    by_cases hf : f = 0
    · subst hf
      obtain ⟨-, hk1, hk2, -⟩ := HVG.out rfl
      simp only [List.length_drop] at hk1 hk2
      obtain ⟨m, hm⟩ : ∃ m, mayN most n = m := ⟨_, rfl⟩
      have HM := Lib.hid hm
      clear hm
      go_wp2_with fail
      refine (number1_any n hvl most _ _ hp2).mono ?_
      rintro e w3 ⟨rfl, rfl⟩
      rw [HM.out]
      have d1 := h2.c1
      have d2 := h2.c2
      have e1 := h2.f1
      have e2 := h2.f2
      have H2 := Lib.hid h2
      clear h2
      cases m
      · go_wp2
        go_ret2
        refine ⟨_, _, rfl, ?_, ?_, ?_, (Only.of_below hb2).trans (set_only _ _ _ _)⟩
        · rw [HRR.out, if_neg (by simp), HM.out]; rfl
        · rw [HRR.out, if_neg (by simp), HM.out]; rfl
        · rw [HRR.out, if_neg (by simp), HM.out]
          exact H2.out.setBad 3
      · go_wp2
        go_ret2
        refine ⟨_, _, rfl, ?_, ?_, ?_, (Only.of_below hb2).trans (set_only _ _ _ _)⟩
        · rw [HRR.out, if_neg (by simp), HM.out]; rfl
        · rw [HRR.out, if_neg (by simp), HM.out]; rfl
        · rw [HRR.out, if_neg (by simp), HM.out]
          exact H2.out.setPos (pos + k) (by omega)
    · have hf' : ((f : Int) == 0) = false := by simp; omega
      have hf'' : ((f : Int) != 0) = true := by simp; omega
      have HF := Lib.hid hf
      have d2 := h2.c2
      have e2 := h2.f2
      have H2 := Lib.hid h2
      clear h2 hf
      go_wp2
      go_ret2
      refine ⟨_, _, rfl, ?_, ?_, ?_, (Only.of_below hb2).trans (set_only _ _ _ _)⟩
      · rw [HRR.out, if_pos HF.out]; rfl
      · rw [HRR.out, if_pos HF.out]; simp [HF.out]
      · rw [HRR.out, if_pos HF.out]
        exact H2.out.setBad f
  · have hrr : rraw (mayN most) l pos bad = (0, pos, bad) := by unfold rraw; rw [if_pos hb]
    have HRR := Lib.hid hrr
    have HB := Lib.hid hb
    clear hrr hb
    go_enter Try.func100, Try.ntmps100
    go_wp2_with fail
    refine (rok_no g _ l pos bad _ h HB.out).mono ?_
    rintro e w1 ⟨rfl, rfl⟩
    go_wp2
    go_ret2
    refine ⟨_, _, rfl, ?_, ?_, ?_, Only.refl _ _⟩
    · rw [HRR.out]; rfl
    · rw [HRR.out]; simp [HB.out]
    · rw [HRR.out]; exact h

set_option maxRecDepth 100000 in
set_option maxHeartbeats 800000 in
theorem raw_signed (most : Int) (p : Nat) (g : Nat) (y : Value) (l : List UInt8) (pos bad : Nat) (w : World) (h : Rdr w g y l pos bad) (hp : w.cell? ⟨p, 0, none⟩ = some (.int .i64 most)) (hpl : p < w.heap.size) :
    Calls Try.prog 100 #[.pointer (some ⟨g, 0, none⟩), .func (.func 102) #[] #[.pointer (some ⟨p, 0, none⟩)]] w (RawPost (mayS most) g y l pos bad w) := by
  by_cases hb : bad = 0
  · subst hb
    have hle := h.le
    obtain ⟨a, ca, hs⟩ := h.src.shape
    subst hs
    obtain ⟨Y, hY, hYb⟩ := Bs.from (P := Try.prog) elB h.src pos h.le
    have hlen := h.src.len_eq
    have hvb := vtake_bad (l.drop pos)
    have hvg := vtake_good (l.drop pos)
    have hvl : (vtake (l.drop pos)).1 < 18446744073709551616 := by
      by_cases hf : (vtake (l.drop pos)).2.2 = 0
      · exact (hvg hf).1
      · rw [(hvb hf).1]; omega
    have hrr : rraw (mayS most) l pos 0 = if (vtake (l.drop pos)).2.2 ≠ 0 then (0, pos, (vtake (l.drop pos)).2.2) else if mayS most (vtake (l.drop pos)).1 then ((vtake (l.drop pos)).1, pos + (vtake (l.drop pos)).2.1, 0) else (0, pos, 3) := by
      unfold rraw
      rw [if_neg (by simp)]
    have htk := fun w hb => take_any Y (l.drop pos) w hb
    obtain ⟨n, k, f, hv⟩ : ∃ n k f, vtake (l.drop pos) = (n, k, f) := ⟨_, _, _, rfl⟩
    rw [hv] at hvg hvl hrr htk
    simp only at hvl hrr htk
    have HRR := Lib.hid hrr
    have HYB := Lib.hid hYb
    have HVG := Lib.hid hvg
    have HTK := Lib.hid htk
    clear hrr hYb hvg hvb hv htk
    have c0 := fun d os => cell_regrown h.c0 d os
    have c1 := fun d os => cell_regrown h.c1 d os
    have hg := h.lt
    go_enter Try.func100, Try.ntmps100
    go_wp2_with fail
    refine (rok_yes g _ l pos _ h).mono ?_
    rintro e w1 ⟨rfl, rfl⟩
    go_wp2_with fail
    refine wp_region_quiet_below (by kernel_rfl) (by kernel_rfl) ?_
    repeat (go_big_quiet_step ((go_at_call 112; exact Calls.regrown_of (HTK.out _ (HYB.out.below (below_regrown _ _ _))))))
    refine wpQuiet_nil ?_
    intro _ hw'
    obtain ⟨⟨dq, osq⟩, hw''⟩ := hw'
    subst hw''
    have hb2 := below_regrown w dq osq
    obtain ⟨w2, hwq⟩ : ∃ x, x = grow (redrawn w dq) osq := ⟨_, rfl⟩
    rw [← hwq] at hb2 ⊢
    clear hwq
    have h2 := h.below hb2
    have hp2 : w2.cell? ⟨p, 0, none⟩ = some (.int .i64 most) := (hb2.cell (p := ⟨p, 0, none⟩) hpl).trans hp
    clear c0 c1 hY HTK
    by_cases hf : f = 0
    · subst hf
      obtain ⟨-, hk1, hk2, -⟩ := HVG.out rfl
      simp only [List.length_drop] at hk1 hk2
      obtain ⟨m, hm⟩ : ∃ m, mayS most n = m := ⟨_, rfl⟩
      have HM := Lib.hid hm
      clear hm
      go_wp2_with fail
      refine (signed1_any n hvl most _ _ hp2).mono ?_
      rintro e w3 ⟨rfl, rfl⟩
      rw [HM.out]
      have d1 := h2.c1
      have d2 := h2.c2
      have e1 := h2.f1
      have e2 := h2.f2
      have H2 := Lib.hid h2
      clear h2
      cases m
      · go_wp2
        go_ret2
        refine ⟨_, _, rfl, ?_, ?_, ?_, (Only.of_below hb2).trans (set_only _ _ _ _)⟩
        · rw [HRR.out, if_neg (by simp), HM.out]; rfl
        · rw [HRR.out, if_neg (by simp), HM.out]; rfl
        · rw [HRR.out, if_neg (by simp), HM.out]
          exact H2.out.setBad 3
      · go_wp2
        go_ret2
        refine ⟨_, _, rfl, ?_, ?_, ?_, (Only.of_below hb2).trans (set_only _ _ _ _)⟩
        · rw [HRR.out, if_neg (by simp), HM.out]; rfl
        · rw [HRR.out, if_neg (by simp), HM.out]; rfl
        · rw [HRR.out, if_neg (by simp), HM.out]
          exact H2.out.setPos (pos + k) (by omega)
    · have hf' : ((f : Int) == 0) = false := by simp; omega
      have hf'' : ((f : Int) != 0) = true := by simp; omega
      have HF := Lib.hid hf
      have d2 := h2.c2
      have e2 := h2.f2
      have H2 := Lib.hid h2
      clear h2 hf
      go_wp2
      go_ret2
      refine ⟨_, _, rfl, ?_, ?_, ?_, (Only.of_below hb2).trans (set_only _ _ _ _)⟩
      · rw [HRR.out, if_pos HF.out]; rfl
      · rw [HRR.out, if_pos HF.out]; simp [HF.out]
      · rw [HRR.out, if_pos HF.out]
        exact H2.out.setBad f
  · have hrr : rraw (mayS most) l pos bad = (0, pos, bad) := by unfold rraw; rw [if_pos hb]
    have HRR := Lib.hid hrr
    have HB := Lib.hid hb
    clear hrr hb
    go_enter Try.func100, Try.ntmps100
    go_wp2_with fail
    refine (rok_no g _ l pos bad _ h HB.out).mono ?_
    rintro e w1 ⟨rfl, rfl⟩
    go_wp2
    go_ret2
    refine ⟨_, _, rfl, ?_, ?_, ?_, Only.refl _ _⟩
    · rw [HRR.out]; rfl
    · rw [HRR.out]; simp [HB.out]
    · rw [HRR.out]; exact h

end Go.Proofs.Yticpmkdlnjnfgaa
