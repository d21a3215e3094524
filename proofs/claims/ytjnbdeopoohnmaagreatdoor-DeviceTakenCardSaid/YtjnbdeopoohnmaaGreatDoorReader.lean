/- Reader: Reader, Reader2, Reader3 as one text. -/
import Derived.Test.YtjnbdeopoohnmaaGreatDoorRspec
import Derived.Test.YtjnbdeopoohnmaaGreatDoorBase
import Derived.Test.YtjnbdeopoohnmaaGreatDoorFrameWhole
import Derived.Test.YtjnbdeopoohnmaaGreatDoorWriter
import Derived.Lib.QuietBelow
import Derived.Deep.RegionHeld3
/- Walks of the reader of layer 3 (field). -/
namespace Go.Proofs.YtjnbdeopoohnmaaGreatDoor
open Go.RowKit

/-- block g is a reader of the bytes l (the slice y), at pos, bad -/
structure Rdr (w : World) (g : Nat) (y : Value) (l : List UInt8) (pos bad : Nat) : Prop where
  cell : w.heap[g]? = some (.cells #[y, .int .i64 pos, .int .i64 bad, .bool true] 120 (0, 0))
  src : Bs w y l
  le : pos ≤ l.length
  apart : l ≠ [] → y.ownBlock ≠ some g


section
variable {w w' : World} {g : Nat} {y : Value} {l : List UInt8} {pos bad : Nat}
theorem Rdr.lt (h : Rdr w g y l pos bad) : g < w.heap.size := heap_lt h.cell
theorem Rdr.below (h : Rdr w g y l pos bad) (hb : Below w.heap.size w w') : Rdr w' g y l pos bad := ⟨(hb.block g h.lt).trans h.cell, h.src.below hb, h.le, h.apart⟩
theorem Rdr.only {F : Nat → Prop} (h : Rdr w g y l pos bad) (ho : Only F w w') (hg : ¬ F g) (hy : l ≠ [] → ∀ k, y.ownBlock = some k → ¬ F k) : Rdr w' g y l pos bad :=
  ⟨(ho.block g h.lt hg).trans h.cell, h.src.only' ho hy, h.le, h.apart⟩
theorem Rdr.drew' (h : Rdr w g y l pos bad) : Rdr w.drew g y l pos bad := h.below (Below.refl _ _).drew
theorem Rdr.c0 (h : Rdr w g y l pos bad) : w.cell? ⟨g, 0, none⟩ = some y := cell_of_row w g 0 _ _ _ h.cell
theorem Rdr.c1 (h : Rdr w g y l pos bad) : w.cell? ⟨g, 1, none⟩ = some (.int .i64 pos) := cell_of_row w g 1 _ _ _ h.cell
theorem Rdr.c2 (h : Rdr w g y l pos bad) : w.cell? ⟨g, 2, none⟩ = some (.int .i64 bad) := cell_of_row w g 2 _ _ _ h.cell
theorem Rdr.c3 (h : Rdr w g y l pos bad) : w.cell? ⟨g, 3, none⟩ = some (.bool true) := cell_of_row w g 3 _ _ _ h.cell
theorem Rdr.f1 (h : Rdr w g y l pos bad) : w.frozen? ⟨g, 1, none⟩ = false := row_free h.cell 1
theorem Rdr.f2 (h : Rdr w g y l pos bad) : w.frozen? ⟨g, 2, none⟩ = false := row_free h.cell 2
theorem Rdr.setBad (h : Rdr w g y l pos bad) (b : Nat) : Rdr (w.setCell ⟨g, 2, none⟩ (.int .i64 b)) g y l pos b :=
  ⟨row_setCell h.cell 2 _, h.src.only' (setCell_only w ⟨g, 2, none⟩ _) (fun hl k hk e => h.apart hl (by rw [hk, e])), h.le, h.apart⟩
theorem Rdr.setPos (h : Rdr w g y l pos bad) (p : Nat) (hp : p ≤ l.length) : Rdr (w.setCell ⟨g, 1, none⟩ (.int .i64 p)) g y l p bad :=
  ⟨row_setCell h.cell 1 _, h.src.only' (setCell_only w ⟨g, 1, none⟩ _) (fun hl k hk e => h.apart hl (by rw [hk, e])), hp, h.apart⟩
end

theorem read_any (y : Value) (l : List UInt8) (w : World) (hy : Bs w y l) :
    Calls Tryz.prog 43 #[y] w fun e w' => e = .returned (.pointer (some ⟨w.heap.size, 0, none⟩)) ∧ Rdr w' w.heap.size y l 0 0 ∧ Below w.heap.size w w' := by
  obtain ⟨a, c, hs⟩ := hy.shape
  subst hs
  go_enter Tryz.func43, Tryz.ntmps43
  go_wp2
  go_ret
  exact ⟨rfl, ⟨heap_alloc_new w _, hy.alloc _, by omega, fun hl e => by have := hy.lt hl _ e; omega⟩, (Below.refl _ _).alloc (Nat.le_refl _) _⟩

theorem rok_yes (g : Nat) (y : Value) (l : List UInt8) (pos : Nat) (w : World) (h : Rdr w g y l pos 0) : Calls Tryz.prog 90 #[.pointer (some ⟨g, 0, none⟩)] w fun e w' => e = .returned (.bool true) ∧ w = w' := by
  have c2 := h.c2
  have c3 := h.c3
  clear h
  go_enter Tryz.func90, Tryz.ntmps90
  go_wp2
  go_ret
  exact ⟨rfl, rfl⟩

theorem rok_no (g : Nat) (y : Value) (l : List UInt8) (pos bad : Nat) (w : World) (h : Rdr w g y l pos bad) (hb : bad ≠ 0) : Calls Tryz.prog 90 #[.pointer (some ⟨g, 0, none⟩)] w fun e w' => e = .returned (.bool false) ∧ w = w' := by
  have c2 := h.c2
  have c3 := h.c3
  have hb' : ((bad : Int) == 0) = false := by simp; omega
  clear h hb
  go_enter Tryz.func90, Tryz.ntmps90
  go_wp2
  go_ret
  exact ⟨rfl, rfl⟩

theorem rok_nil (w : World) : Calls Tryz.prog 90 #[.pointer none] w fun e w' => e = .returned (.bool false) ∧ w = w' := by
  go_enter Tryz.func90, Tryz.ntmps90
  go_wp2
  go_ret
  exact ⟨rfl, rfl⟩

theorem number1_any (n : Nat) (hn : n < 18446744073709551616) (most : Int) (p : Addr) (w : World) (hp : w.cell? p = some (.int .i64 most)) :
    Calls Tryz.prog 80 #[.int .u64 n, .pointer (some p)] w fun e w' => e = .returned (.bool (mayN most n)) ∧ w = w' := by
  go_enter Tryz.func80, Tryz.ntmps80
  go_wp2
  all_goals
    go_ret
    refine ⟨ret_bool ?_, rfl⟩
    unfold mayN
    rw [Bool.eq_iff_iff]
    simp only [Bool.and_eq_true, decide_eq_true_eq, Bool.false_eq_true, false_iff]
    omega

theorem signed1_any (n : Nat) (hn : n < 18446744073709551616) (most : Int) (p : Addr) (w : World) (hp : w.cell? p = some (.int .i64 most)) :
    Calls Tryz.prog 105 #[.int .u64 n, .pointer (some p)] w fun e w' => e = .returned (.bool (mayS most n)) ∧ w = w' := by
  have hv := vback_range n hn
  go_enter Tryz.func105, Tryz.ntmps105
  go_wp2_with fail
  refine (back_any n hn _).mono ?_
  rintro e w1 ⟨rfl, rfl⟩
  go_wp2
  all_goals
    go_ret
    refine ⟨ret_bool ?_, rfl⟩
    unfold mayS
    rw [Bool.eq_iff_iff]
    simp only [Bool.and_eq_true, decide_eq_true_eq, Bool.false_eq_true, false_iff]
    omega

end Go.Proofs.YtjnbdeopoohnmaaGreatDoor
/- Walks of the reader of layer 3 (field): numbers. -/
namespace Go.Proofs.YtjnbdeopoohnmaaGreatDoor
open Go.RowKit Go.Sort

def RawPost (may : Nat → Bool) (g : Nat) (y : Value) (l : List UInt8) (pos bad : Nat) (w : World) (e : Ending) (w' : World) : Prop :=
  ∃ (n : Int) (b : Bool), e = .returned (.tuple #[.int .u64 n, .bool b]) ∧ n = ((rraw may l pos bad).1 : Int) ∧ b = decide ((rraw may l pos bad).2.2 = 0) ∧ Rdr w' g y l (rraw may l pos bad).2.1 (rraw may l pos bad).2.2 ∧ Only (fun k => k = g) w w'

set_option maxRecDepth 100000 in
set_option maxHeartbeats 800000 in
theorem raw_number (most : Int) (p : Nat) (g : Nat) (y : Value) (l : List UInt8) (pos bad : Nat) (w : World) (h : Rdr w g y l pos bad) (hp : w.cell? ⟨p, 0, none⟩ = some (.int .i64 most)) (hpl : p < w.heap.size) :
    Calls Tryz.prog 79 #[.pointer (some ⟨g, 0, none⟩), .func (.func 80) #[] #[.pointer (some ⟨p, 0, none⟩)]] w (RawPost (mayN most) g y l pos bad w) := by
  by_cases hb : bad = 0
  · subst hb
    have hle := h.le
    obtain ⟨a, ca, hs⟩ := h.src.shape
    subst hs
    obtain ⟨Y, hY, hYb⟩ := Bs.from (P := Tryz.prog) elB h.src pos h.le
    have hlen := h.src.len_eq
    have hvb := vtake_bad (l.drop pos)
    have hvg := vtake_good (l.drop pos)
    have hvl : (vtake (l.drop pos)).1 < 18446744073709551616 := by
      by_cases hf : (vtake (l.drop pos)).2.2 = 0
      · exact (hvg hf).1
      · rw [(hvb hf).1]; omega
    have hrr : rraw (mayN most) l pos 0 = if (vtake (l.drop pos)).2.2 ≠ 0 then (0, pos, (vtake (l.drop pos)).2.2) else if mayN most (vtake (l.drop pos)).1 then ((vtake (l.drop pos)).1, pos + (vtake (l.drop pos)).2.1, 0) else (0, pos, 3) := by
      unfold rraw
      rw [if_neg (by simp)]
    have htk := fun w hb => take_any Y (l.drop pos) w hb
    obtain ⟨n, k, f, hv⟩ : ∃ n k f, vtake (l.drop pos) = (n, k, f) := ⟨_, _, _, rfl⟩
    rw [hv] at hvg hvl hrr htk
    simp only at hvl hrr htk
    have HRR := Lib.hid hrr
    have HYB := Lib.hid hYb
    have HVG := Lib.hid hvg
    have HTK := Lib.hid htk
    clear hrr hYb hvg hvb hv htk
    have c0 := fun d os => cell_regrown h.c0 d os
    have c1 := fun d os => cell_regrown h.c1 d os
    have hg := h.lt
    go_enter Tryz.func79, Tryz.ntmps79
    go_wp2_with fail
    refine (rok_yes g _ l pos _ h).mono ?_
    rintro e w1 ⟨rfl, rfl⟩
    go_wp2_with fail
    refine wp_region_quiet_below (by kernel_rfl) (by kernel_rfl) ?_
    repeat (go_big_quiet_step ((go_at_call 103; exact Calls.regrown_of (HTK.out _ (HYB.out.below (below_regrown _ _ _))))))
    refine wpQuiet_nil ?_
    intro _ hw'
    obtain ⟨⟨dq, osq⟩, hw''⟩ := hw'
    subst hw''
    have hb2 := below_regrown w dq osq
    obtain ⟨w2, hwq⟩ : ∃ x, x = grow (redrawn w dq) osq := ⟨_, rfl⟩
    rw [← hwq] at hb2 ⊢
    clear hwq
    have h2 := h.below hb2
    have hp2 : w2.cell? ⟨p, 0, none⟩ = some (.int .i64 most) := (hb2.cell (p := ⟨p, 0, none⟩) hpl).trans hp
    clear c0 c1 hY HTK
    by_cases hf : f = 0
    · subst hf
      obtain ⟨-, hk1, hk2, -⟩ := HVG.out rfl
      simp only [List.length_drop] at hk1 hk2
      obtain ⟨m, hm⟩ : ∃ m, mayN most n = m := ⟨_, rfl⟩
      have HM := Lib.hid hm
      clear hm
      go_wp2_with fail
      refine (number1_any n hvl most _ _ hp2).mono ?_
      rintro e w3 ⟨rfl, rfl⟩
      rw [HM.out]
      have d1 := h2.c1
      have d2 := h2.c2
      have e1 := h2.f1
      have e2 := h2.f2
      have H2 := Lib.hid h2
      clear h2
      cases m
      · go_wp2
        go_ret2
        refine ⟨_, _, rfl, ?_, ?_, ?_, (Only.of_below hb2).trans (set_only _ _ _ _)⟩
        · rw [HRR.out, if_neg (by simp), HM.out]; rfl
        · rw [HRR.out, if_neg (by simp), HM.out]; rfl
        · rw [HRR.out, if_neg (by simp), HM.out]
          exact H2.out.setBad 3
      · go_wp2
        go_ret2
        refine ⟨_, _, rfl, ?_, ?_, ?_, (Only.of_below hb2).trans (set_only _ _ _ _)⟩
        · rw [HRR.out, if_neg (by simp), HM.out]; rfl
        · rw [HRR.out, if_neg (by simp), HM.out]; rfl
        · rw [HRR.out, if_neg (by simp), HM.out]
          exact H2.out.setPos (pos + k) (by omega)
    · have hf' : ((f : Int) == 0) = false := by simp; omega
      have hf'' : ((f : Int) != 0) = true := by simp; omega
      have HF := Lib.hid hf
      have d2 := h2.c2
      have e2 := h2.f2
      have H2 := Lib.hid h2
      clear h2 hf
      go_wp2
      go_ret2
      refine ⟨_, _, rfl, ?_, ?_, ?_, (Only.of_below hb2).trans (set_only _ _ _ _)⟩
      · rw [HRR.out, if_pos HF.out]; rfl
      · rw [HRR.out, if_pos HF.out]; simp [HF.out]
      · rw [HRR.out, if_pos HF.out]
        exact H2.out.setBad f
  · have hrr : rraw (mayN most) l pos bad = (0, pos, bad) := by unfold rraw; rw [if_pos hb]
    have HRR := Lib.hid hrr
    have HB := Lib.hid hb
    clear hrr hb
    go_enter Tryz.func79, Tryz.ntmps79
    go_wp2_with fail
    refine (rok_no g _ l pos bad _ h HB.out).mono ?_
    rintro e w1 ⟨rfl, rfl⟩
    go_wp2
    go_ret2
    refine ⟨_, _, rfl, ?_, ?_, ?_, Only.refl _ _⟩
    · rw [HRR.out]; rfl
    · rw [HRR.out]; simp [HB.out]
    · rw [HRR.out]; exact h

set_option maxRecDepth 100000 in
set_option maxHeartbeats 800000 in
theorem raw_signed (most : Int) (p : Nat) (g : Nat) (y : Value) (l : List UInt8) (pos bad : Nat) (w : World) (h : Rdr w g y l pos bad) (hp : w.cell? ⟨p, 0, none⟩ = some (.int .i64 most)) (hpl : p < w.heap.size) :
    Calls Tryz.prog 79 #[.pointer (some ⟨g, 0, none⟩), .func (.func 105) #[] #[.pointer (some ⟨p, 0, none⟩)]] w (RawPost (mayS most) g y l pos bad w) := by
  by_cases hb : bad = 0
  · subst hb
    have hle := h.le
    obtain ⟨a, ca, hs⟩ := h.src.shape
    subst hs
    obtain ⟨Y, hY, hYb⟩ := Bs.from (P := Tryz.prog) elB h.src pos h.le
    have hlen := h.src.len_eq
    have hvb := vtake_bad (l.drop pos)
    have hvg := vtake_good (l.drop pos)
    have hvl : (vtake (l.drop pos)).1 < 18446744073709551616 := by
      by_cases hf : (vtake (l.drop pos)).2.2 = 0
      · exact (hvg hf).1
      · rw [(hvb hf).1]; omega
    have hrr : rraw (mayS most) l pos 0 = if (vtake (l.drop pos)).2.2 ≠ 0 then (0, pos, (vtake (l.drop pos)).2.2) else if mayS most (vtake (l.drop pos)).1 then ((vtake (l.drop pos)).1, pos + (vtake (l.drop pos)).2.1, 0) else (0, pos, 3) := by
      unfold rraw
      rw [if_neg (by simp)]
    have htk := fun w hb => take_any Y (l.drop pos) w hb
    obtain ⟨n, k, f, hv⟩ : ∃ n k f, vtake (l.drop pos) = (n, k, f) := ⟨_, _, _, rfl⟩
    rw [hv] at hvg hvl hrr htk
    simp only at hvl hrr htk
    have HRR := Lib.hid hrr
    have HYB := Lib.hid hYb
    have HVG := Lib.hid hvg
    have HTK := Lib.hid htk
    clear hrr hYb hvg hvb hv htk
    have c0 := fun d os => cell_regrown h.c0 d os
    have c1 := fun d os => cell_regrown h.c1 d os
    have hg := h.lt
    go_enter Tryz.func79, Tryz.ntmps79
    go_wp2_with fail
    refine (rok_yes g _ l pos _ h).mono ?_
    rintro e w1 ⟨rfl, rfl⟩
    go_wp2_with fail
    refine wp_region_quiet_below (by kernel_rfl) (by kernel_rfl) ?_
    repeat (go_big_quiet_step ((go_at_call 103; exact Calls.regrown_of (HTK.out _ (HYB.out.below (below_regrown _ _ _))))))
    refine wpQuiet_nil ?_
    intro _ hw'
    obtain ⟨⟨dq, osq⟩, hw''⟩ := hw'
    subst hw''
    have hb2 := below_regrown w dq osq
    obtain ⟨w2, hwq⟩ : ∃ x, x = grow (redrawn w dq) osq := ⟨_, rfl⟩
    rw [← hwq] at hb2 ⊢
    clear hwq
    have h2 := h.below hb2
    have hp2 : w2.cell? ⟨p, 0, none⟩ = some (.int .i64 most) := (hb2.cell (p := ⟨p, 0, none⟩) hpl).trans hp
    clear c0 c1 hY HTK
    by_cases hf : f = 0
    · subst hf
      obtain ⟨-, hk1, hk2, -⟩ := HVG.out rfl
      simp only [List.length_drop] at hk1 hk2
      obtain ⟨m, hm⟩ : ∃ m, mayS most n = m := ⟨_, rfl⟩
      have HM := Lib.hid hm
      clear hm
      go_wp2_with fail
      refine (signed1_any n hvl most _ _ hp2).mono ?_
      rintro e w3 ⟨rfl, rfl⟩
      rw [HM.out]
      have d1 := h2.c1
      have d2 := h2.c2
      have e1 := h2.f1
      have e2 := h2.f2
      have H2 := Lib.hid h2
      clear h2
      cases m
      · go_wp2
        go_ret2
        refine ⟨_, _, rfl, ?_, ?_, ?_, (Only.of_below hb2).trans (set_only _ _ _ _)⟩
        · rw [HRR.out, if_neg (by simp), HM.out]; rfl
        · rw [HRR.out, if_neg (by simp), HM.out]; rfl
        · rw [HRR.out, if_neg (by simp), HM.out]
          exact H2.out.setBad 3
      · go_wp2
        go_ret2
        refine ⟨_, _, rfl, ?_, ?_, ?_, (Only.of_below hb2).trans (set_only _ _ _ _)⟩
        · rw [HRR.out, if_neg (by simp), HM.out]; rfl
        · rw [HRR.out, if_neg (by simp), HM.out]; rfl
        · rw [HRR.out, if_neg (by simp), HM.out]
          exact H2.out.setPos (pos + k) (by omega)
    · have hf' : ((f : Int) == 0) = false := by simp; omega
      have hf'' : ((f : Int) != 0) = true := by simp; omega
      have HF := Lib.hid hf
      have d2 := h2.c2
      have e2 := h2.f2
      have H2 := Lib.hid h2
      clear h2 hf
      go_wp2
      go_ret2
      refine ⟨_, _, rfl, ?_, ?_, ?_, (Only.of_below hb2).trans (set_only _ _ _ _)⟩
      · rw [HRR.out, if_pos HF.out]; rfl
      · rw [HRR.out, if_pos HF.out]; simp [HF.out]
      · rw [HRR.out, if_pos HF.out]
        exact H2.out.setBad f
  · have hrr : rraw (mayS most) l pos bad = (0, pos, bad) := by unfold rraw; rw [if_pos hb]
    have HRR := Lib.hid hrr
    have HB := Lib.hid hb
    clear hrr hb
    go_enter Tryz.func79, Tryz.ntmps79
    go_wp2_with fail
    refine (rok_no g _ l pos bad _ h HB.out).mono ?_
    rintro e w1 ⟨rfl, rfl⟩
    go_wp2
    go_ret2
    refine ⟨_, _, rfl, ?_, ?_, ?_, Only.refl _ _⟩
    · rw [HRR.out]; rfl
    · rw [HRR.out]; simp [HB.out]
    · rw [HRR.out]; exact h

end Go.Proofs.YtjnbdeopoohnmaaGreatDoor
/- Walks of the reader of layer 3 (field): numbers, bytes, errors. -/
namespace Go.Proofs.YtjnbdeopoohnmaaGreatDoor
open Go.RowKit Go.Sort

def NumPost (most : Int) (g : Nat) (y : Value) (l : List UInt8) (pos bad : Nat) (w : World) (e : Ending) (w' : World) : Prop :=
  e = .returned (.int .i64 ((rnum most l pos bad).1 : Int)) ∧ Rdr w' g y l (rnum most l pos bad).2.1 (rnum most l pos bad).2.2 ∧ Only (fun k => k = g) w w'
def SigPost (most : Int) (g : Nat) (y : Value) (l : List UInt8) (pos bad : Nat) (w : World) (e : Ending) (w' : World) : Prop :=
  e = .returned (.int .i64 (vback (rsig most l pos bad).1)) ∧ Rdr w' g y l (rsig most l pos bad).2.1 (rsig most l pos bad).2.2 ∧ Only (fun k => k = g) w w'

theorem rnumber_rd (most : Int) (g : Nat) (y : Value) (l : List UInt8) (pos bad : Nat) (w : World) (h : Rdr w g y l pos bad) :
    Calls Tryz.prog 44 #[.pointer (some ⟨g, 0, none⟩), .int .i64 most] w (NumPost most g y l pos bad w) := by
  have hlt := h.lt
  have hb : Below w.heap.size w (w.alloc (.cells #[.int .i64 most] 3)) := (Below.refl _ _).alloc (Nat.le_refl _) _
  have hc : (w.alloc (.cells #[.int .i64 most] 3)).cell? ⟨w.heap.size, 0, none⟩ = some (.int .i64 most) := cell_of_row _ _ 0 _ _ _ (heap_alloc_new w _)
  have hr := Lib.hid (raw_number most w.heap.size g y l pos bad _ (h.below hb) hc (by simp))
  have hm := (rnum_most most l pos bad).1
  clear hc
  go_enter Tryz.func44, Tryz.ntmps44
  go_wp2_with fail
  refine hr.out.mono ?_
  rintro e w2 ⟨n, b, rfl, hn, hbb, h2, ho⟩
  have HN := Lib.hid hn
  have HBB := Lib.hid hbb
  have hn1 : 0 ≤ n ∧ n ≤ 4611686018427387904 := by unfold rnum at hm; omega
  clear hn hbb hr
  go_wp2
  go_ret
  exact ⟨ret_int HN.out, h2, (Only.of_below hb).trans ho⟩

theorem rsigned_rd (most : Int) (g : Nat) (y : Value) (l : List UInt8) (pos bad : Nat) (w : World) (h : Rdr w g y l pos bad) :
    Calls Tryz.prog 83 #[.pointer (some ⟨g, 0, none⟩), .int .i64 most] w (SigPost most g y l pos bad w) := by
  have hlt := h.lt
  have hb : Below w.heap.size w (w.alloc (.cells #[.int .i64 most] 3)) := (Below.refl _ _).alloc (Nat.le_refl _) _
  have hc : (w.alloc (.cells #[.int .i64 most] 3)).cell? ⟨w.heap.size, 0, none⟩ = some (.int .i64 most) := cell_of_row _ _ 0 _ _ _ (heap_alloc_new w _)
  have hr := Lib.hid (raw_signed most w.heap.size g y l pos bad _ (h.below hb) hc (by simp))
  have hm := (rraw_le (mayS most) l pos bad h.le).2
  clear hc
  go_enter Tryz.func83, Tryz.ntmps83
  go_wp2_with fail
  refine hr.out.mono ?_
  rintro e w2 ⟨n, b, rfl, hn, hbb, h2, ho⟩
  have HN := Lib.hid hn
  have HBB := Lib.hid hbb
  have hn1 : 0 ≤ n ∧ n < 18446744073709551616 := by omega
  clear hn hbb hr
  go_wp2_with fail
  refine (back_int n hn1 _).mono ?_
  rintro e w3 ⟨rfl, rfl⟩
  go_wp2
  go_ret
  refine ⟨ret_int ?_, h2, (Only.of_below hb).trans ho⟩
  unfold rsig
  rw [HN.out]
  simp

theorem rerror_any (g : Nat) (y : Value) (l : List UInt8) (pos bad : Nat) (w : World) (h : Rdr w g y l pos bad) : Calls Tryz.prog 45 #[.pointer (some ⟨g, 0, none⟩)] w fun e w' => e = .returned (.int .i64 bad) ∧ w = w' := by
  have c2 := h.c2
  have c3 := h.c3
  clear h
  go_enter Tryz.func45, Tryz.ntmps45
  go_wp2
  go_ret
  exact ⟨rfl, rfl⟩

theorem rerror_nil (w : World) : Calls Tryz.prog 45 #[.pointer none] w fun e w' => e = .returned (.int .i64 1) ∧ w = w' := by
  go_enter Tryz.func45, Tryz.ntmps45
  go_wp2
  go_ret
  exact ⟨rfl, rfl⟩

theorem rdone_any (g : Nat) (y : Value) (l : List UInt8) (pos bad : Nat) (w : World) (h : Rdr w g y l pos bad) : Calls Tryz.prog 59 #[.pointer (some ⟨g, 0, none⟩)] w fun e w' => e = .returned (.int .i64 (rdone l pos bad)) ∧ Below w.heap.size w w' := by
  obtain ⟨a, c, hs⟩ := h.src.shape
  subst hs
  have c0 := h.c0
  have c1 := h.c1
  by_cases hb : bad = 0
  · subst hb
    obtain ⟨bb, hbb⟩ : ∃ b, decide (pos < l.length) = b := ⟨_, rfl⟩
    have HR : Hid (rdone l pos 0 = if bb then 13 else 0) := by
      show _ = _
      unfold rdone
      rw [← hbb]
      simp
    go_enter Tryz.func59, Tryz.ntmps59
    go_wp2_with fail
    refine (rerror_any g _ l pos 0 _ h).mono ?_
    rintro e w1 ⟨rfl, rfl⟩
    go_wp2_with fail
    go_quiet (fail)
    cases bb
    all_goals
      go_wp2
      go_ret
      exact ⟨ret_int (by rw [HR.out]; rfl), below_drewN (Below.refl _ _) _⟩
  · have hb' : ((bad : Int) == 0) = false := by simp; omega
    have HR : Hid (rdone l pos bad = bad) := by
      show _ = _
      unfold rdone
      rw [if_neg (by omega)]
    clear hb
    go_enter Tryz.func59, Tryz.ntmps59
    go_wp2_with fail
    refine (rerror_any g _ l pos bad _ h).mono ?_
    rintro e w1 ⟨rfl, rfl⟩
    go_wp2_with fail
    go_quiet (fail)
    go_wp2
    go_ret
    exact ⟨ret_int (by rw [HR.out]), below_drewN (Below.refl _ _) _⟩

theorem rdone_nil (w : World) : Calls Tryz.prog 59 #[.pointer none] w fun e w' => e = .returned (.int .i64 1) ∧ Below w.heap.size w w' := by
  go_enter Tryz.func59, Tryz.ntmps59
  go_wp2_with fail
  refine (rerror_nil _).mono ?_
  rintro e w1 ⟨rfl, rfl⟩
  go_wp2_with fail
  go_quiet (fail)
  go_wp2
  go_ret
  exact ⟨rfl, below_drewN (Below.refl _ _) _⟩

def BytesPost (most : Int) (g : Nat) (y : Value) (l : List UInt8) (pos bad : Nat) (w : World) (e : Ending) (w' : World) : Prop :=
  ∃ v, e = .returned v ∧ Ob w' w.heap.size 5 v (rbytes most l pos bad).1 ∧ Rdr w' g y l (rbytes most l pos bad).2.1 (rbytes most l pos bad).2.2 ∧ Only (fun k => k = g) w w'

set_option maxRecDepth 100000 in
set_option maxHeartbeats 800000 in
theorem rbytes_rd (most : Int) (g : Nat) (y : Value) (l : List UInt8) (pos bad : Nat) (w : World) (h : Rdr w g y l pos bad) (hlen : l.length ≤ 140737488355328) :
    Calls Tryz.prog 58 #[.pointer (some ⟨g, 0, none⟩), .int .i64 most] w (BytesPost most g y l pos bad w) := by
  obtain ⟨a, c, hs⟩ := h.src.shape
  subst hs
  have hm := rnum_most most l pos bad
  have hle := (rraw_le (mayN most) l pos bad h.le).1
  have hrb : Hid (rbytes most l pos bad = _) := rfl
  obtain ⟨n, p, b, hv⟩ : ∃ n p b, rnum most l pos bad = (n, p, b) := ⟨_, _, _, rfl⟩
  have hR := rnumber_rd most g _ l pos bad w h
  have hRB : rbytes most l pos bad = if b ≠ 0 then ([], p, b) else if l.length - p < n then ([], p, 10) else ((l.drop p).take n, p + n, 0) := by
    unfold rbytes
    rw [hv]
  have hle' : p ≤ l.length := by unfold rnum at hv; rw [hv] at hle; exact hle
  rw [hv] at hm
  unfold NumPost at hR
  rw [hv] at hR
  simp only at hm hR
  have HRB := Lib.hid hRB
  have HRR := Lib.hid hR
  have hm1 := hm.1
  clear hRB hR hv hle hm hrb
  go_enter Tryz.func58, Tryz.ntmps58
  go_wp2_with fail
  refine HRR.out.mono ?_
  rintro e w1 ⟨rfl, h1, ho1⟩
  by_cases hb : b = 0
  · subst hb
    go_wp2_with fail
    refine (rok_yes g _ l p _ h1).mono ?_
    rintro e w2 ⟨rfl, rfl⟩
    have c0 := h1.c0
    have c1 := h1.c1
    have ee : IntKind.i64.wrap ((l.length : Int) - p) = (l.length : Int) - p := IntWalk.i64_in _ (by omega)
    by_cases hn : l.length - p < n
    · have hd : decide ((l.length : Int) - p < n) = true := by simp; omega
      have HN := Lib.hid hn
      have e2 := h1.f2
      have c2 := h1.c2
      have H1 := Lib.hid h1
      clear hn h1
      go_wp2_with fail
      go_quiet (fail)
      go_wp2
      go_ret
      refine ⟨_, rfl, ?_, ?_, ?_⟩
      · rw [HRB.out, if_neg (by simp), if_pos HN.out]; exact Ob.nil _ _ _
      · rw [HRB.out, if_neg (by simp), if_pos HN.out]
        exact (H1.out.setBad 10).below (below_drewN (Below.refl _ _) _)
      · exact only_drewN (ho1.trans (set_only _ _ _ _)) _
    · have hd : decide ((l.length : Int) - p < n) = false := by simp; omega
      have HN := Lib.hid hn
      have hpn : p + n ≤ l.length := by omega
      have e1 := h1.f1
      have ec : ((p : Int) + n) = ((p + n : Nat) : Int) := by omega
      have h2 := h1.setPos (p + n) hpn
      have d0 := h2.c0
      have d1 := h2.c1
      have H1 := Lib.hid h1
      have H2 := Lib.hid h2
      have EC := Lib.hid ec
      clear hn h1 h2 ec d0 d1
      go_wp2_with fail
      go_quiet (fail)
      go_wp2_with fail
      obtain ⟨W2, hW2⟩ : ∃ W2, (w1.drewN nq).setCell ⟨g, 1, none⟩ (.int .i64 ((p : Int) + n)) = W2 := ⟨_, rfl⟩
      rw [hW2]
      have hr2 : Rdr W2 g (.slice a l.length c) l (p + n) 0 := by
        rw [← hW2, EC.out]
        exact H2.out.below (below_drewN (Below.refl _ _) _)
      have hoo : Only (fun k => k = g) w W2 := by
        rw [← hW2]
        exact only_drewN (ho1.trans (set_only _ _ _ _)) _
      clear hW2 c0 c1 ee e1 hd EC
      obtain ⟨q, hq⟩ : ∃ q, q = p + n := ⟨_, rfl⟩
      rw [← hq] at hr2 hpn
      obtain ⟨Y, hY, hYb⟩ := Bs.piece (P := Tryz.prog) elB hr2.src p q (by omega) hpn
      rw [show q - p = n by omega] at hYb
      have c0 := hr2.c0
      have c1 := hr2.c1
      have hg := hr2.lt
      have ee : IntKind.i64.wrap ((q : Int) - n) = (p : Int) := by rw [show (q : Int) - n = (p : Int) by omega]; exact IntWalk.i64_in _ (by omega)
      have HQ := Lib.hid hq
      clear hq
      have HR2 := Lib.hid hr2
      have HYB := Lib.hid hYb
      have hpl : ((l.drop p).take n).length ≤ 140737488355328 := by simp; omega
      clear hr2 hYb
      go_region_held3 (fun w' => w'.cell? ⟨g, 0, none⟩ = some (.slice a l.length c) ∧ w'.cell? ⟨g, 1, none⟩ = some (.int .i64 (q : Int)))
        (first | go_keep | exact ⟨(HR2.out.drew'.below hb3).c0, (HR2.out.drew'.below hb3).c1⟩)
        (first | (go_at_call 27; refine (clone_any _ _ _ HYB.out.drew hpl).mono ?_; rintro e w3 ⟨v3, rfl, ho3, hb3⟩))
      have HO3 := Lib.hid ho3
      clear ho3 c0 c1 ee
      go_wp2
      go_ret
      refine ⟨_, rfl, ?_, ?_, ?_⟩
      · rw [HRB.out, if_neg (by simp), if_neg HN.out]
        exact HO3.out.mono hoo.size
      · rw [HRB.out, if_neg (by simp), if_neg HN.out]
        rw [← HQ.out]
        exact HR2.out.drew'.below hb3
      · exact (only_drew hoo).trans' (Only.of_below (F := fun _ => False) hb3) (fun _ h => h.elim)
  · have HB := Lib.hid hb
    clear hb
    go_wp2_with fail
    refine (rok_no g _ l p b _ h1 HB.out).mono ?_
    rintro e w2 ⟨rfl, rfl⟩
    go_wp2
    go_ret
    refine ⟨_, rfl, ?_, ?_, ho1⟩
    · rw [HRB.out, if_pos HB.out]; exact Ob.nil _ _ _
    · rw [HRB.out, if_pos HB.out]; exact h1

end Go.Proofs.YtjnbdeopoohnmaaGreatDoor
