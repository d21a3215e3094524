/- RReader: RReader, RReader2 as one text. -/
import Derived.Test.YtjnbdeopoohnmaaRspec
import Derived.Test.YtjnbdeopoohnmaaBase
import Derived.Test.YtjnbdeopoohnmaaVTake
import Derived.Lib.QuietBelow
import Derived.Deep.RegionHeld3
/- Walks of the reference's reader of layer 3 (field). -/
namespace Go.Proofs.Ytjnbdeopoohnmaa
open Go.RowKit Go.Sort

/-- block g is a reader of the reference's of the bytes l (the slice y), at pos, bad -/
structure RRd (w : World) (g : Nat) (y : Value) (l : List UInt8) (pos bad : Nat) : Prop where
  cell : w.heap[g]? = some (.cells #[y, .int .i64 pos, .int .i64 bad] 125 (0, 0))
  src : Bs w y l
  le : pos ≤ l.length
  apart : l ≠ [] → y.ownBlock ≠ some g


section
variable {w w' : World} {g : Nat} {y : Value} {l : List UInt8} {pos bad : Nat}
theorem RRd.lt (h : RRd w g y l pos bad) : g < w.heap.size := heap_lt h.cell
theorem RRd.below (h : RRd w g y l pos bad) (hb : Below w.heap.size w w') : RRd w' g y l pos bad := ⟨(hb.block g h.lt).trans h.cell, h.src.below hb, h.le, h.apart⟩
theorem RRd.only {F : Nat → Prop} (h : RRd w g y l pos bad) (ho : Only F w w') (hg : ¬ F g) (hy : l ≠ [] → ∀ k, y.ownBlock = some k → ¬ F k) : RRd w' g y l pos bad :=
  ⟨(ho.block g h.lt hg).trans h.cell, h.src.only' ho hy, h.le, h.apart⟩
theorem RRd.drew' (h : RRd w g y l pos bad) : RRd w.drew g y l pos bad := h.below (Below.refl _ _).drew
theorem RRd.c0 (h : RRd w g y l pos bad) : w.cell? ⟨g, 0, none⟩ = some y := cell_of_row w g 0 _ _ _ h.cell
theorem RRd.c1 (h : RRd w g y l pos bad) : w.cell? ⟨g, 1, none⟩ = some (.int .i64 pos) := cell_of_row w g 1 _ _ _ h.cell
theorem RRd.c2 (h : RRd w g y l pos bad) : w.cell? ⟨g, 2, none⟩ = some (.int .i64 bad) := cell_of_row w g 2 _ _ _ h.cell
theorem RRd.f1 (h : RRd w g y l pos bad) : w.frozen? ⟨g, 1, none⟩ = false := row_free h.cell 1
theorem RRd.f2 (h : RRd w g y l pos bad) : w.frozen? ⟨g, 2, none⟩ = false := row_free h.cell 2
theorem RRd.setBad (h : RRd w g y l pos bad) (b : Nat) : RRd (w.setCell ⟨g, 2, none⟩ (.int .i64 b)) g y l pos b :=
  ⟨row_setCell h.cell 2 _, h.src.only' (setCell_only w ⟨g, 2, none⟩ _) (fun hl k hk e => h.apart hl (by rw [hk, e])), h.le, h.apart⟩
theorem RRd.setPos (h : RRd w g y l pos bad) (p : Nat) (hp : p ≤ l.length) : RRd (w.setCell ⟨g, 1, none⟩ (.int .i64 p)) g y l p bad :=
  ⟨row_setCell h.cell 1 _, h.src.only' (setCell_only w ⟨g, 1, none⟩ _) (fun hl k hk e => h.apart hl (by rw [hk, e])), hp, h.apart⟩
end

theorem rread_any (y : Value) (l : List UInt8) (w : World) (hy : Bs w y l) :
    Calls Try.prog 74 #[y] w fun e w' => e = .returned (.pointer (some ⟨w.heap.size, 0, none⟩)) ∧ RRd w' w.heap.size y l 0 0 ∧ Below w.heap.size w w' := by
  obtain ⟨a, c, hs⟩ := hy.shape
  subst hs
  go_enter Try.func74, Try.ntmps74
  go_wp2
  go_ret
  exact ⟨rfl, ⟨heap_alloc_new w _, hy.alloc _, by omega, fun hl e => by have := hy.lt hl _ e; omega⟩, (Below.refl _ _).alloc (Nat.le_refl _) _⟩

def RRawPost (g : Nat) (y : Value) (l : List UInt8) (pos : Nat) (w : World) (e : Ending) (w' : World) : Prop :=
  e = .returned (.tuple #[.int .u64 ((vtake (l.drop pos)).1 : Int), .int .i64 ((vtake (l.drop pos)).2.1 : Int)]) ∧ RRd w' g y l pos (vtake (l.drop pos)).2.2 ∧ Only (fun k => k = g) w w'

set_option maxRecDepth 100000 in
set_option maxHeartbeats 800000 in
theorem rraw_zero (g : Nat) (y : Value) (l : List UInt8) (pos : Nat) (w : World) (h : RRd w g y l pos 0) : Calls Try.prog 99 #[.pointer (some ⟨g, 0, none⟩)] w (RRawPost g y l pos w) := by
  have hle := h.le
  obtain ⟨a, ca, hs⟩ := h.src.shape
  subst hs
  obtain ⟨Y, hY, hYb⟩ := Bs.from (P := Try.prog) elB h.src pos h.le
  have hlen := h.src.len_eq
  have htk := fun w hb => rtake_any Y (l.drop pos) w hb
  unfold RRawPost
  obtain ⟨n, k, f, hv⟩ : ∃ n k f, vtake (l.drop pos) = (n, k, f) := ⟨_, _, _, rfl⟩
  rw [hv] at htk ⊢
  simp only at htk ⊢
  have HYB := Lib.hid hYb
  have HTK := Lib.hid htk
  clear hYb hv htk
  have q2 := h.c2
  have c0 := fun d os => cell_regrown h.c0 d os
  have c1 := fun d os => cell_regrown h.c1 d os
  have hg := h.lt
  go_enter Try.func99, Try.ntmps99
  go_wp2_with fail
  refine wp_region_quiet_below (by kernel_rfl) (by kernel_rfl) ?_
  repeat (go_big_quiet_step ((go_at_call 105; exact Calls.regrown_of (HTK.out _ (HYB.out.below (below_regrown _ _ _))))))
  refine wpQuiet_nil ?_
  intro _ hw'
  obtain ⟨⟨dq, osq⟩, hw''⟩ := hw'
  subst hw''
  have hb2 := below_regrown w dq osq
  obtain ⟨w2, hwq⟩ : ∃ x, x = grow (redrawn w dq) osq := ⟨_, rfl⟩
  rw [← hwq] at hb2 ⊢
  clear hwq
  have h2 := h.below hb2
  clear c0 c1 hY HTK q2
  have d2 := h2.c2
  have e2 := h2.f2
  have H2 := Lib.hid h2
  clear h2
  by_cases hf : f = 0
  · subst hf
    go_wp2
    go_ret2
    exact ⟨rfl, H2.out, Only.of_below hb2⟩
  · have hf' : ((f : Int) != 0) = true := by simp; omega
    clear hf
    go_wp2
    go_ret2
    exact ⟨rfl, H2.out.setBad f, (Only.of_below hb2).trans (set_only _ _ _ _)⟩

theorem rraw_bad2 (g : Nat) (y : Value) (l : List UInt8) (pos bad : Nat) (w : World) (h : RRd w g y l pos bad) (hb : bad ≠ 0) : Calls Try.prog 99 #[.pointer (some ⟨g, 0, none⟩)] w fun e w' => e = .returned (.tuple #[.int .u64 0, .int .i64 0]) ∧ w = w' := by
  have c2 := h.c2
  have hb' : ((bad : Int) != 0) = true := by simp; omega
  clear h hb
  go_enter Try.func99, Try.ntmps99
  go_wp2
  go_ret2
  exact ⟨rfl, rfl⟩

def RNumPost (most : Int) (g : Nat) (y : Value) (l : List UInt8) (pos bad : Nat) (w : World) (e : Ending) (w' : World) : Prop :=
  e = .returned (.int .i64 ((rnum most l pos bad).1 : Int)) ∧ RRd w' g y l (rnum most l pos bad).2.1 (rnum most l pos bad).2.2 ∧ Only (fun k => k = g) w w'
def RSigPost (most : Int) (g : Nat) (y : Value) (l : List UInt8) (pos bad : Nat) (w : World) (e : Ending) (w' : World) : Prop :=
  e = .returned (.int .i64 (vback (rsig most l pos bad).1)) ∧ RRd w' g y l (rsig most l pos bad).2.1 (rsig most l pos bad).2.2 ∧ Only (fun k => k = g) w w'

set_option maxRecDepth 100000 in
set_option maxHeartbeats 800000 in
theorem rrnumber_rd (most : Int) (hmost : -9223372036854775808 ≤ most ∧ most ≤ 9223372036854775807) (g : Nat) (y : Value) (l : List UInt8) (pos bad : Nat) (w : World) (h : RRd w g y l pos bad) :
    Calls Try.prog 75 #[.pointer (some ⟨g, 0, none⟩), .int .i64 most] w (RNumPost most g y l pos bad w) := by
  by_cases hb : bad = 0
  · subst hb
    have hle := h.le
    have hlen : l.length ≤ 9223372036854775807 := by
      obtain ⟨a, ca, hs⟩ := h.src.shape
      have := h.src
      rw [hs] at this
      have := this.len_eq
      omega
    have hraw := rraw_zero g y l pos w h
    have hvb := vtake_bad (l.drop pos)
    have hvg := vtake_good (l.drop pos)
    have hrr : rnum most l pos 0 = if (vtake (l.drop pos)).2.2 ≠ 0 then (0, pos, (vtake (l.drop pos)).2.2) else if mayN most (vtake (l.drop pos)).1 then ((vtake (l.drop pos)).1, pos + (vtake (l.drop pos)).2.1, 0) else (0, pos, 3) := by
      unfold rnum rraw
      rw [if_neg (by simp)]
    unfold RRawPost at hraw
    obtain ⟨n, k, f, hv⟩ : ∃ n k f, vtake (l.drop pos) = (n, k, f) := ⟨_, _, _, rfl⟩
    rw [hv] at hraw hvb hvg hrr
    simp only at hraw hvb hvg hrr
    have HRR := Lib.hid hrr
    have HRAW := Lib.hid hraw
    have HVG := Lib.hid hvg
    clear hrr hraw hvb hvg hv h
    go_enter Try.func75, Try.ntmps75
    go_wp2_with fail
    refine HRAW.out.mono ?_
    rintro e w1 ⟨rfl, h1, ho1⟩
    have c1 := h1.c1
    have c2 := h1.c2
    have f1 := h1.f1
    have f2 := h1.f2
    have H1 := Lib.hid h1
    clear h1 HRAW
    by_cases hf : f = 0
    · subst hf
      obtain ⟨hn, hk1, hk2, -⟩ := HVG.out rfl
      simp only [List.length_drop] at hk1 hk2
      go_wp2
      all_goals
        go_ret
        first
          | (refine ⟨ret_int ?_, ?_, ho1.trans (set_only _ _ _ _)⟩
             · rw [HRR.out, if_neg (by simp), if_neg (by unfold mayN; simp; omega)]; rfl
             · rw [HRR.out, if_neg (by simp), if_neg (by unfold mayN; simp; omega)]
               exact H1.out.setBad 3)
          | (refine ⟨ret_int ?_, ?_, ho1.trans (set_only _ _ _ _)⟩
             · rw [HRR.out, if_neg (by simp), if_pos (by unfold mayN; simp; omega)]
             · rw [HRR.out, if_neg (by simp), if_pos (by unfold mayN; simp; omega)]
               exact H1.out.setPos (pos + k) (by omega))
    · have hf' : ((f : Int) != 0) = true := by simp; omega
      have HF := Lib.hid hf
      clear hf
      go_wp2
      go_ret
      refine ⟨ret_int ?_, ?_, ho1⟩
      · rw [HRR.out, if_pos HF.out]; rfl
      · rw [HRR.out, if_pos HF.out]; exact H1.out
  · have hrr : rnum most l pos bad = (0, pos, bad) := by unfold rnum rraw; rw [if_pos hb]
    have HRR := Lib.hid hrr
    have HB := Lib.hid hb
    have c2 := h.c2
    have hb' : ((bad : Int) != 0) = true := by simp; omega
    clear hrr hb
    go_enter Try.func75, Try.ntmps75
    go_wp2_with fail
    refine (rraw_bad2 g _ l pos bad _ h HB.out).mono ?_
    rintro e w1 ⟨rfl, rfl⟩
    go_wp2
    go_ret
    refine ⟨ret_int ?_, ?_, Only.refl _ _⟩
    · rw [HRR.out]; rfl
    · rw [HRR.out]; exact h

end Go.Proofs.Ytjnbdeopoohnmaa
/- Walks of the reference's reader of layer 3 (field): signed numbers, bytes, the end. -/
namespace Go.Proofs.Ytjnbdeopoohnmaa
open Go.RowKit Go.Sort

set_option maxRecDepth 100000 in
set_option maxHeartbeats 800000 in
theorem rrsigned_rd (most : Int) (hmost : -9223372036854775808 ≤ most ∧ most ≤ 9223372036854775807) (g : Nat) (y : Value) (l : List UInt8) (pos bad : Nat) (w : World) (h : RRd w g y l pos bad) :
    Calls Try.prog 76 #[.pointer (some ⟨g, 0, none⟩), .int .i64 most] w (RSigPost most g y l pos bad w) := by
  by_cases hb : bad = 0
  · subst hb
    have hle := h.le
    have hlen : l.length ≤ 9223372036854775807 := by
      obtain ⟨a, ca, hs⟩ := h.src.shape
      have := h.src
      rw [hs] at this
      have := this.len_eq
      omega
    have hraw := rraw_zero g y l pos w h
    have hvb := vtake_bad (l.drop pos)
    have hvg := vtake_good (l.drop pos)
    have hrr : rsig most l pos 0 = if (vtake (l.drop pos)).2.2 ≠ 0 then (0, pos, (vtake (l.drop pos)).2.2) else if mayS most (vtake (l.drop pos)).1 then ((vtake (l.drop pos)).1, pos + (vtake (l.drop pos)).2.1, 0) else (0, pos, 3) := by
      unfold rsig rraw
      rw [if_neg (by simp)]
    unfold RRawPost at hraw
    obtain ⟨n, k, f, hv⟩ : ∃ n k f, vtake (l.drop pos) = (n, k, f) := ⟨_, _, _, rfl⟩
    rw [hv] at hraw hvb hvg hrr
    simp only at hraw hvb hvg hrr
    have HRR := Lib.hid hrr
    have HRAW := Lib.hid hraw
    have HVG := Lib.hid hvg
    clear hrr hraw hvb hvg hv h
    go_enter Try.func76, Try.ntmps76
    go_wp2_with fail
    refine HRAW.out.mono ?_
    rintro e w1 ⟨rfl, h1, ho1⟩
    have c1 := h1.c1
    have c2 := h1.c2
    have f1 := h1.f1
    have f2 := h1.f2
    have H1 := Lib.hid h1
    clear h1 HRAW
    by_cases hf : f = 0
    · subst hf
      obtain ⟨hn, hk1, hk2, -⟩ := HVG.out rfl
      simp only [List.length_drop] at hk1 hk2
      have hv0 : vback n = if n % 2 = 0 then ((n / 2 : Nat) : Int) else - ((n / 2 : Nat) : Int) - 1 := rfl
      rcases (show n % 2 = 0 ∨ n % 2 = 1 by omega) with h2 | h2
      · rw [if_pos h2] at hv0
        have hv1 : vback n = (n : Int) / 2 := by omega
        have HV := Lib.hid hv1
        have q1 : (n : Int) % 2 = 0 := by omega
        have qb : ((n : Int) % 2 == 1) = false := by simp; omega
        have HQ := Lib.hid h2
        clear hv0 hv1 h2 q1
        go_wp2
        all_goals
          go_ret
          first
            | (refine ⟨ret_int ?_, ?_, ho1.trans (set_only _ _ _ _)⟩
               · rw [HRR.out, if_neg (by simp), if_neg (fun hh => by have hh := (mayS_iff _ _).1 hh; rw [HV.out] at hh; omega)]; exact (show vback 0 = 0 from rfl).symm
               · rw [HRR.out, if_neg (by simp), if_neg (fun hh => by have hh := (mayS_iff _ _).1 hh; rw [HV.out] at hh; omega)]
                 exact H1.out.setBad 3)
            | (refine ⟨ret_int ?_, ?_, ho1.trans (set_only _ _ _ _)⟩
               · rw [HRR.out, if_neg (by simp), if_pos ((mayS_iff _ _).2 (by rw [HV.out]; omega))]
                 simp only
                 rw [HV.out]
               · rw [HRR.out, if_neg (by simp), if_pos ((mayS_iff _ _).2 (by rw [HV.out]; omega))]
                 exact H1.out.setPos (pos + k) (by omega))
      · rw [if_neg (by omega)] at hv0
        have hv1 : vback n = -((n : Int) / 2 + 1) := by omega
        have HV := Lib.hid hv1
        have q1 : (n : Int) % 2 = 1 := by omega
        have qb : ((n : Int) % 2 == 1) = true := by simp; omega
        have HQ := Lib.hid h2
        clear hv0 hv1 h2 q1
        go_wp2
        all_goals
          go_ret
          first
            | (refine ⟨ret_int ?_, ?_, ho1.trans (set_only _ _ _ _)⟩
               · rw [HRR.out, if_neg (by simp), if_neg (fun hh => by have hh := (mayS_iff _ _).1 hh; rw [HV.out] at hh; omega)]; exact (show vback 0 = 0 from rfl).symm
               · rw [HRR.out, if_neg (by simp), if_neg (fun hh => by have hh := (mayS_iff _ _).1 hh; rw [HV.out] at hh; omega)]
                 exact H1.out.setBad 3)
            | (refine ⟨ret_int ?_, ?_, ho1.trans (set_only _ _ _ _)⟩
               · rw [HRR.out, if_neg (by simp), if_pos ((mayS_iff _ _).2 (by rw [HV.out]; omega))]
                 simp only
                 rw [HV.out]
               · rw [HRR.out, if_neg (by simp), if_pos ((mayS_iff _ _).2 (by rw [HV.out]; omega))]
                 exact H1.out.setPos (pos + k) (by omega))
    · have hf' : ((f : Int) != 0) = true := by simp; omega
      have HF := Lib.hid hf
      clear hf
      go_wp2
      go_ret
      refine ⟨ret_int ?_, ?_, ho1⟩
      · rw [HRR.out, if_pos HF.out]; exact (show vback 0 = 0 from rfl).symm
      · rw [HRR.out, if_pos HF.out]; exact H1.out
  · have hrr : rsig most l pos bad = (0, pos, bad) := by unfold rsig rraw; rw [if_pos hb]
    have HRR := Lib.hid hrr
    have HB := Lib.hid hb
    have c2 := h.c2
    have hb' : ((bad : Int) != 0) = true := by simp; omega
    clear hrr hb
    go_enter Try.func76, Try.ntmps76
    go_wp2_with fail
    refine (rraw_bad2 g _ l pos bad _ h HB.out).mono ?_
    rintro e w1 ⟨rfl, rfl⟩
    go_wp2
    go_ret
    refine ⟨ret_int ?_, ?_, Only.refl _ _⟩
    · rw [HRR.out]; exact (show vback 0 = 0 from rfl).symm
    · rw [HRR.out]; exact h

theorem rrdone_any (g : Nat) (y : Value) (l : List UInt8) (pos bad : Nat) (w : World) (h : RRd w g y l pos bad) : Calls Try.prog 77 #[.pointer (some ⟨g, 0, none⟩)] w fun e w' => e = .returned (.int .i64 (rdone l pos bad)) ∧ Below w.heap.size w w' := by
  obtain ⟨a, c, hs⟩ := h.src.shape
  subst hs
  have c0 := h.c0
  have c1 := h.c1
  have c2 := h.c2
  by_cases hb : bad = 0
  · subst hb
    obtain ⟨bb, hbb⟩ : ∃ b, decide (pos < l.length) = b := ⟨_, rfl⟩
    have HR : Hid (rdone l pos 0 = if bb then 13 else 0) := by
      show _ = _
      unfold rdone
      rw [← hbb]
      simp
    go_enter Try.func77, Try.ntmps77
    go_wp2_with fail
    go_quiet (fail)
    cases bb
    all_goals
      go_wp2
      go_ret
      exact ⟨ret_int (by rw [HR.out]; rfl), below_drewN (Below.refl _ _) _⟩
  · have hb' : ((bad : Int) == 0) = false := by simp; omega
    have HR : Hid (rdone l pos bad = bad) := by
      show _ = _
      unfold rdone
      rw [if_neg (by omega)]
    clear hb
    go_enter Try.func77, Try.ntmps77
    go_wp2_with fail
    go_quiet (fail)
    go_wp2
    go_ret
    exact ⟨ret_int (by rw [HR.out]), below_drewN (Below.refl _ _) _⟩

def RBytesPost (most : Int) (g : Nat) (y : Value) (l : List UInt8) (pos bad : Nat) (w : World) (e : Ending) (w' : World) : Prop :=
  ∃ v, e = .returned v ∧ Ob w' w.heap.size 5 v (rbytes most l pos bad).1 ∧ RRd w' g y l (rbytes most l pos bad).2.1 (rbytes most l pos bad).2.2 ∧ Only (fun k => k = g) w w'

end Go.Proofs.Ytjnbdeopoohnmaa
