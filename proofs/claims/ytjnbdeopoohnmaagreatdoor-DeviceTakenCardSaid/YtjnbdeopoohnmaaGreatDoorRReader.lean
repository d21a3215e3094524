/- RReader: RReader, RReader2 as one text. -/
import Derived.Test.YtjnbdeopoohnmaaGreatDoorRspec
import Derived.Test.YtjnbdeopoohnmaaGreatDoorBase
import Derived.Test.YtjnbdeopoohnmaaGreatDoorFrameWhole
import Derived.Lib.QuietBelow
import Derived.Deep.RegionHeld3
/- Walks of the reference's reader of layer 3 (field). -/
namespace Go.Proofs.YtjnbdeopoohnmaaGreatDoor
open Go.RowKit Go.Sort

/-- block g is a reader of the reference's of the bytes l (the slice y), at pos, bad -/
structure RRd (w : World) (g : Nat) (y : Value) (l : List UInt8) (pos bad : Nat) : Prop where
  cell : w.heap[g]? = some (.cells #[y, .int .i64 pos, .int .i64 bad] 129 (0, 0))
  src : Bs w y l
  le : pos ≤ l.length
  apart : l ≠ [] → y.ownBlock ≠ some g


section
variable {w w' : World} {g : Nat} {y : Value} {l : List UInt8} {pos bad : Nat}
theorem RRd.lt (h : RRd w g y l pos bad) : g < w.heap.size := heap_lt h.cell
theorem RRd.below (h : RRd w g y l pos bad) (hb : Below w.heap.size w w') : RRd w' g y l pos bad := ⟨(hb.block g h.lt).trans h.cell, h.src.below hb, h.le, h.apart⟩
theorem RRd.only {F : Nat → Prop} (h : RRd w g y l pos bad) (ho : Only F w w') (hg : ¬ F g) (hy : l ≠ [] → ∀ k, y.ownBlock = some k → ¬ F k) : RRd w' g y l pos bad :=
  ⟨(ho.block g h.lt hg).trans h.cell, h.src.only' ho hy, h.le, h.apart⟩
theorem RRd.drew' (h : RRd w g y l pos bad) : RRd w.drew g y l pos bad := h.below (Below.refl _ _).drew
theorem RRd.c0 (h : RRd w g y l pos bad) : w.cell? ⟨g, 0, none⟩ = some y := cell_of_row w g 0 _ _ _ h.cell
theorem RRd.c1 (h : RRd w g y l pos bad) : w.cell? ⟨g, 1, none⟩ = some (.int .i64 pos) := cell_of_row w g 1 _ _ _ h.cell
theorem RRd.c2 (h : RRd w g y l pos bad) : w.cell? ⟨g, 2, none⟩ = some (.int .i64 bad) := cell_of_row w g 2 _ _ _ h.cell
theorem RRd.f1 (h : RRd w g y l pos bad) : w.frozen? ⟨g, 1, none⟩ = false := row_free h.cell 1
theorem RRd.f2 (h : RRd w g y l pos bad) : w.frozen? ⟨g, 2, none⟩ = false := row_free h.cell 2
theorem RRd.setBad (h : RRd w g y l pos bad) (b : Nat) : RRd (w.setCell ⟨g, 2, none⟩ (.int .i64 b)) g y l pos b :=
  ⟨row_setCell h.cell 2 _, h.src.only' (setCell_only w ⟨g, 2, none⟩ _) (fun hl k hk e => h.apart hl (by rw [hk, e])), h.le, h.apart⟩
theorem RRd.setPos (h : RRd w g y l pos bad) (p : Nat) (hp : p ≤ l.length) : RRd (w.setCell ⟨g, 1, none⟩ (.int .i64 p)) g y l p bad :=
  ⟨row_setCell h.cell 1 _, h.src.only' (setCell_only w ⟨g, 1, none⟩ _) (fun hl k hk e => h.apart hl (by rw [hk, e])), hp, h.apart⟩
end

theorem rread_any (y : Value) (l : List UInt8) (w : World) (hy : Bs w y l) :
    Calls Tryz.prog 51 #[y] w fun e w' => e = .returned (.pointer (some ⟨w.heap.size, 0, none⟩)) ∧ RRd w' w.heap.size y l 0 0 ∧ Below w.heap.size w w' := by
  obtain ⟨a, c, hs⟩ := hy.shape
  subst hs
  go_enter Tryz.func51, Tryz.ntmps51
  go_wp2
  go_ret
  exact ⟨rfl, ⟨heap_alloc_new w _, hy.alloc _, by omega, fun hl e => by have := hy.lt hl _ e; omega⟩, (Below.refl _ _).alloc (Nat.le_refl _) _⟩

def RRawPost (g : Nat) (y : Value) (l : List UInt8) (pos : Nat) (w : World) (e : Ending) (w' : World) : Prop :=
  e = .returned (.tuple #[.int .u64 ((vtake (l.drop pos)).1 : Int), .int .i64 ((vtake (l.drop pos)).2.1 : Int)]) ∧ RRd w' g y l pos (vtake (l.drop pos)).2.2 ∧ Only (fun k => k = g) w w'

set_option maxRecDepth 100000 in
set_option maxHeartbeats 800000 in
theorem rraw_zero (g : Nat) (y : Value) (l : List UInt8) (pos : Nat) (w : World) (h : RRd w g y l pos 0) : Calls Tryz.prog 87 #[.pointer (some ⟨g, 0, none⟩)] w (RRawPost g y l pos w) := by
  have hle := h.le
  obtain ⟨a, ca, hs⟩ := h.src.shape
  subst hs
  obtain ⟨Y, hY, hYb⟩ := Bs.from (P := Tryz.prog) elB h.src pos h.le
  have hlen := h.src.len_eq
  have htk := fun w hb => rtake_any Y (l.drop pos) w hb
  unfold RRawPost
  obtain ⟨n, k, f, hv⟩ : ∃ n k f, vtake (l.drop pos) = (n, k, f) := ⟨_, _, _, rfl⟩
  rw [hv] at htk ⊢
  simp only at htk ⊢
  have HYB := Lib.hid hYb
  have HTK := Lib.hid htk
  clear hYb hv htk
  have q2 := h.c2
  have c0 := fun d os => cell_regrown h.c0 d os
  have c1 := fun d os => cell_regrown h.c1 d os
  have hg := h.lt
  go_enter Tryz.func87, Tryz.ntmps87
  go_wp2_with fail
  refine wp_region_quiet_below (by kernel_rfl) (by kernel_rfl) ?_
  repeat (go_big_quiet_step ((go_at_call 107; exact Calls.regrown_of (HTK.out _ (HYB.out.below (below_regrown _ _ _))))))
  refine wpQuiet_nil ?_
  intro _ hw'
  obtain ⟨⟨dq, osq⟩, hw''⟩ := hw'
  subst hw''
  have hb2 := below_regrown w dq osq
  obtain ⟨w2, hwq⟩ : ∃ x, x = grow (redrawn w dq) osq := ⟨_, rfl⟩
  rw [← hwq] at hb2 ⊢
  clear hwq
  have h2 := h.below hb2
  clear c0 c1 hY HTK q2
  have d2 := h2.c2
  have e2 := h2.f2
  have H2 := Lib.hid h2
  clear h2
  by_cases hf : f = 0
  · subst hf
    go_wp2
    go_ret2
    exact ⟨rfl, H2.out, Only.of_below hb2⟩
  · have hf' : ((f : Int) != 0) = true := by simp; omega
    clear hf
    go_wp2
    go_ret2
    exact ⟨rfl, H2.out.setBad f, (Only.of_below hb2).trans (set_only _ _ _ _)⟩

theorem rraw_bad2 (g : Nat) (y : Value) (l : List UInt8) (pos bad : Nat) (w : World) (h : RRd w g y l pos bad) (hb : bad ≠ 0) : Calls Tryz.prog 87 #[.pointer (some ⟨g, 0, none⟩)] w fun e w' => e = .returned (.tuple #[.int .u64 0, .int .i64 0]) ∧ w = w' := by
  have c2 := h.c2
  have hb' : ((bad : Int) != 0) = true := by simp; omega
  clear h hb
  go_enter Tryz.func87, Tryz.ntmps87
  go_wp2
  go_ret2
  exact ⟨rfl, rfl⟩

def RNumPost (most : Int) (g : Nat) (y : Value) (l : List UInt8) (pos bad : Nat) (w : World) (e : Ending) (w' : World) : Prop :=
  e = .returned (.int .i64 ((rnum most l pos bad).1 : Int)) ∧ RRd w' g y l (rnum most l pos bad).2.1 (rnum most l pos bad).2.2 ∧ Only (fun k => k = g) w w'
def RSigPost (most : Int) (g : Nat) (y : Value) (l : List UInt8) (pos bad : Nat) (w : World) (e : Ending) (w' : World) : Prop :=
  e = .returned (.int .i64 (vback (rsig most l pos bad).1)) ∧ RRd w' g y l (rsig most l pos bad).2.1 (rsig most l pos bad).2.2 ∧ Only (fun k => k = g) w w'

set_option maxRecDepth 100000 in
set_option maxHeartbeats 800000 in
theorem rrnumber_rd (most : Int) (hmost : -9223372036854775808 ≤ most ∧ most ≤ 9223372036854775807) (g : Nat) (y : Value) (l : List UInt8) (pos bad : Nat) (w : World) (h : RRd w g y l pos bad) :
    Calls Tryz.prog 52 #[.pointer (some ⟨g, 0, none⟩), .int .i64 most] w (RNumPost most g y l pos bad w) := by
  by_cases hb : bad = 0
  · subst hb
    have hle := h.le
    have hlen : l.length ≤ 9223372036854775807 := by
      obtain ⟨a, ca, hs⟩ := h.src.shape
      have := h.src
      rw [hs] at this
      have := this.len_eq
      omega
    have hraw := rraw_zero g y l pos w h
    have hvb := vtake_bad (l.drop pos)
    have hvg := vtake_good (l.drop pos)
    have hrr : rnum most l pos 0 = if (vtake (l.drop pos)).2.2 ≠ 0 then (0, pos, (vtake (l.drop pos)).2.2) else if mayN most (vtake (l.drop pos)).1 then ((vtake (l.drop pos)).1, pos + (vtake (l.drop pos)).2.1, 0) else (0, pos, 3) := by
      unfold rnum rraw
      rw [if_neg (by simp)]
    unfold RRawPost at hraw
    obtain ⟨n, k, f, hv⟩ : ∃ n k f, vtake (l.drop pos) = (n, k, f) := ⟨_, _, _, rfl⟩
    rw [hv] at hraw hvb hvg hrr
    simp only at hraw hvb hvg hrr
    have HRR := Lib.hid hrr
    have HRAW := Lib.hid hraw
    have HVG := Lib.hid hvg
    clear hrr hraw hvb hvg hv h
    go_enter Tryz.func52, Tryz.ntmps52
    go_wp2_with fail
    refine HRAW.out.mono ?_
    rintro e w1 ⟨rfl, h1, ho1⟩
    have c1 := h1.c1
    have c2 := h1.c2
    have f1 := h1.f1
    have f2 := h1.f2
    have H1 := Lib.hid h1
    clear h1 HRAW
    by_cases hf : f = 0
    · subst hf
      obtain ⟨hn, hk1, hk2, -⟩ := HVG.out rfl
      simp only [List.length_drop] at hk1 hk2
      go_wp2
      all_goals
        go_ret
        first
          | (refine ⟨ret_int ?_, ?_, ho1.trans (set_only _ _ _ _)⟩
             · rw [HRR.out, if_neg (by simp), if_neg (by unfold mayN; simp; omega)]; rfl
             · rw [HRR.out, if_neg (by simp), if_neg (by unfold mayN; simp; omega)]
               exact H1.out.setBad 3)
          | (refine ⟨ret_int ?_, ?_, ho1.trans (set_only _ _ _ _)⟩
             · rw [HRR.out, if_neg (by simp), if_pos (by unfold mayN; simp; omega)]
             · rw [HRR.out, if_neg (by simp), if_pos (by unfold mayN; simp; omega)]
               exact H1.out.setPos (pos + k) (by omega))
    · have hf' : ((f : Int) != 0) = true := by simp; omega
      have HF := Lib.hid hf
      clear hf
      go_wp2
      go_ret
      refine ⟨ret_int ?_, ?_, ho1⟩
      · rw [HRR.out, if_pos HF.out]; rfl
      · rw [HRR.out, if_pos HF.out]; exact H1.out
  · have hrr : rnum most l pos bad = (0, pos, bad) := by unfold rnum rraw; rw [if_pos hb]
    have HRR := Lib.hid hrr
    have HB := Lib.hid hb
    have c2 := h.c2
    have hb' : ((bad : Int) != 0) = true := by simp; omega
    clear hrr hb
    go_enter Tryz.func52, Tryz.ntmps52
    go_wp2_with fail
    refine (rraw_bad2 g _ l pos bad _ h HB.out).mono ?_
    rintro e w1 ⟨rfl, rfl⟩
    go_wp2
    go_ret
    refine ⟨ret_int ?_, ?_, Only.refl _ _⟩
    · rw [HRR.out]; rfl
    · rw [HRR.out]; exact h

end Go.Proofs.YtjnbdeopoohnmaaGreatDoor
/- Walks of the reference's reader of layer 3 (field): signed numbers, bytes, the end. -/
namespace Go.Proofs.YtjnbdeopoohnmaaGreatDoor
open Go.RowKit Go.Sort

theorem rrdone_any (g : Nat) (y : Value) (l : List UInt8) (pos bad : Nat) (w : World) (h : RRd w g y l pos bad) : Calls Tryz.prog 54 #[.pointer (some ⟨g, 0, none⟩)] w fun e w' => e = .returned (.int .i64 (rdone l pos bad)) ∧ Below w.heap.size w w' := by
  obtain ⟨a, c, hs⟩ := h.src.shape
  subst hs
  have c0 := h.c0
  have c1 := h.c1
  have c2 := h.c2
  by_cases hb : bad = 0
  · subst hb
    obtain ⟨bb, hbb⟩ : ∃ b, decide (pos < l.length) = b := ⟨_, rfl⟩
    have HR : Hid (rdone l pos 0 = if bb then 13 else 0) := by
      show _ = _
      unfold rdone
      rw [← hbb]
      simp
    go_enter Tryz.func54, Tryz.ntmps54
    go_wp2_with fail
    go_quiet (fail)
    cases bb
    all_goals
      go_wp2
      go_ret
      exact ⟨ret_int (by rw [HR.out]; rfl), below_drewN (Below.refl _ _) _⟩
  · have hb' : ((bad : Int) == 0) = false := by simp; omega
    have HR : Hid (rdone l pos bad = bad) := by
      show _ = _
      unfold rdone
      rw [if_neg (by omega)]
    clear hb
    go_enter Tryz.func54, Tryz.ntmps54
    go_wp2_with fail
    go_quiet (fail)
    go_wp2
    go_ret
    exact ⟨ret_int (by rw [HR.out]), below_drewN (Below.refl _ _) _⟩

def RBytesPost (most : Int) (g : Nat) (y : Value) (l : List UInt8) (pos bad : Nat) (w : World) (e : Ending) (w' : World) : Prop :=
  ∃ v, e = .returned v ∧ Ob w' w.heap.size 5 v (rbytes most l pos bad).1 ∧ RRd w' g y l (rbytes most l pos bad).2.1 (rbytes most l pos bad).2.2 ∧ Only (fun k => k = g) w w'

set_option maxRecDepth 100000 in
set_option maxHeartbeats 800000 in
theorem rrbytes_rd (most : Int) (hmost : -9223372036854775808 ≤ most ∧ most ≤ 9223372036854775807) (g : Nat) (y : Value) (l : List UInt8) (pos bad : Nat) (w : World) (h : RRd w g y l pos bad) (hlen : l.length ≤ 140737488355328) :
    Calls Tryz.prog 53 #[.pointer (some ⟨g, 0, none⟩), .int .i64 most] w (RBytesPost most g y l pos bad w) := by
  obtain ⟨a, c, hs⟩ := h.src.shape
  subst hs
  have hm := rnum_most most l pos bad
  have hle := (rraw_le (mayN most) l pos bad h.le).1
  obtain ⟨n, p, b, hv⟩ : ∃ n p b, rnum most l pos bad = (n, p, b) := ⟨_, _, _, rfl⟩
  have hR := rrnumber_rd most hmost g _ l pos bad w h
  have hRB : rbytes most l pos bad = if b ≠ 0 then ([], p, b) else if l.length - p < n then ([], p, 10) else ((l.drop p).take n, p + n, 0) := by
    unfold rbytes
    rw [hv]
  have hle' : p ≤ l.length := by unfold rnum at hv; rw [hv] at hle; exact hle
  rw [hv] at hm
  unfold RNumPost at hR
  rw [hv] at hR
  simp only at hm hR
  have HRB := Lib.hid hRB
  have HRR := Lib.hid hR
  have hm1 := hm.1
  clear hRB hR hv hle hm
  go_enter Tryz.func53, Tryz.ntmps53
  go_wp2_with fail
  refine HRR.out.mono ?_
  rintro e w1 ⟨rfl, h1, ho1⟩
  have c2 := h1.c2
  by_cases hb : b = 0
  · subst hb
    have c0 := h1.c0
    have c1 := h1.c1
    have ee : IntKind.i64.wrap ((l.length : Int) - p) = (l.length : Int) - p := IntWalk.i64_in _ (by omega)
    by_cases hn : l.length - p < n
    · have hd : decide ((l.length : Int) - p < n) = true := by simp; omega
      have HN := Lib.hid hn
      have e2 := h1.f2
      have H1 := Lib.hid h1
      clear hn h1
      go_wp2_with fail
      go_quiet (fail)
      go_wp2
      go_ret
      refine ⟨_, rfl, ?_, ?_, ?_⟩
      · rw [HRB.out, if_neg (by simp), if_pos HN.out]; exact Ob.nil _ _ _
      · rw [HRB.out, if_neg (by simp), if_pos HN.out]
        exact (H1.out.setBad 10).below (below_drewN (Below.refl _ _) _)
      · exact only_drewN (ho1.trans (set_only _ _ _ _)) _
    · have hd : decide ((l.length : Int) - p < n) = false := by simp; omega
      have HN := Lib.hid hn
      have hpn : p + n ≤ l.length := by omega
      have H1 := Lib.hid h1
      clear hn h1
      go_wp2_with fail
      go_quiet (fail)
      go_wp2_with fail
      obtain ⟨W2, hW2⟩ : ∃ W2, w1.drewN nq = W2 := ⟨_, rfl⟩
      rw [hW2]
      have hr2 : RRd W2 g (.slice a l.length c) l p 0 := by
        rw [← hW2]
        exact H1.out.below (below_drewN (Below.refl _ _) _)
      have hoo : Only (fun k => k = g) w W2 := by
        rw [← hW2]
        exact only_drewN ho1 _
      clear hW2 c0 c1 c2 ee hd
      obtain ⟨q, hq⟩ : ∃ q, q = p + n := ⟨_, rfl⟩
      rw [← hq] at hpn
      obtain ⟨Y, hY, hYb⟩ := Bs.piece (P := Tryz.prog) elB hr2.src p q (by omega) hpn
      rw [show q - p = n by omega] at hYb
      have c0 := hr2.c0
      have c1 := hr2.c1
      have e1 := hr2.f1
      have hg := hr2.lt
      have ee : IntKind.i64.wrap ((p : Int) + n) = (q : Int) := by rw [show (p : Int) + n = (q : Int) by omega]; exact IntWalk.i64_in _ (by omega)
      have e3 : (p : Int) + n = (q : Int) := by omega
      have E3 := Lib.hid e3
      have HQ := Lib.hid hq
      have HR2 := Lib.hid hr2
      have HYB := Lib.hid hYb
      have hpl : ((l.drop p).take n).length ≤ 140737488355328 := by simp; omega
      have hgs := hoo.size
      clear hr2 hYb hq e3
      go_region_held3 (fun w' => w'.cell? ⟨g, 0, none⟩ = some (.slice a l.length c) ∧ w'.cell? ⟨g, 1, none⟩ = some (.int .i64 (p : Int)))
        (first | go_keep | exact ⟨(HR2.out.drew'.below hb4).c0, (HR2.out.drew'.below hb4).c1⟩)
        (first | (refine step_append_bytes_mv (Ob.nil W2.drew w.heap.size 5) HYB.out.drew elB (by simp; omega) (by simp; omega) (by simpa using hgs) ?_ _ _ rfl rfl rfl rfl; intro v4 w4 ho4 hg4 _; have hb4 : Below W2.drew.heap.size W2.drew w4 := (Below.refl _ _).grown hg4 (Nat.le_refl _) (by simp [Value.ownBlock])))
      have hr4 := HR2.out.drew'.below hb4
      have d1 := hr4.c1
      have f1 := hr4.f1
      have HO4 := Lib.hid ho4
      have HR4 := Lib.hid hr4
      clear ho4 hr4 c0 c1 ee e1
      go_wp2
      rw [E3.out]
      go_ret
      refine ⟨_, rfl, ?_, ?_, ?_⟩
      · rw [HRB.out, if_neg (by simp), if_neg HN.out]
        have := HO4.out.only (set_only w4 g 1 (.int .i64 (q : Int))) (fun k hk e => HO4.out.ne HR4.out.cell (by decide) (by rw [hk, e]))
        simpa using this
      · rw [HRB.out, if_neg (by simp), if_neg HN.out]
        rw [← HQ.out]
        exact HR4.out.setPos q hpn
      · exact ((only_drew hoo).trans' (Only.of_below (F := fun _ => False) hb4) (fun _ h => h.elim)).trans (set_only _ _ _ _)
  · have hb' : ((b : Int) != 0) = true := by simp; omega
    have HB := Lib.hid hb
    clear hb
    go_wp2
    go_ret
    refine ⟨_, rfl, ?_, ?_, ho1⟩
    · rw [HRB.out, if_pos HB.out]; exact Ob.nil _ _ _
    · rw [HRB.out, if_pos HB.out]; exact h1

end Go.Proofs.YtjnbdeopoohnmaaGreatDoor
