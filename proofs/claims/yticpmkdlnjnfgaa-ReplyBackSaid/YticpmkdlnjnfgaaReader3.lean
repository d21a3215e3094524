/- Walks of the reader of layer 3 (field): numbers, bytes, errors. -/
import Derived.Test.YticpmkdlnjnfgaaReader2
import Derived.Deep.RegionHeld3
namespace Go.Proofs.Yticpmkdlnjnfgaa
open Go.RowKit Go.Sort

def NumPost (most : Int) (g : Nat) (y : Value) (l : List UInt8) (pos bad : Nat) (w : World) (e : Ending) (w' : World) : Prop :=
  e = .returned (.int .i64 ((rnum most l pos bad).1 : Int)) ∧ Rdr w' g y l (rnum most l pos bad).2.1 (rnum most l pos bad).2.2 ∧ Only (fun k => k = g) w w'
def SigPost (most : Int) (g : Nat) (y : Value) (l : List UInt8) (pos bad : Nat) (w : World) (e : Ending) (w' : World) : Prop :=
  e = .returned (.int .i64 (vback (rsig most l pos bad).1)) ∧ Rdr w' g y l (rsig most l pos bad).2.1 (rsig most l pos bad).2.2 ∧ Only (fun k => k = g) w w'

theorem rnumber_rd (most : Int) (g : Nat) (y : Value) (l : List UInt8) (pos bad : Nat) (w : World) (h : Rdr w g y l pos bad) :
    Calls Try.prog 61 #[.pointer (some ⟨g, 0, none⟩), .int .i64 most] w (NumPost most g y l pos bad w) := by
  have hlt := h.lt
  have hb : Below w.heap.size w (w.alloc (.cells #[.int .i64 most] 3)) := (Below.refl _ _).alloc (Nat.le_refl _) _
  have hc : (w.alloc (.cells #[.int .i64 most] 3)).cell? ⟨w.heap.size, 0, none⟩ = some (.int .i64 most) := cell_of_row _ _ 0 _ _ _ (heap_alloc_new w _)
  have hr := Lib.hid (raw_number most w.heap.size g y l pos bad _ (h.below hb) hc (by simp))
  have hm := (rnum_most most l pos bad).1
  clear hc
  go_enter Try.func61, Try.ntmps61
  go_wp2_with fail
  refine hr.out.mono ?_
  rintro e w2 ⟨n, b, rfl, hn, hbb, h2, ho⟩
  have HN := Lib.hid hn
  have HBB := Lib.hid hbb
  have hn1 : 0 ≤ n ∧ n ≤ 4611686018427387904 := by unfold rnum at hm; omega
  clear hn hbb hr
  go_wp2
  go_ret
  exact ⟨ret_int HN.out, h2, (Only.of_below hb).trans ho⟩

theorem rsigned_rd (most : Int) (g : Nat) (y : Value) (l : List UInt8) (pos bad : Nat) (w : World) (h : Rdr w g y l pos bad) :
    Calls Try.prog 62 #[.pointer (some ⟨g, 0, none⟩), .int .i64 most] w (SigPost most g y l pos bad w) := by
  have hlt := h.lt
  have hb : Below w.heap.size w (w.alloc (.cells #[.int .i64 most] 3)) := (Below.refl _ _).alloc (Nat.le_refl _) _
  have hc : (w.alloc (.cells #[.int .i64 most] 3)).cell? ⟨w.heap.size, 0, none⟩ = some (.int .i64 most) := cell_of_row _ _ 0 _ _ _ (heap_alloc_new w _)
  have hr := Lib.hid (raw_signed most w.heap.size g y l pos bad _ (h.below hb) hc (by simp))
  have hm := (rraw_le (mayS most) l pos bad h.le).2
  clear hc
  go_enter Try.func62, Try.ntmps62
  go_wp2_with fail
  refine hr.out.mono ?_
  rintro e w2 ⟨n, b, rfl, hn, hbb, h2, ho⟩
  have HN := Lib.hid hn
  have HBB := Lib.hid hbb
  have hn1 : 0 ≤ n ∧ n < 18446744073709551616 := by omega
  clear hn hbb hr
  go_wp2_with fail
  refine (back_int n hn1 _).mono ?_
  rintro e w3 ⟨rfl, rfl⟩
  go_wp2
  go_ret
  refine ⟨ret_int ?_, h2, (Only.of_below hb).trans ho⟩
  unfold rsig
  rw [HN.out]
  simp

theorem rerror_any (g : Nat) (y : Value) (l : List UInt8) (pos bad : Nat) (w : World) (h : Rdr w g y l pos bad) : Calls Try.prog 63 #[.pointer (some ⟨g, 0, none⟩)] w fun e w' => e = .returned (.int .i64 bad) ∧ w = w' := by
  have c2 := h.c2
  have c3 := h.c3
  clear h
  go_enter Try.func63, Try.ntmps63
  go_wp2
  go_ret
  exact ⟨rfl, rfl⟩

theorem rerror_nil (w : World) : Calls Try.prog 63 #[.pointer none] w fun e w' => e = .returned (.int .i64 1) ∧ w = w' := by
  go_enter Try.func63, Try.ntmps63
  go_wp2
  go_ret
  exact ⟨rfl, rfl⟩

theorem rdone_any (g : Nat) (y : Value) (l : List UInt8) (pos bad : Nat) (w : World) (h : Rdr w g y l pos bad) : Calls Try.prog 75 #[.pointer (some ⟨g, 0, none⟩)] w fun e w' => e = .returned (.int .i64 (rdone l pos bad)) ∧ Below w.heap.size w w' := by
  obtain ⟨a, c, hs⟩ := h.src.shape
  subst hs
  have c0 := h.c0
  have c1 := h.c1
  by_cases hb : bad = 0
  · subst hb
    obtain ⟨bb, hbb⟩ : ∃ b, decide (pos < l.length) = b := ⟨_, rfl⟩
    have HR : Hid (rdone l pos 0 = if bb then 13 else 0) := by
      show _ = _
      unfold rdone
      rw [← hbb]
      simp
    go_enter Try.func75, Try.ntmps75
    go_wp2_with fail
    refine (rerror_any g _ l pos 0 _ h).mono ?_
    rintro e w1 ⟨rfl, rfl⟩
    go_wp2_with fail
    go_quiet (fail)
    cases bb
    all_goals
      go_wp2
      go_ret
      exact ⟨ret_int (by rw [HR.out]; rfl), below_drewN (Below.refl _ _) _⟩
  · have hb' : ((bad : Int) == 0) = false := by simp; omega
    have HR : Hid (rdone l pos bad = bad) := by
      show _ = _
      unfold rdone
      rw [if_neg (by omega)]
    clear hb
    go_enter Try.func75, Try.ntmps75
    go_wp2_with fail
    refine (rerror_any g _ l pos bad _ h).mono ?_
    rintro e w1 ⟨rfl, rfl⟩
    go_wp2_with fail
    go_quiet (fail)
    go_wp2
    go_ret
    exact ⟨ret_int (by rw [HR.out]), below_drewN (Below.refl _ _) _⟩

theorem rdone_nil (w : World) : Calls Try.prog 75 #[.pointer none] w fun e w' => e = .returned (.int .i64 1) ∧ Below w.heap.size w w' := by
  go_enter Try.func75, Try.ntmps75
  go_wp2_with fail
  refine (rerror_nil _).mono ?_
  rintro e w1 ⟨rfl, rfl⟩
  go_wp2_with fail
  go_quiet (fail)
  go_wp2
  go_ret
  exact ⟨rfl, below_drewN (Below.refl _ _) _⟩

def BytesPost (most : Int) (g : Nat) (y : Value) (l : List UInt8) (pos bad : Nat) (w : World) (e : Ending) (w' : World) : Prop :=
  ∃ v, e = .returned v ∧ Ob w' w.heap.size 5 v (rbytes most l pos bad).1 ∧ Rdr w' g y l (rbytes most l pos bad).2.1 (rbytes most l pos bad).2.2 ∧ Only (fun k => k = g) w w'

set_option maxRecDepth 100000 in
set_option maxHeartbeats 800000 in
theorem rbytes_rd (most : Int) (g : Nat) (y : Value) (l : List UInt8) (pos bad : Nat) (w : World) (h : Rdr w g y l pos bad) (hlen : l.length ≤ 140737488355328) :
    Calls Try.prog 74 #[.pointer (some ⟨g, 0, none⟩), .int .i64 most] w (BytesPost most g y l pos bad w) := by
  obtain ⟨a, c, hs⟩ := h.src.shape
  subst hs
  have hm := rnum_most most l pos bad
  have hle := (rraw_le (mayN most) l pos bad h.le).1
  have hrb : Hid (rbytes most l pos bad = _) := rfl
  obtain ⟨n, p, b, hv⟩ : ∃ n p b, rnum most l pos bad = (n, p, b) := ⟨_, _, _, rfl⟩
  have hR := rnumber_rd most g _ l pos bad w h
  have hRB : rbytes most l pos bad = if b ≠ 0 then ([], p, b) else if l.length - p < n then ([], p, 10) else ((l.drop p).take n, p + n, 0) := by
    unfold rbytes
    rw [hv]
  have hle' : p ≤ l.length := by unfold rnum at hv; rw [hv] at hle; exact hle
  rw [hv] at hm
  unfold NumPost at hR
  rw [hv] at hR
  simp only at hm hR
  have HRB := Lib.hid hRB
  have HRR := Lib.hid hR
  have hm1 := hm.1
  clear hRB hR hv hle hm hrb
  go_enter Try.func74, Try.ntmps74
  go_wp2_with fail
  refine HRR.out.mono ?_
  rintro e w1 ⟨rfl, h1, ho1⟩
  by_cases hb : b = 0
  · subst hb
    go_wp2_with fail
    refine (rok_yes g _ l p _ h1).mono ?_
    rintro e w2 ⟨rfl, rfl⟩
    have c0 := h1.c0
    have c1 := h1.c1
    have ee : IntKind.i64.wrap ((l.length : Int) - p) = (l.length : Int) - p := IntWalk.i64_in _ (by omega)
    by_cases hn : l.length - p < n
    · have hd : decide ((l.length : Int) - p < n) = true := by simp; omega
      have HN := Lib.hid hn
      have e2 := h1.f2
      have c2 := h1.c2
      have H1 := Lib.hid h1
      clear hn h1
      go_wp2_with fail
      go_quiet (fail)
      go_wp2
      go_ret
      refine ⟨_, rfl, ?_, ?_, ?_⟩
      · rw [HRB.out, if_neg (by simp), if_pos HN.out]; exact Ob.nil _ _ _
      · rw [HRB.out, if_neg (by simp), if_pos HN.out]
        exact (H1.out.setBad 10).below (below_drewN (Below.refl _ _) _)
      · exact only_drewN (ho1.trans (set_only _ _ _ _)) _
    · have hd : decide ((l.length : Int) - p < n) = false := by simp; omega
      have HN := Lib.hid hn
      have hpn : p + n ≤ l.length := by omega
      have e1 := h1.f1
      have ec : ((p : Int) + n) = ((p + n : Nat) : Int) := by omega
      have h2 := h1.setPos (p + n) hpn
      have d0 := h2.c0
      have d1 := h2.c1
      have H1 := Lib.hid h1
      have H2 := Lib.hid h2
      have EC := Lib.hid ec
      clear hn h1 h2 ec d0 d1
      go_wp2_with fail
      go_quiet (fail)
      go_wp2_with fail
      obtain ⟨W2, hW2⟩ : ∃ W2, (w1.drewN nq).setCell ⟨g, 1, none⟩ (.int .i64 ((p : Int) + n)) = W2 := ⟨_, rfl⟩
      rw [hW2]
      have hr2 : Rdr W2 g (.slice a l.length c) l (p + n) 0 := by
        rw [← hW2, EC.out]
        exact H2.out.below (below_drewN (Below.refl _ _) _)
      have hoo : Only (fun k => k = g) w W2 := by
        rw [← hW2]
        exact only_drewN (ho1.trans (set_only _ _ _ _)) _
      clear hW2 c0 c1 ee e1 hd EC
      obtain ⟨q, hq⟩ : ∃ q, q = p + n := ⟨_, rfl⟩
      rw [← hq] at hr2 hpn
      obtain ⟨Y, hY, hYb⟩ := Bs.piece (P := Try.prog) elB hr2.src p q (by omega) hpn
      rw [show q - p = n by omega] at hYb
      have c0 := hr2.c0
      have c1 := hr2.c1
      have hg := hr2.lt
      have ee : IntKind.i64.wrap ((q : Int) - n) = (p : Int) := by rw [show (q : Int) - n = (p : Int) by omega]; exact IntWalk.i64_in _ (by omega)
      have HQ := Lib.hid hq
      clear hq
      have HR2 := Lib.hid hr2
      have HYB := Lib.hid hYb
      have hpl : ((l.drop p).take n).length ≤ 140737488355328 := by simp; omega
      clear hr2 hYb
      go_region_held3 (fun w' => w'.cell? ⟨g, 0, none⟩ = some (.slice a l.length c) ∧ w'.cell? ⟨g, 1, none⟩ = some (.int .i64 (q : Int)))
        (first | go_keep | exact ⟨(HR2.out.drew'.below hb3).c0, (HR2.out.drew'.below hb3).c1⟩)
        (first | (go_at_call 97; refine (clone_any _ _ _ HYB.out.drew hpl).mono ?_; rintro e w3 ⟨v3, rfl, ho3, hb3⟩))
      have HO3 := Lib.hid ho3
      clear ho3 c0 c1 ee
      go_wp2
      go_ret
      refine ⟨_, rfl, ?_, ?_, ?_⟩
      · rw [HRB.out, if_neg (by simp), if_neg HN.out]
        exact HO3.out.mono hoo.size
      · rw [HRB.out, if_neg (by simp), if_neg HN.out]
        rw [← HQ.out]
        exact HR2.out.drew'.below hb3
      · exact (only_drew hoo).trans' (Only.of_below (F := fun _ => False) hb3) (fun _ h => h.elim)
  · have HB := Lib.hid hb
    clear hb
    go_wp2_with fail
    refine (rok_no g _ l p b _ h1 HB.out).mono ?_
    rintro e w2 ⟨rfl, rfl⟩
    go_wp2
    go_ret
    refine ⟨_, rfl, ?_, ?_, ho1⟩
    · rw [HRB.out, if_pos HB.out]; exact Ob.nil _ _ _
    · rw [HRB.out, if_pos HB.out]; exact h1

end Go.Proofs.Yticpmkdlnjnfgaa
