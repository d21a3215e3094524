/- Walks of Put and Take of layer 6 (trace) and of its reference. -/
import Derived.Test.YtjnbdeopoohnmaaDoorSamp4
import Derived.Test.YtjnbdeopoohnmaaDoorSamp6
import Derived.Test.YtjnbdeopoohnmaaDoorFrameWhole
namespace Go.Proofs.YtjnbdeopoohnmaaDoor
open Go.RowKit Go.Sort

def tbytes (l : List Smp) : List UInt8 := fframe 1 (vput l.length ++ sputs szero l)

def TPutPost (l : List Smp) (w : World) (e : Ending) (w' : World) : Prop :=
  if 2048 < l.length then e = .returned (.tuple #[.slice none 0 0, .int .i64 3]) ∧ Below w.heap.size w w'
  else (SRight l ∧ ∃ v, e = .returned (.tuple #[v, .int .i64 0]) ∧ Ob w' w.heap.size 5 v (tbytes l) ∧ Below w.heap.size w w') ∨
    (¬ SRight l ∧ e = .returned (.tuple #[.slice none 0 0, .int .i64 2]) ∧ Below w.heap.size w w')

theorem sputs_bound {l : List Smp} (h : SRight l) (hl : ¬ 2048 < l.length) : (sputs szero l).length ≤ 61440 := by
  have h1 := sputs_len l szero (.inl rfl) (fun s hs => by
    obtain ⟨i, hi, rfl⟩ := List.getElem_of_mem hs
    exact (h i _ (List.getElem?_eq_getElem hi)).1)
  omega

set_option maxRecDepth 100000 in
set_option maxHeartbeats 800000 in
theorem tput_any (va : Value) (l : List Smp) (w : World) (ha : Ss w va l) : Calls Tryd.prog 26 #[va] w (TPutPost l w) := by
  obtain ⟨a, ca, hs⟩ := ha.shape
  subst hs
  by_cases hbig : 2048 < l.length
  · go_enter Tryd.func26, Tryd.ntmps26
    go_wp2_with fail
    refine (sput_any _ l _ ha).mono ?_
    rintro e w1 h1
    unfold SPutPost at h1
    rw [if_pos hbig] at h1
    obtain ⟨rfl, hb1⟩ := h1
    go_wp2
    go_ret2
    unfold TPutPost
    rw [if_pos hbig]
    exact ⟨rfl, hb1⟩
  · go_enter Tryd.func26, Tryd.ntmps26
    go_wp2_with fail
    refine (sput_any _ l _ ha).mono ?_
    rintro e w1 h1
    unfold SPutPost at h1
    rw [if_neg hbig] at h1
    rcases h1 with ⟨hR, v1, rfl, ho1, hb1⟩ | ⟨hR, rfl, hb1⟩
    · have hsl := sputs_bound hR hbig
      have hvl := vput_len10 l.length (by omega)
      have hwr : Wr (w1.alloc (.cells #[.slice none 0 0] 86)) w.heap.size w1.heap.size (.slice none 0 0) [] := ⟨hb1.size, heap_alloc_new w1 _, Ob.nil _ _ _⟩
      have hbl : Below w1.heap.size w1 (w1.alloc (.cells #[.slice none 0 0] 86)) := (Below.refl _ _).alloc (Nat.le_refl _) _
      have hw2 := hb1.trans (hbl.mono hb1.size)
      have hv1 := ho1.bs
      have hv1o := ho1.lt
      have HR := Lib.hid hR
      have HW := Lib.hid hwr
      have HV1 := Lib.hid (hv1.below hbl)
      have HV1O := Lib.hid hv1o
      clear hR hwr hv1 hv1o ho1
      go_wp2_with fail
      refine (wNumber_any l.length (by omega) (by omega) _ _ _ _ _ HW.out hw2.size (by simp)).mono ?_
      rintro e w3 ⟨rfl, v3, hwt⟩
      rw [show ((l.length : Int)).toNat = l.length by omega] at hwt
      have hw3 := hw2.trans (hwt.bel HW.out hw2.size)
      have hv3 := HV1.out.only hwt.only (fun j hj e => by
        have h1 := (HV1O.out j hj).2
        rcases e with rfl | e
        · omega
        · simp [Value.ownBlock] at e)
      have HWT := Lib.hid hwt
      clear hwt HV1
      go_wp2_with fail
      refine (wOut_any _ v3 _ w.heap.size w3 HWT.out.wr (by simp; omega)).mono ?_
      rintro e w4 ⟨v4, rfl, ho4, hb4⟩
      have hw4 := hw3.trans (hb4.mono hw3.size)
      have hv4 := hv3.below hb4
      have ho4' := ho4.mono (B' := w.heap.size) hw3.size
      have hg4 := hw4.size
      clear ho4 hv3
      go_wp2_with (at_builtin; go_must (refine wpList_append_bytes ho4' hv4 elB (by simp; omega) (by simp; omega) hg4 ?_ _ _ rfl rfl rfl rfl); intro v5 w5 ho5 hg5 hb5 _; have hw5 := hw4.trans hb5; have HO5 := Lib.hid ho5; clear ho5)
      refine (fput_any 1 1 (by decide) _ _ _ HO5.out.bs (by simp; omega)).mono ?_
      rintro e w6 ⟨v6, rfl, ho6, hb6⟩
      have hg5 := hw5.size
      go_wp2
      go_ret2
      unfold TPutPost
      rw [if_neg hbig]
      exact .inl ⟨HR.out, _, rfl, by simpa [tbytes] using ho6.mono hg5, hw5.trans (hb6.mono hg5)⟩
    · have HR := Lib.hid hR
      clear hR
      go_wp2
      go_ret2
      unfold TPutPost
      rw [if_neg hbig]
      exact .inr ⟨HR.out, rfl, hb1⟩

theorem fwhole_len (k : UInt8) (l : List UInt8) : (fwhole k l).1.length ≤ l.length := by
  have h : (ftake l).2.1.length ≤ l.length := by
    unfold ftake
    repeat' split
    all_goals simp
    all_goals omega
  unfold fwhole
  repeat' split
  all_goals simp
  exact h

def ttake (b : List UInt8) : List Smp × Nat :=
  if (fwhole 1 b).2 ≠ 0 then ([], (fwhole 1 b).2)
  else if (rnum 2048 (fwhole 1 b).1 0 0).2.2 ≠ 0 then ([], (rnum 2048 (fwhole 1 b).1 0 0).2.2)
  else if (stake ((fwhole 1 b).1.drop (rnum 2048 (fwhole 1 b).1 0 0).2.1) (rnum 2048 (fwhole 1 b).1 0 0).1).2.2 ≠ 0 then ([], (stake ((fwhole 1 b).1.drop (rnum 2048 (fwhole 1 b).1 0 0).2.1) (rnum 2048 (fwhole 1 b).1 0 0).1).2.2)
  else if (rnum 2048 (fwhole 1 b).1 0 0).2.1 + (stake ((fwhole 1 b).1.drop (rnum 2048 (fwhole 1 b).1 0 0).2.1) (rnum 2048 (fwhole 1 b).1 0 0).1).2.1 < (fwhole 1 b).1.length then ([], 13)
  else ((stake ((fwhole 1 b).1.drop (rnum 2048 (fwhole 1 b).1 0 0).2.1) (rnum 2048 (fwhole 1 b).1 0 0).1).1, 0)

theorem ttake_eq {b c : List UInt8} {f n p q u x : Nat} {out : List Smp} (h1 : fwhole 1 b = (c, f)) (h2 : rnum 2048 c 0 0 = (n, p, q)) (h3 : stake (c.drop p) n = (out, u, x)) :
    ttake b = if f ≠ 0 then ([], f) else if q ≠ 0 then ([], q) else if x ≠ 0 then ([], x) else if p + u < c.length then ([], 13) else (out, 0) := by
  unfold ttake
  simp only [h1, h2, h3]

def TTakePost (b : List UInt8) (w : World) (e : Ending) (w' : World) : Prop :=
  ∃ v, e = .returned (.tuple #[v, .int .i64 ((ttake b).2 : Int)]) ∧ Ss w' v (ttake b).1 ∧ Below w.heap.size w w'

end Go.Proofs.YtjnbdeopoohnmaaDoor
