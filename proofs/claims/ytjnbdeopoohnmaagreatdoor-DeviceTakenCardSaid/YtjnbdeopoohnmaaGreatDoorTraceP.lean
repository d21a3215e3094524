/- Walks of Put and Take of layer 6 (trace) and of its reference. -/
import Derived.Test.YtjnbdeopoohnmaaGreatDoorSamp4
import Derived.Test.YtjnbdeopoohnmaaGreatDoorSamp6
import Derived.Test.YtjnbdeopoohnmaaGreatDoorFrameWhole
namespace Go.Proofs.YtjnbdeopoohnmaaGreatDoor
open Go.RowKit Go.Sort

def tbytes (l : List Smp) : List UInt8 := fframe 1 (vput l.length ++ sputs szero l)

def TPutPost (l : List Smp) (w : World) (e : Ending) (w' : World) : Prop :=
  if 2048 < l.length then e = .returned (.tuple #[.slice none 0 0, .int .i64 3]) ∧ Below w.heap.size w w'
  else (SRight l ∧ ∃ v, e = .returned (.tuple #[v, .int .i64 0]) ∧ Ob w' w.heap.size 5 v (tbytes l) ∧ Below w.heap.size w w') ∨
    (¬ SRight l ∧ e = .returned (.tuple #[.slice none 0 0, .int .i64 2]) ∧ Below w.heap.size w w')

theorem sputs_bound {l : List Smp} (h : SRight l) (hl : ¬ 2048 < l.length) : (sputs szero l).length ≤ 61440 := by
  have h1 := sputs_len l szero (.inl rfl) (fun s hs => by
    obtain ⟨i, hi, rfl⟩ := List.getElem_of_mem hs
    exact (h i _ (List.getElem?_eq_getElem hi)).1)
  omega

set_option maxRecDepth 100000 in
set_option maxHeartbeats 800000 in
theorem tput_any (va : Value) (l : List Smp) (w : World) (ha : Ss w va l) : Calls Tryz.prog 31 #[va] w (TPutPost l w) := by
  obtain ⟨a, ca, hs⟩ := ha.shape
  subst hs
  by_cases hbig : 2048 < l.length
  · go_enter Tryz.func31, Tryz.ntmps31
    go_wp2_with fail
    refine (sput_any _ l _ ha).mono ?_
    rintro e w1 h1
    unfold SPutPost at h1
    rw [if_pos hbig] at h1
    obtain ⟨rfl, hb1⟩ := h1
    go_wp2
    go_ret2
    unfold TPutPost
    rw [if_pos hbig]
    exact ⟨rfl, hb1⟩
  · go_enter Tryz.func31, Tryz.ntmps31
    go_wp2_with fail
    refine (sput_any _ l _ ha).mono ?_
    rintro e w1 h1
    unfold SPutPost at h1
    rw [if_neg hbig] at h1
    rcases h1 with ⟨hR, v1, rfl, ho1, hb1⟩ | ⟨hR, rfl, hb1⟩
    · have hsl := sputs_bound hR hbig
      have hvl := vput_len10 l.length (by omega)
      have hwr : Wr (w1.alloc (.cells #[.slice none 0 0] 93)) w.heap.size w1.heap.size (.slice none 0 0) [] := ⟨hb1.size, heap_alloc_new w1 _, Ob.nil _ _ _⟩
      have hbl : Below w1.heap.size w1 (w1.alloc (.cells #[.slice none 0 0] 93)) := (Below.refl _ _).alloc (Nat.le_refl _) _
      have hw2 := hb1.trans (hbl.mono hb1.size)
      have hv1 := ho1.bs
      have hv1o := ho1.lt
      have HR := Lib.hid hR
      have HW := Lib.hid hwr
      have HV1 := Lib.hid (hv1.below hbl)
      have HV1O := Lib.hid hv1o
      clear hR hwr hv1 hv1o ho1
      go_wp2_with fail
      refine (wNumber_any l.length (by omega) (by omega) _ _ _ _ _ HW.out hw2.size (by simp)).mono ?_
      rintro e w3 ⟨rfl, v3, hwt⟩
      rw [show ((l.length : Int)).toNat = l.length by omega] at hwt
      have hw3 := hw2.trans (hwt.bel HW.out hw2.size)
      have hv3 := HV1.out.only hwt.only (fun j hj e => by
        have h1 := (HV1O.out j hj).2
        rcases e with rfl | e
        · omega
        · simp [Value.ownBlock] at e)
      have HWT := Lib.hid hwt
      clear hwt HV1
      go_wp2_with fail
      refine (wOut_any _ v3 _ w.heap.size w3 HWT.out.wr (by simp; omega)).mono ?_
      rintro e w4 ⟨v4, rfl, ho4, hb4⟩
      have hw4 := hw3.trans (hb4.mono hw3.size)
      have hv4 := hv3.below hb4
      have ho4' := ho4.mono (B' := w.heap.size) hw3.size
      have hg4 := hw4.size
      clear ho4 hv3
      go_wp2_with (at_builtin; go_must (refine wpList_append_bytes ho4' hv4 elB (by simp; omega) (by simp; omega) hg4 ?_ _ _ rfl rfl rfl rfl); intro v5 w5 ho5 hg5 hb5 _; have hw5 := hw4.trans hb5; have HO5 := Lib.hid ho5; clear ho5)
      refine (fput_any 1 1 (by decide) _ _ _ HO5.out.bs (by simp; omega)).mono ?_
      rintro e w6 ⟨v6, rfl, ho6, hb6⟩
      have hg5 := hw5.size
      go_wp2
      go_ret2
      unfold TPutPost
      rw [if_neg hbig]
      exact .inl ⟨HR.out, _, rfl, by simpa [tbytes] using ho6.mono hg5, hw5.trans (hb6.mono hg5)⟩
    · have HR := Lib.hid hR
      clear hR
      go_wp2
      go_ret2
      unfold TPutPost
      rw [if_neg hbig]
      exact .inr ⟨HR.out, rfl, hb1⟩

set_option maxRecDepth 100000 in
set_option maxHeartbeats 800000 in
theorem rtput_any (va : Value) (l : List Smp) (w : World) (ha : Ss w va l) : Calls Tryz.prog 14 #[va] w (TPutPost l w) := by
  obtain ⟨a, ca, hs⟩ := ha.shape
  subst hs
  by_cases hbig : 2048 < l.length
  · go_enter Tryz.func14, Tryz.ntmps14
    go_wp2_with fail
    refine (rsput_any _ l _ ha).mono ?_
    rintro e w1 h1
    unfold SPutPost at h1
    rw [if_pos hbig] at h1
    obtain ⟨rfl, hb1⟩ := h1
    go_wp2
    go_ret2
    unfold TPutPost
    rw [if_pos hbig]
    exact ⟨rfl, hb1⟩
  · go_enter Tryz.func14, Tryz.ntmps14
    go_wp2_with fail
    refine (rsput_any _ l _ ha).mono ?_
    rintro e w1 h1
    unfold SPutPost at h1
    rw [if_neg hbig] at h1
    rcases h1 with ⟨hR, v1, rfl, ho1, hb1⟩ | ⟨hR, rfl, hb1⟩
    · have hsl := sputs_bound hR hbig
      have hvl := vput_len10 l.length (by omega)
      have hv1 := ho1.bs
      have HR := Lib.hid hR
      clear hR ho1
      go_wp2_with fail
      refine (rnumber_any l.length (by omega) (by omega) _).mono ?_
      rintro e w4 ⟨v4, rfl, ho4, hb4⟩
      rw [show ((l.length : Int)).toNat = l.length by omega] at ho4
      have hw4 := hb1.trans (hb4.mono hb1.size)
      have hv4 := hv1.below hb4
      have ho4' := ho4.mono (B' := w.heap.size) hb1.size
      have hg4 := hw4.size
      clear ho4 hv1
      go_wp2_with (at_builtin; go_must (refine wpList_append_bytes ho4' hv4 elB (by omega) (by omega) hg4 ?_ _ _ rfl rfl rfl rfl); intro v5 w5 ho5 hg5 hb5 _; have hw5 := hw4.trans hb5; have HO5 := Lib.hid ho5; clear ho5)
      refine (rfput_any 1 1 (by decide) _ _ _ HO5.out.bs (by simp; omega)).mono ?_
      rintro e w6 ⟨v6, rfl, ho6, hb6⟩
      have hg5 := hw5.size
      go_wp2
      go_ret2
      unfold TPutPost
      rw [if_neg hbig]
      exact .inl ⟨HR.out, _, rfl, ho6.mono hg5, hw5.trans (hb6.mono hg5)⟩
    · have HR := Lib.hid hR
      clear hR
      go_wp2
      go_ret2
      unfold TPutPost
      rw [if_neg hbig]
      exact .inr ⟨HR.out, rfl, hb1⟩

theorem fwhole_len (k : UInt8) (l : List UInt8) : (fwhole k l).1.length ≤ l.length := by
  have h : (ftake l).2.1.length ≤ l.length := by
    unfold ftake
    repeat' split
    all_goals simp
    all_goals omega
  unfold fwhole
  repeat' split
  all_goals simp
  exact h

def ttake (b : List UInt8) : List Smp × Nat :=
  if (fwhole 1 b).2 ≠ 0 then ([], (fwhole 1 b).2)
  else if (rnum 2048 (fwhole 1 b).1 0 0).2.2 ≠ 0 then ([], (rnum 2048 (fwhole 1 b).1 0 0).2.2)
  else if (stake ((fwhole 1 b).1.drop (rnum 2048 (fwhole 1 b).1 0 0).2.1) (rnum 2048 (fwhole 1 b).1 0 0).1).2.2 ≠ 0 then ([], (stake ((fwhole 1 b).1.drop (rnum 2048 (fwhole 1 b).1 0 0).2.1) (rnum 2048 (fwhole 1 b).1 0 0).1).2.2)
  else if (rnum 2048 (fwhole 1 b).1 0 0).2.1 + (stake ((fwhole 1 b).1.drop (rnum 2048 (fwhole 1 b).1 0 0).2.1) (rnum 2048 (fwhole 1 b).1 0 0).1).2.1 < (fwhole 1 b).1.length then ([], 13)
  else ((stake ((fwhole 1 b).1.drop (rnum 2048 (fwhole 1 b).1 0 0).2.1) (rnum 2048 (fwhole 1 b).1 0 0).1).1, 0)

theorem ttake_eq {b c : List UInt8} {f n p q u x : Nat} {out : List Smp} (h1 : fwhole 1 b = (c, f)) (h2 : rnum 2048 c 0 0 = (n, p, q)) (h3 : stake (c.drop p) n = (out, u, x)) :
    ttake b = if f ≠ 0 then ([], f) else if q ≠ 0 then ([], q) else if x ≠ 0 then ([], x) else if p + u < c.length then ([], 13) else (out, 0) := by
  unfold ttake
  simp only [h1, h2, h3]

def TTakePost (b : List UInt8) (w : World) (e : Ending) (w' : World) : Prop :=
  ∃ v, e = .returned (.tuple #[v, .int .i64 ((ttake b).2 : Int)]) ∧ Ss w' v (ttake b).1 ∧ Below w.heap.size w w'

set_option maxRecDepth 100000 in
set_option maxHeartbeats 1600000 in
theorem ttake_any (y : Value) (b : List UInt8) (w : World) (hy : Bs w y b) (hl : b.length ≤ 1048576) : Calls Tryz.prog 19 #[y] w (TTakePost b w) := by
  obtain ⟨c, f, hv1⟩ : ∃ c f, fwhole 1 b = (c, f) := ⟨_, _, rfl⟩
  obtain ⟨n, p, q, hv2⟩ : ∃ n p q, rnum 2048 c 0 0 = (n, p, q) := ⟨_, _, _, rfl⟩
  obtain ⟨out, u, x, hv3⟩ : ∃ o u x, stake (c.drop p) n = (o, u, x) := ⟨_, _, _, rfl⟩
  have hcl := fwhole_len 1 b
  rw [hv1] at hcl
  simp only at hcl
  have hle := (rraw_le (mayN 2048) c 0 0 (by omega)).1
  have hmo := rnum_most 2048 c 0 0
  have HT := Lib.hid (ttake_eq hv1 hv2 hv3)
  have hok := rraw_ok (mayN 2048) c 0 0
  have C1 := fun w h => fwhole_any 1 1 (by decide) y b w h hl
  unfold WholePost at C1
  rw [hv1] at C1
  have C2 := fun g y w h => rnumber_rd 2048 g y c 0 0 w h
  unfold NumPost at C2
  unfold rnum at hv2
  rw [hv2] at hle hok
  unfold rnum at C2 hmo
  rw [hv2] at C2 hmo
  have C3 := fun y w h => stake_any y (c.drop p) n (by omega) w h (by simp; omega)
  unfold STakePost at C3
  rw [hv3] at C3
  simp only at hle hmo hok C1 C2 C3
  have HC1 := Lib.hid C1
  have HC2 := Lib.hid C2
  have HC3 := Lib.hid C3
  have HOK := Lib.hid hok
  clear hv1 hv2 hv3 C1 C2 C3 hok
  obtain ⟨a, ca, hs⟩ := hy.shape
  subst hs
  go_enter Tryz.func19, Tryz.ntmps19
  go_wp2_with fail
  refine (HC1.out _ hy).mono ?_
  rintro e w1 ⟨v1, rfl, h1, hb1⟩
  by_cases hf : f = 0
  · subst hf
    obtain ⟨a1, c1, hs⟩ := h1.shape
    subst hs
    go_wp2_with fail
    refine (read_any _ c _ h1).mono ?_
    rintro e w2 ⟨rfl, hr2, hb2⟩
    have hw2 := hb1.trans (hb2.mono hb1.size)
    go_wp2_with fail
    refine (HC2.out _ _ _ hr2).mono ?_
    rintro e w3 ⟨rfl, hr3, ho3⟩
    have hw3 := hw2.trans (ho3.below (fun k hk => by have := hb1.size; omega) hw2.size)
    go_wp2_with fail
    refine (rerror_any _ _ c p q _ hr3).mono ?_
    rintro e w4 ⟨rfl, rfl⟩
    by_cases hq : q = 0
    · subst hq
      have hpl := (HOK.out rfl).2
      have hvl := vput_len10 n (by omega)
      have hwr : Wr (w3.alloc (.cells #[.slice none 0 0] 93)) w.heap.size w3.heap.size (.slice none 0 0) [] := ⟨hw3.size, heap_alloc_new w3 _, Ob.nil _ _ _⟩
      have hbl : Below w3.heap.size w3 (w3.alloc (.cells #[.slice none 0 0] 93)) := (Below.refl _ _).alloc (Nat.le_refl _) _
      have hw4 := hw3.trans (hbl.mono hw3.size)
      have HW := Lib.hid hwr
      have hc3 := hr3.src.below hbl
      have hlt3 := hr3.src.lt
      have HPL := Lib.hid hpl
      clear hpl hwr hr2
      go_wp2_with fail
      refine (wNumber_any n (by omega) (by omega) _ _ _ _ _ HW.out hw4.size (by simp)).mono ?_
      rintro e w5 ⟨rfl, v5, hwt⟩
      rw [show ((n : Int)).toNat = n by omega] at hwt
      have hw5 := hw4.trans (hwt.bel HW.out hw4.size)
      have hc5 := hc3.only' hwt.only (fun hl j hj e => by
        have h1 := hlt3 hl j hj
        rcases e with rfl | e
        · omega
        · simp [Value.ownBlock] at e)
      have HWT := Lib.hid hwt
      clear hwt hc3
      go_wp2_with fail
      refine (wOut_any _ v5 _ w.heap.size w5 HWT.out.wr (by simp; omega)).mono ?_
      rintro e w6 ⟨v6, rfl, ho6, hb6⟩
      obtain ⟨a6, c6, hs⟩ := ho6.shape
      subst hs
      have hw6 := hw5.trans (hb6.mono hw5.size)
      have hc6 := hc5.below hb6
      have hpe : ([] ++ vput n).length = p := by have := HPL.out; simp; omega
      obtain ⟨Y, hY, hYb⟩ := Bs.from (P := Tryz.prog) elB hc6 p hle
      obtain ⟨a7, c7, hs⟩ := hYb.shape
      rw [List.length_drop] at hs
      subst hs
      have HYB := Lib.hid hYb
      rw [hpe]
      have HPE := Lib.hid hpe
      clear hpe hYb hc5 ho6
      go_wp2_with fail
      refine (HC3.out _ _ HYB.out).mono ?_
      rintro e w7 ⟨v7, rfl, h7, hb7⟩
      have hw7 := hw6.trans (hb7.mono hw6.size)
      by_cases hx : x = 0
      · subst hx
        by_cases hu : p + u < c.length
        · have hd : decide ((u : Int) < ((c.length - p : Nat) : Int)) = true := by simp; omega
          have hd2 : (u : Int) < ((c.length - p : Nat) : Int) := by omega
          have HU := Lib.hid hu
          clear hu
          go_wp2
          go_ret2
          refine ⟨.slice none 0 0, ?_, ?_, hw7⟩
          · rw [HT.out, if_neg (by simp), if_neg (by simp), if_neg (by simp), if_pos HU.out]; rfl
          · rw [HT.out, if_neg (by simp), if_neg (by simp), if_neg (by simp), if_pos HU.out]; exact Rd.nil _ _
        · have hd : decide ((u : Int) < ((c.length - p : Nat) : Int)) = false := by simp; omega
          have hd2 : ((c.length - p : Nat) : Int) ≤ u := by omega
          have HU := Lib.hid hu
          clear hu
          go_wp2
          go_ret2
          refine ⟨v7, ?_, ?_, hw7⟩
          · rw [HT.out, if_neg (by simp), if_neg (by simp), if_neg (by simp), if_neg HU.out]; rfl
          · rw [HT.out, if_neg (by simp), if_neg (by simp), if_neg (by simp), if_neg HU.out]; exact h7
      · have hd : ((x : Int) != 0) = true := by simp; omega
        have HX := Lib.hid hx
        clear hx
        go_wp2
        go_ret2
        refine ⟨.slice none 0 0, ?_, ?_, hw7⟩
        · rw [HT.out, if_neg (by simp), if_neg (by simp), if_pos HX.out]; rfl
        · rw [HT.out, if_neg (by simp), if_neg (by simp), if_pos HX.out]; exact Rd.nil _ _
    · have hd : ((q : Int) != 0) = true := by simp; omega
      have HX := Lib.hid hq
      clear hq
      go_wp2
      go_ret2
      refine ⟨.slice none 0 0, ?_, ?_, hw3⟩
      · rw [HT.out, if_neg (by simp), if_pos HX.out]; rfl
      · rw [HT.out, if_neg (by simp), if_pos HX.out]; exact Rd.nil _ _
  · have hd : ((f : Int) != 0) = true := by simp; omega
    have HX := Lib.hid hf
    clear hf
    go_wp2
    go_ret2
    refine ⟨.slice none 0 0, ?_, ?_, hb1⟩
    · rw [HT.out, if_pos HX.out]; rfl
    · rw [HT.out, if_pos HX.out]; exact Rd.nil _ _

end Go.Proofs.YtjnbdeopoohnmaaGreatDoor
