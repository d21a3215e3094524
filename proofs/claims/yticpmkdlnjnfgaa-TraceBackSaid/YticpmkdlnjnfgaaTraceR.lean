/- The walk of Take of layer 6's reference. -/
import Derived.Test.YticpmkdlnjnfgaaTraceP
import Derived.Test.YticpmkdlnjnfgaaSamp8
namespace Go.Proofs.Yticpmkdlnjnfgaa
open Go.RowKit Go.Sort

set_option maxRecDepth 100000 in
set_option maxHeartbeats 1600000 in
theorem rttake_any (y : Value) (b : List UInt8) (w : World) (hy : Bs w y b) (hl : b.length ≤ 1048576) : Calls Try.prog 48 #[y] w (TTakePost b w) := by
  obtain ⟨c, f, hv1⟩ : ∃ c f, fwhole 1 b = (c, f) := ⟨_, _, rfl⟩
  obtain ⟨n, p, q, hv2⟩ : ∃ n p q, rnum 2048 c 0 0 = (n, p, q) := ⟨_, _, _, rfl⟩
  obtain ⟨out, u, x, hv3⟩ : ∃ o u x, stake (c.drop p) n = (o, u, x) := ⟨_, _, _, rfl⟩
  have hcl := fwhole_len 1 b
  rw [hv1] at hcl
  simp only at hcl
  have hle := (rraw_le (mayN 2048) c 0 0 (by omega)).1
  have hmo := rnum_most 2048 c 0 0
  have HT := Lib.hid (ttake_eq hv1 hv2 hv3)
  have hub : u ≤ c.length - p := by
    by_cases hx : x = 0
    · subst hx
      have := (stake_taken (c.drop p) n out u hv3).2.2.1
      simpa using this
    · have := (stake_fail (c.drop p) n out u x hv3 hx).2
      omega
  have C1 := fun w h => rfwhole_any 1 1 (by decide) y b w h hl
  unfold WholePost at C1
  rw [hv1] at C1
  have C2 := fun g y w h => rrnumber_rd 2048 (by omega) g y c 0 0 w h
  unfold RNumPost at C2
  unfold rnum at hv2
  rw [hv2] at hle
  unfold rnum at C2 hmo
  rw [hv2] at C2 hmo
  have C3 := fun y w h => rstake_any y (c.drop p) n (by omega) w h
  unfold STakePost at C3
  rw [hv3] at C3
  simp only at hle hmo C1 C2 C3
  have HC1 := Lib.hid C1
  have HC2 := Lib.hid C2
  have HC3 := Lib.hid C3
  clear hv1 hv2 hv3 C1 C2 C3
  obtain ⟨a, ca, hs⟩ := hy.shape
  subst hs
  go_enter Try.func48, Try.ntmps48
  go_wp2_with fail
  refine (HC1.out _ hy).mono ?_
  rintro e w1 ⟨v1, rfl, h1, hb1⟩
  by_cases hf : f = 0
  · subst hf
    obtain ⟨a1, c1, hs⟩ := h1.shape
    subst hs
    go_wp2_with fail
    refine (rread_any _ c _ h1).mono ?_
    rintro e w2 ⟨rfl, hr2, hb2⟩
    have hw2 := hb1.trans (hb2.mono hb1.size)
    go_wp2_with fail
    refine (HC2.out _ _ _ hr2).mono ?_
    rintro e w3 ⟨rfl, hr3, ho3⟩
    have hw3 := hw2.trans (ho3.below (fun k hk => by have := hb1.size; omega) hw2.size)
    have d1 := hr3.c1
    have d2 := hr3.c2
    by_cases hq : q = 0
    · subst hq
      obtain ⟨Y, hY, hYb⟩ := Bs.from (P := Try.prog) elB hr3.src p hle
      have HYB := Lib.hid hYb
      clear hYb hr2
      go_wp2_with fail
      refine (HC3.out _ _ HYB.out).mono ?_
      rintro e w7 ⟨v7, rfl, h7, hb7⟩
      have hw7 := hw3.trans (hb7.mono hw3.size)
      have hr7 := hr3.below hb7
      have e1 := hr7.c1
      clear d1 d2
      by_cases hx : x = 0
      · subst hx
        by_cases hu : p + u < c.length
        · have hd : (p : Int) + u < c.length := by omega
          have HU := Lib.hid hu
          clear hu
          go_wp2
          go_ret2
          refine ⟨.slice none 0 0, ?_, ?_, hw7⟩
          · rw [HT.out, if_neg (by simp), if_neg (by simp), if_neg (by simp), if_pos HU.out]; rfl
          · rw [HT.out, if_neg (by simp), if_neg (by simp), if_neg (by simp), if_pos HU.out]; exact Rd.nil _ _
        · have hd : (c.length : Int) ≤ (p : Int) + u := by omega
          have HU := Lib.hid hu
          clear hu
          go_wp2
          go_ret2
          refine ⟨v7, ?_, ?_, hw7⟩
          · rw [HT.out, if_neg (by simp), if_neg (by simp), if_neg (by simp), if_neg HU.out]; rfl
          · rw [HT.out, if_neg (by simp), if_neg (by simp), if_neg (by simp), if_neg HU.out]; exact h7
      · have hd : ((x : Int) != 0) = true := by simp; omega
        have HX := Lib.hid hx
        clear hx
        go_wp2
        go_ret2
        refine ⟨.slice none 0 0, ?_, ?_, hw7⟩
        · rw [HT.out, if_neg (by simp), if_neg (by simp), if_pos HX.out]; rfl
        · rw [HT.out, if_neg (by simp), if_neg (by simp), if_pos HX.out]; exact Rd.nil _ _
    · have hd : ((q : Int) != 0) = true := by simp; omega
      have HX := Lib.hid hq
      clear hq
      go_wp2_with fail
      go_quiet (fail)
      go_wp2
      go_ret2
      refine ⟨.slice none 0 0, ?_, ?_, below_drewN hw3 _⟩
      · rw [HT.out, if_neg (by simp), if_pos HX.out]; rfl
      · rw [HT.out, if_neg (by simp), if_pos HX.out]; exact Rd.nil _ _
  · have hd : ((f : Int) != 0) = true := by simp; omega
    have HX := Lib.hid hf
    clear hf
    go_wp2
    go_ret2
    refine ⟨.slice none 0 0, ?_, ?_, hb1⟩
    · rw [HT.out, if_pos HX.out]; rfl
    · rw [HT.out, if_pos HX.out]; exact Rd.nil _ _

end Go.Proofs.Yticpmkdlnjnfgaa
