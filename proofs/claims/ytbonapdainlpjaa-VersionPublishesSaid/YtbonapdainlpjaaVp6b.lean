/- Layer 19 (version): the statement VersionPublishes: why nothing is published. -/
import Derived.Test.YtbonapdainlpjaaVp6a
import Derived.Deep.RegionLaw
import Derived.Deep.DeepCutAuto
import Derived.Deep.CutBlock
import Derived.Lib.QuietBelow
set_option linter.unusedSimpArgs false
namespace Go.Proofs.Ytbonapdainlpjaa
open Go.RowKit Go.Sort

/-- the regions of a text -/
def regsOf : Code → List Code
  | .region k o d => [.region k o d]
  | .loop c => regsOf c
  | .seq a b => regsOf a ++ regsOf b
  | .cond _ a b => regsOf a ++ regsOf b
  | .block _ c => regsOf c
  | .scope c => regsOf c
  | .rangeFunc _ _ a b => regsOf a ++ regsOf b
  | _ => []
def isReg (n : Nat) : Code → Bool
  | .region k _ _ => k == n
  | _ => false
noncomputable def regionAt (f : Func) (n : Nat) : Code := (((f.body.map regsOf).getD []).find? (isReg n)).getD .skip
/-- a region is walked to its end, and there R holds -/
def AtNormal (R : Act → World → Prop) : Exit → Act → World → Prop
  | .normal, a, w => R a w
  | _, _, _ => False
theorem AtNormal.of {R : Act → World → Prop} {e : Exit} {a : Act} {w : World} (h : AtNormal R e a w) : e = .normal ∧ R a w := by
  cases e <;> simp [AtNormal] at h
  exact ⟨rfl, h⟩
theorem meets {A : Act} {R : (Nat → Value) → Act} (h : A = R (fun i => A.tmps.getD i undef)) : ∃ f, A = R f := ⟨_, h⟩

set_option maxRecDepth 100000 in
set_option maxHeartbeats 6400000 in
theorem vp_r9 {u1 u2 u3 u5 u6 u9 u10 u12 u13 u14 u15 u16 u17 u18 u19 u20 u21 u22 u23 u24 u25 u26 u27 u28 u29 u30 u31 u32 u33 u34 u35 u36 u37 u38 u39 u40 u41 u42 u43 u44 u45 u46 u47 u48 u49 u50 u51 u52 u53 u54 u55 u56 u57 u58 u59 u60 u61 u62 u63 u64 u65 u66 u67 u68 u69 u70 u71 u72 u73 u74 u75 u76 u77 u78 u79 u80 u81 u82 u83 u84 u85 u86 u87 u88 u89 u90 u91 u92 u93 u94 u95 u96 u97 u98 u99 u100 u101 u102 u103 u104 u105 u106 u107 u108 u109 u110 u111 u112 u113 u114 u115 u116 u117 u118 u119 u120 u121 u122 u123 u124 u125 u126 u127 u128 u129 u130 u131 u132 u133 u134 u135 u136 u137 u138 u139 u140 u141 u142 u143 u144 u145 u146 u147 u148 u149 u150 u151 u152 u153 u154 u155 u156 u157 u158 u159 u160 u161 u162 u163 u164 u165 u166 u167 u168 u169 u170 u171 u172 u173 u174 u175 u176 u177 u178 u179 u180 u181 u182 u183 u184 u185 u186 u187} (a : Option Addr) (c n q : Nat) (av : Option Addr) (cv bv : Nat) (ov : Nat → Nat) (l : List NetX) (ver ne : Int) (rt late bad : Bool) (w5 w8 : World)
    (HN : Hid (l.length = n)) (HN70 : Hid (n ≤ 70)) (s0 : w8.cell? ⟨q, 0, none⟩ = some (.int .i64 ver))
    (hixv : ∀ (W : World) (i : Nat), i < n → (Instr.indexAt 106 (.slice av n cv) (.int .i64 (i : Int))).run Try.prog W = .ok (.pointer (some ⟨bv, ov i, none⟩)) W)
    (HCV : Hid (∀ (i : Nat) (x : Int), (vers l)[i]? = some x → ∀ (j : Nat) (u : Value), (csN x)[j]? = some u → w5.cell? ⟨bv, ov i + j, none⟩ = some u))
    (HLTV : Hid (∀ i, i < n → bv < w5.heap.size)) (HB58 : Hid (Below w5.heap.size w5 w8))
    (HVL : Hid (∀ y, l[n - 1]? = some y → late = decide (ver ≤ y.1.ver))) (HV0 : Hid (n = 0 → late = false)) (HBAD : Hid (((ne == 0) && (!rt || late)) = bad)) :
    Code.wp Try.prog (regionAt Try.f14 9) (AtNormal fun a' W' => (∃ f : Nat → Value, a' = { tmps := List.toArray ((.slice a n c) :: (u1) :: (u2) :: (u3) :: (.pointer (some ⟨q, 0, none⟩)) :: (u5) :: (u6) :: (.slice av n cv) :: (.bool rt) :: (u9) :: (u10) :: (.int .i64 ne) :: (u12) :: (u13) :: (u14) :: (u15) :: (u16) :: (u17) :: (u18) :: (u19) :: (u20) :: (u21) :: (u22) :: (u23) :: (u24) :: (u25) :: (u26) :: (u27) :: (u28) :: (u29) :: (u30) :: (u31) :: (u32) :: (u33) :: (u34) :: (u35) :: (u36) :: (u37) :: (u38) :: (u39) :: (f 40) :: (f 41) :: (f 42) :: (f 43) :: (f 44) :: (f 45) :: (f 46) :: (f 47) :: (f 48) :: (f 49) :: (f 50) :: (f 51) :: (f 52) :: (f 53) :: (f 54) :: (f 55) :: (f 56) :: (f 57) :: (f 58) :: (f 59) :: (f 60) :: (.bool bad) :: (u62) :: (u63) :: (u64) :: (u65) :: (u66) :: (u67) :: (u68) :: (u69) :: (u70) :: (u71) :: (u72) :: (u73) :: (u74) :: (u75) :: (u76) :: (u77) :: (u78) :: (u79) :: (u80) :: (u81) :: (u82) :: (u83) :: (u84) :: (u85) :: (u86) :: (u87) :: (u88) :: (u89) :: (u90) :: (u91) :: (u92) :: (u93) :: (u94) :: (u95) :: (u96) :: (u97) :: (u98) :: (u99) :: (u100) :: (u101) :: (u102) :: (u103) :: (u104) :: (u105) :: (u106) :: (u107) :: (u108) :: (u109) :: (u110) :: (u111) :: (u112) :: (u113) :: (u114) :: (u115) :: (u116) :: (u117) :: (u118) :: (u119) :: (u120) :: (u121) :: (u122) :: (u123) :: (u124) :: (u125) :: (u126) :: (u127) :: (u128) :: (u129) :: (u130) :: (u131) :: (u132) :: (u133) :: (u134) :: (u135) :: (u136) :: (u137) :: (u138) :: (u139) :: (u140) :: (u141) :: (u142) :: (u143) :: (u144) :: (u145) :: (u146) :: (u147) :: (u148) :: (u149) :: (u150) :: (u151) :: (u152) :: (u153) :: (u154) :: (u155) :: (u156) :: (u157) :: (u158) :: (u159) :: (u160) :: (u161) :: (u162) :: (u163) :: (u164) :: (u165) :: (u166) :: (u167) :: (u168) :: (u169) :: (u170) :: (u171) :: (u172) :: (u173) :: (u174) :: (u175) :: (u176) :: (u177) :: (u178) :: (u179) :: (u180) :: (u181) :: (u182) :: (u183) :: (u184) :: (u185) :: (u186) :: (u187) :: []), defers := [] }) ∧ Hid (Below w8.heap.size w8 W'))
      { tmps := List.toArray ((.slice a n c) :: (u1) :: (u2) :: (u3) :: (.pointer (some ⟨q, 0, none⟩)) :: (u5) :: (u6) :: (.slice av n cv) :: (.bool rt) :: (u9) :: (u10) :: (.int .i64 ne) :: (u12) :: (u13) :: (u14) :: (u15) :: (u16) :: (u17) :: (u18) :: (u19) :: (u20) :: (u21) :: (u22) :: (u23) :: (u24) :: (u25) :: (u26) :: (u27) :: (u28) :: (u29) :: (u30) :: (u31) :: (u32) :: (u33) :: (u34) :: (u35) :: (u36) :: (u37) :: (u38) :: (u39) :: (u40) :: (u41) :: (u42) :: (u43) :: (u44) :: (u45) :: (u46) :: (u47) :: (u48) :: (u49) :: (u50) :: (u51) :: (u52) :: (u53) :: (u54) :: (u55) :: (u56) :: (u57) :: (u58) :: (u59) :: (u60) :: (u61) :: (u62) :: (u63) :: (u64) :: (u65) :: (u66) :: (u67) :: (u68) :: (u69) :: (u70) :: (u71) :: (u72) :: (u73) :: (u74) :: (u75) :: (u76) :: (u77) :: (u78) :: (u79) :: (u80) :: (u81) :: (u82) :: (u83) :: (u84) :: (u85) :: (u86) :: (u87) :: (u88) :: (u89) :: (u90) :: (u91) :: (u92) :: (u93) :: (u94) :: (u95) :: (u96) :: (u97) :: (u98) :: (u99) :: (u100) :: (u101) :: (u102) :: (u103) :: (u104) :: (u105) :: (u106) :: (u107) :: (u108) :: (u109) :: (u110) :: (u111) :: (u112) :: (u113) :: (u114) :: (u115) :: (u116) :: (u117) :: (u118) :: (u119) :: (u120) :: (u121) :: (u122) :: (u123) :: (u124) :: (u125) :: (u126) :: (u127) :: (u128) :: (u129) :: (u130) :: (u131) :: (u132) :: (u133) :: (u134) :: (u135) :: (u136) :: (u137) :: (u138) :: (u139) :: (u140) :: (u141) :: (u142) :: (u143) :: (u144) :: (u145) :: (u146) :: (u147) :: (u148) :: (u149) :: (u150) :: (u151) :: (u152) :: (u153) :: (u154) :: (u155) :: (u156) :: (u157) :: (u158) :: (u159) :: (u160) :: (u161) :: (u162) :: (u163) :: (u164) :: (u165) :: (u166) :: (u167) :: (u168) :: (u169) :: (u170) :: (u171) :: (u172) :: (u173) :: (u174) :: (u175) :: (u176) :: (u177) :: (u178) :: (u179) :: (u180) :: (u181) :: (u182) :: (u183) :: (u184) :: (u185) :: (u186) :: (u187) :: []), defers := [] } w8 := by
  have r0 := fun d os => cell_regrown s0 d os
  clear s0
  conv => arg 2; whnf
  by_cases hne0 : ne = 0
  · cases rt with
    | false =>
      have hb : bad = true := by rw [← HBAD.out, hne0]; rfl
      have e0 : (ne == 0) = true := by rw [hne0]; rfl
      clear hne0
      refine wp_region_quiet_below (by kernel_rfl) (by kernel_rfl) ?_
      repeat (go_big_quiet_step ((fail)))
      refine wpQuiet_nil ?_
      intro _ hw'
      obtain ⟨⟨dq, osq⟩, hw''⟩ := hw'
      subst hw''
      have HB9 := below_regrown w8 dq osq
      obtain ⟨W9, hwq⟩ : ∃ x, x = grow (redrawn w8 dq) osq := ⟨_, rfl⟩
      rw [← hwq] at HB9 ⊢
      clear hwq
      go_wp2
      exact (show AtNormal _ .normal _ _ from ⟨meets (by first | (rw [hb]; rfl) | rfl), HB9⟩)
    | true =>
      have hbl : bad = late := by rw [← HBAD.out, hne0]; simp
      have e0 : (ne == 0) = true := by rw [hne0]; rfl
      clear hne0
      by_cases hn0 : 0 < n
      · obtain ⟨y, hy⟩ : ∃ y, l[n - 1]? = some y := ⟨_, List.getElem?_eq_getElem (by have := HN.out; omega)⟩
        have hvl := HVL.out y hy
        have hyv : (vers l)[n - 1]? = some y.1.ver := by unfold vers; rw [List.getElem?_map, hy]; rfl
        have m0 := HCV.out (n - 1) _ hyv 0 _ rfl
        rw [Nat.add_zero] at m0
        obtain ⟨yv, hyy⟩ : ∃ z, y.1.ver = z := ⟨_, rfl⟩
        rw [hyy] at hvl m0
        rw [← HB58.out.cell (by exact HLTV.out (n - 1) (by omega))] at m0
        have mr := fun d os => cell_regrown m0 d os
        have hixp : ∀ V : World, (Instr.indexAt 106 (.slice av n cv) (.int .i64 ((n : Int) - 1))).run Try.prog V = .ok (.pointer (some ⟨bv, ov (n - 1), none⟩)) V := fun V => by
          have := hixv V (n - 1) (by omega)
          rwa [show (((n - 1 : Nat)) : Int) = (n : Int) - 1 by omega] at this
        have hsub : IntKind.i64.wrap ((n : Int) - 1) = (n : Int) - 1 := by rw [IntKind.wrap_i64]; have := HN70.out; omega
        clear hy hyv m0 hyy
        by_cases hle : ver ≤ yv
        · have hb : bad = true := by rw [hbl, hvl]; exact decide_eq_true hle
          clear hvl hbl
          refine wp_region_quiet_below (by kernel_rfl) (by kernel_rfl) ?_
          repeat (go_big_quiet_step ((fail)))
          refine wpQuiet_nil ?_
          intro _ hw'
          obtain ⟨⟨dq, osq⟩, hw''⟩ := hw'
          subst hw''
          have HB9 := below_regrown w8 dq osq
          obtain ⟨W9, hwq⟩ : ∃ x, x = grow (redrawn w8 dq) osq := ⟨_, rfl⟩
          rw [← hwq] at HB9 ⊢
          clear hwq
          go_wp2
          exact (show AtNormal _ .normal _ _ from ⟨meets (by first | (rw [hb]; rfl) | rfl), HB9⟩)
        · have hb : bad = false := by rw [hbl, hvl]; exact decide_eq_false hle
          clear hvl hbl
          refine wp_region_quiet_below (by kernel_rfl) (by kernel_rfl) ?_
          repeat (go_big_quiet_step ((fail)))
          refine wpQuiet_nil ?_
          intro _ hw'
          obtain ⟨⟨dq, osq⟩, hw''⟩ := hw'
          subst hw''
          have HB9 := below_regrown w8 dq osq
          obtain ⟨W9, hwq⟩ : ∃ x, x = grow (redrawn w8 dq) osq := ⟨_, rfl⟩
          rw [← hwq] at HB9 ⊢
          clear hwq
          go_wp2
          exact (show AtNormal _ .normal _ _ from ⟨meets (by first | (rw [hb]; rfl) | rfl), HB9⟩)
      · have hb : bad = false := by rw [hbl]; exact HV0.out (by omega)
        have e1 : decide (0 < n) = false := by simpa using hn0
        clear hbl hn0
        refine wp_region_quiet_below (by kernel_rfl) (by kernel_rfl) ?_
        repeat (go_big_quiet_step ((fail)))
        refine wpQuiet_nil ?_
        intro _ hw'
        obtain ⟨⟨dq, osq⟩, hw''⟩ := hw'
        subst hw''
        have HB9 := below_regrown w8 dq osq
        obtain ⟨W9, hwq⟩ : ∃ x, x = grow (redrawn w8 dq) osq := ⟨_, rfl⟩
        rw [← hwq] at HB9 ⊢
        clear hwq
        go_wp2
        exact (show AtNormal _ .normal _ _ from ⟨meets (by first | (rw [hb]; rfl) | rfl), HB9⟩)
  · have hb : bad = false := by rw [← HBAD.out]; simp [hne0]
    have e0 : (ne == 0) = false := by simpa using hne0
    clear hne0
    refine wp_region_quiet_below (by kernel_rfl) (by kernel_rfl) ?_
    repeat (go_big_quiet_step ((fail)))
    refine wpQuiet_nil ?_
    intro _ hw'
    obtain ⟨⟨dq, osq⟩, hw''⟩ := hw'
    subst hw''
    have HB9 := below_regrown w8 dq osq
    obtain ⟨W9, hwq⟩ : ∃ x, x = grow (redrawn w8 dq) osq := ⟨_, rfl⟩
    rw [← hwq] at HB9 ⊢
    clear hwq
    go_wp2
    exact (show AtNormal _ .normal _ _ from ⟨meets (by first | (rw [hb]; rfl) | rfl), HB9⟩)

end Go.Proofs.Ytbonapdainlpjaa
