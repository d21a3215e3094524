/- Layer 19 (version): the statement VersionPublishes: what is published. -/
import Derived.Test.YtbonapdainlpjaaVp6b
import Derived.Deep.RegionLaw
import Derived.Deep.DeepCutAuto
import Derived.Deep.CutBlock
import Derived.Lib.QuietBelow
set_option linter.unusedSimpArgs false
namespace Go.Proofs.Ytbonapdainlpjaa
open Go.RowKit Go.Sort

set_option maxRecDepth 100000 in
set_option maxHeartbeats 6400000 in
theorem vp_r13 {u1 u2 u3 u5 u6 u12 u13 u14 u15 u16 u17 u18 u19 u20 u21 u22 u23 u24 u25 u26 u27 u28 u29 u30 u31 u32 u33 u34 u35 u36 u37 u38 u39 u40 u41 u42 u43 u44 u45 u46 u47 u48 u49 u50 u51 u52 u53 u54 u55 u56 u57 u58 u59 u60 u61 u62 u63 u64 u65 u66 u67 u68 u69 u70 u71 u72 u73 u74 u75 u76 u77 u78 u79 u80 u81 u82 u83 u84 u85 u86 u87 u88 u89 u90 u91 u92 u93 u94 u95 u96 u97 u98 u99 u100 u101 u102 u103 u104 u105 u106 u107 u108 u109 u110 u111 u112 u113 u114 u115 u116 u117 u118 u119 u120 u121 u122 u123 u124 u125 u126 u127 u128 u129 u130 u131 u132 u133 u134 u135 u136 u137 u138 u139 u140 u141 u142 u143 u144 u145 u146 u147 u148 u149 u150 u151 u152 u153 u154 u155 u156 u157 u158 u159 u160 u161 u162 u163 u164 u165 u166 u167 u168 u169 u170 u171 u172 u173 u174 u175 u176 u177 u178 u179 u180 u181 u182 u183 u184 u185 u186 u187} (a : Option Addr) (c n q : Nat) (av : Option Addr) (cv : Nat) (va : Value) (l : List NetX) (ver pe : Int) (st : List (Int × Int)) (ln : List (Int × Int × Int)) (xa : Option Addr) (xn xc : Nat) (ya : Option Addr) (yn yc : Nat) (rt : Bool) (w w5 w7 w9 : World)
    (HN : Hid (l.length = n)) (HN70 : Hid (n ≤ 70)) (hq : w9.cell? ⟨q, 0, none⟩ = some (.int .i64 ver) ∧ w9.cell? ⟨q, 1, none⟩ = some (.slice xa xn xc) ∧ w9.cell? ⟨q, 2, none⟩ = some (.slice ya yn yc))
    (HH : Hid (Nets w (.slice a n c) l)) (HGV : Hid (Gs 1 csN w5 (.slice av n cv) (vers l))) (HRT : Hid (vright (vers l) = rt))
    (HNIL : Hid (pe ≠ 0 → va = .slice none 0 0)) (HSH : Hid (pe = 0 → Nets w7 va (l ++ [((⟨ver, st, ln⟩, (xa, xn, xc), (ya, yn, yc)) : NetX)])))
    (CS : Hid (∀ V : World, Below w.heap.size w V → Calls Try.prog 69 #[.agg #[.int .i64 ver, .slice xa xn xc, .slice ya yn yc], .agg #[.int .i64 ver, .slice xa xn xc, .slice ya yn yc]] V fun e w' => e = .returned (.bool true) ∧ Below V.heap.size V w'))
    (HB09 : Hid (Below w.heap.size w w9)) (HB59 : Hid (Below w5.heap.size w5 w9)) (HB79 : Hid (Below w7.heap.size w7 w9)) :
    Code.wp Try.prog (regionAt Try.f14 13) (AtNormal fun a' W' => (∃ f : Nat → Value, a' = { tmps := List.toArray ((.slice a n c) :: (u1) :: (u2) :: (u3) :: (.pointer (some ⟨q, 0, none⟩)) :: (u5) :: (u6) :: (.slice av n cv) :: (.bool rt) :: (va) :: (.int .i64 pe) :: (.int .i64 pe) :: (u12) :: (u13) :: (u14) :: (u15) :: (u16) :: (u17) :: (u18) :: (u19) :: (u20) :: (u21) :: (u22) :: (u23) :: (u24) :: (u25) :: (u26) :: (u27) :: (u28) :: (u29) :: (u30) :: (u31) :: (u32) :: (u33) :: (u34) :: (u35) :: (u36) :: (u37) :: (u38) :: (u39) :: (u40) :: (u41) :: (u42) :: (u43) :: (u44) :: (u45) :: (u46) :: (u47) :: (u48) :: (u49) :: (u50) :: (u51) :: (u52) :: (u53) :: (u54) :: (u55) :: (u56) :: (u57) :: (u58) :: (u59) :: (u60) :: (u61) :: (u62) :: (u63) :: (u64) :: (u65) :: (u66) :: (u67) :: (u68) :: (f 69) :: (f 70) :: (f 71) :: (f 72) :: (f 73) :: (f 74) :: (f 75) :: (f 76) :: (f 77) :: (f 78) :: (f 79) :: (f 80) :: (f 81) :: (f 82) :: (f 83) :: (f 84) :: (f 85) :: (f 86) :: (f 87) :: (f 88) :: (f 89) :: (f 90) :: (f 91) :: (f 92) :: (f 93) :: (f 94) :: (f 95) :: (f 96) :: (f 97) :: (f 98) :: (f 99) :: (f 100) :: (f 101) :: (f 102) :: (f 103) :: (f 104) :: (f 105) :: (f 106) :: (f 107) :: (f 108) :: (f 109) :: (f 110) :: (f 111) :: (f 112) :: (f 113) :: (f 114) :: (f 115) :: (f 116) :: (.bool false) :: (u118) :: (u119) :: (u120) :: (u121) :: (u122) :: (u123) :: (u124) :: (u125) :: (u126) :: (u127) :: (u128) :: (u129) :: (u130) :: (u131) :: (u132) :: (u133) :: (u134) :: (u135) :: (u136) :: (u137) :: (u138) :: (u139) :: (u140) :: (u141) :: (u142) :: (u143) :: (u144) :: (u145) :: (u146) :: (u147) :: (u148) :: (u149) :: (u150) :: (u151) :: (u152) :: (u153) :: (u154) :: (u155) :: (u156) :: (u157) :: (u158) :: (u159) :: (u160) :: (u161) :: (u162) :: (u163) :: (u164) :: (u165) :: (u166) :: (u167) :: (u168) :: (u169) :: (u170) :: (u171) :: (u172) :: (u173) :: (u174) :: (u175) :: (u176) :: (u177) :: (u178) :: (u179) :: (u180) :: (u181) :: (u182) :: (u183) :: (u184) :: (u185) :: (u186) :: (u187) :: []), defers := [] }) ∧ Hid (Below w9.heap.size w9 W'))
      { tmps := List.toArray ((.slice a n c) :: (u1) :: (u2) :: (u3) :: (.pointer (some ⟨q, 0, none⟩)) :: (u5) :: (u6) :: (.slice av n cv) :: (.bool rt) :: (va) :: (.int .i64 pe) :: (.int .i64 pe) :: (u12) :: (u13) :: (u14) :: (u15) :: (u16) :: (u17) :: (u18) :: (u19) :: (u20) :: (u21) :: (u22) :: (u23) :: (u24) :: (u25) :: (u26) :: (u27) :: (u28) :: (u29) :: (u30) :: (u31) :: (u32) :: (u33) :: (u34) :: (u35) :: (u36) :: (u37) :: (u38) :: (u39) :: (u40) :: (u41) :: (u42) :: (u43) :: (u44) :: (u45) :: (u46) :: (u47) :: (u48) :: (u49) :: (u50) :: (u51) :: (u52) :: (u53) :: (u54) :: (u55) :: (u56) :: (u57) :: (u58) :: (u59) :: (u60) :: (u61) :: (u62) :: (u63) :: (u64) :: (u65) :: (u66) :: (u67) :: (u68) :: (u69) :: (u70) :: (u71) :: (u72) :: (u73) :: (u74) :: (u75) :: (u76) :: (u77) :: (u78) :: (u79) :: (u80) :: (u81) :: (u82) :: (u83) :: (u84) :: (u85) :: (u86) :: (u87) :: (u88) :: (u89) :: (u90) :: (u91) :: (u92) :: (u93) :: (u94) :: (u95) :: (u96) :: (u97) :: (u98) :: (u99) :: (u100) :: (u101) :: (u102) :: (u103) :: (u104) :: (u105) :: (u106) :: (u107) :: (u108) :: (u109) :: (u110) :: (u111) :: (u112) :: (u113) :: (u114) :: (u115) :: (u116) :: (u117) :: (u118) :: (u119) :: (u120) :: (u121) :: (u122) :: (u123) :: (u124) :: (u125) :: (u126) :: (u127) :: (u128) :: (u129) :: (u130) :: (u131) :: (u132) :: (u133) :: (u134) :: (u135) :: (u136) :: (u137) :: (u138) :: (u139) :: (u140) :: (u141) :: (u142) :: (u143) :: (u144) :: (u145) :: (u146) :: (u147) :: (u148) :: (u149) :: (u150) :: (u151) :: (u152) :: (u153) :: (u154) :: (u155) :: (u156) :: (u157) :: (u158) :: (u159) :: (u160) :: (u161) :: (u162) :: (u163) :: (u164) :: (u165) :: (u166) :: (u167) :: (u168) :: (u169) :: (u170) :: (u171) :: (u172) :: (u173) :: (u174) :: (u175) :: (u176) :: (u177) :: (u178) :: (u179) :: (u180) :: (u181) :: (u182) :: (u183) :: (u184) :: (u185) :: (u186) :: (u187) :: []), defers := [] } w9 := by
  have HHQ := Lib.hid hq
  clear hq
  have S1 : Hid (∀ d os, Calls Try.prog 75 #[.slice av n cv] (grow (redrawn w9 d) os) fun e w'' => e = .returned (.bool rt) ∧ ∃ p : Regrown, w'' = grow (redrawn w9 p.d) p.os) := fun d os => by
    have := vRight_any _ _ (grow (redrawn w9 d) os) (HGV.out.below (HB59.out.trans ((below_regrown w9 d os).mono HB59.out.size)))
    rw [HRT.out] at this
    exact Calls.regrown_of this
  conv => arg 2; whnf
  by_cases hp0 : pe = 0
  · have hN := HSH.out hp0
    obtain ⟨N, hNn⟩ : ∃ N, n + 1 = N := ⟨_, rfl⟩
    obtain ⟨aa, ac, ab, ao, rfl, ka1, ka2, hixa, hlta, hcella, -⟩ := hN.1.open_n layX elNet N (by rw [List.length_append, HN.out]; exact hNn)
    obtain ⟨Y, hY, hYg⟩ := Gs.upto layX elNet hN.1 n (by simp [HN.out])
    have hxa : (l ++ [((⟨ver, st, ln⟩, (xa, xn, xc), (ya, yn, yc)) : NetX)])[n]? = some (⟨ver, st, ln⟩, (xa, xn, xc), (ya, yn, yc)) := by rw [List.getElem?_append_right (by rw [HN.out]; exact Nat.le_refl _)]; simp [HN.out]
    have m0 := hcella n _ hxa 0 _ rfl
    have m1 := hcella n _ hxa 1 _ rfl
    have m2 := hcella n _ hxa 2 _ rfl
    rw [Nat.add_zero] at m0
    rw [← HB79.out.cell (by exact hlta n (by omega))] at m0 m1 m2
    unfold Sl3.v at m1 m2
    simp only at m0 m1 m2
    have hixn := fun V => hixa V n (by omega)
    have r0 := fun d os => cell_regrown m0 d os
    have r1 := fun d os => cell_regrown m1 d os
    have r2 := fun d os => cell_regrown m2 d os
    obtain ⟨s0, s1, s2⟩ := HHQ.out
    have t0 := fun d os => cell_regrown s0 d os
    have t1 := fun d os => cell_regrown s1 d os
    have t2 := fun d os => cell_regrown s2 d os
    have hYl : Nets w7 Y l := ⟨by have := hYg; rwa [List.take_append_of_le_length (by rw [HN.out]; exact Nat.le_refl _), List.take_of_length_le (by rw [HN.out]; exact Nat.le_refl _)] at this, fun y hy => hN.2 y (List.mem_append_left _ hy)⟩
    have S2 : Hid (∀ d os, Calls Try.prog 76 #[Y, .slice a n c] (grow (redrawn w9 d) os) fun e w'' => e = .returned (.bool true) ∧ ∃ p : Regrown, w'' = grow (redrawn w9 p.d) p.os) := fun d os =>
      Calls.regrown_of (vSame_yes _ _ l _ (hYl.below (HB79.out.trans ((below_regrown w9 d os).mono HB79.out.size))) (HH.out.below (HB09.out.trans ((below_regrown w9 d os).mono HB09.out.size))))
    have S3 : Hid (∀ d os, Calls Try.prog 69 #[.agg #[.int .i64 ver, .slice xa xn xc, .slice ya yn yc], .agg #[.int .i64 ver, .slice xa xn xc, .slice ya yn yc]] (grow (redrawn w9 d) os) fun e w'' => e = .returned (.bool true) ∧ ∃ p : Regrown, w'' = grow (redrawn w9 p.d) p.os) := fun d os =>
      Calls.regrown_of (CS.out _ (HB09.out.trans ((below_regrown w9 d os).mono HB09.out.size)))
    have e1 : ((N : Int) != (n : Int) + 1) = false := by simp; omega
    have hsub : IntKind.i64.wrap ((n : Int) + 1) = (n : Int) + 1 := by rw [IntKind.wrap_i64]; have := HN70.out; omega
    subst hp0
    clear hN hNn hxa hYg hYl m0 m1 m2 hlta hcella s0 s1 s2
    have hrr : (rt != rt) = false := by simp
    refine wp_region_quiet_below (by kernel_rfl) (by kernel_rfl) ?_
    repeat (go_big_quiet_step ((first | (go_at_call 75; with_reducible exact S1.out _ _) | (go_at_call 76; with_reducible exact S2.out _ _) | (go_at_call 69; with_reducible exact S3.out _ _))))
    refine wpQuiet_nil ?_
    intro _ hw'
    obtain ⟨⟨dq, osq⟩, hw''⟩ := hw'
    subst hw''
    have HB10 := below_regrown w9 dq osq
    obtain ⟨W9, hwq⟩ : ∃ x, x = grow (redrawn w9 dq) osq := ⟨_, rfl⟩
    rw [← hwq] at HB10 ⊢
    clear hwq
    go_wp2
    exact (show AtNormal _ .normal _ _ from ⟨meets rfl, HB10⟩)
  · obtain rfl := HNIL.out hp0
    have e1 : (pe == 0) = false := by simpa using hp0
    have e2 : (pe != 0) = true := by simpa using hp0
    have e3 : (pe != pe) = false := by simp
    clear hp0
    have hrr : (rt != rt) = false := by simp
    refine wp_region_quiet_below (by kernel_rfl) (by kernel_rfl) ?_
    repeat (go_big_quiet_step ((go_at_call 75; with_reducible exact S1.out _ _)))
    refine wpQuiet_nil ?_
    intro _ hw'
    obtain ⟨⟨dq, osq⟩, hw''⟩ := hw'
    subst hw''
    have HB10 := below_regrown w9 dq osq
    obtain ⟨W9, hwq⟩ : ∃ x, x = grow (redrawn w9 dq) osq := ⟨_, rfl⟩
    rw [← hwq] at HB10 ⊢
    clear hwq
    go_wp2
    exact (show AtNormal _ .normal _ _ from ⟨meets rfl, HB10⟩)

end Go.Proofs.Ytbonapdainlpjaa
