/- Layer 7 (sha): the reference's Sum: the loop that makes the words of the rounds, as a declaration of its own. -/
import Derived.Test.YtjnbdeopoohnmaaGreatDoorShaT
import Derived.Deep.RegionHeld3
import Derived.Deep.RegionLaw
import Derived.Deep.DeepCutAuto
import Derived.Lib.QuietBelow
set_option linter.unusedSimpArgs false
namespace Go.Proofs.YtjnbdeopoohnmaaGreatDoor
open Go.RowKit Go.Sort

theorem turned_of (n : Nat) (h0 : 0 < n) (h : n < 32) (x : UInt32) (w : World) (d : Nat) (os : Array Obj) :
    Calls Tryz.prog 115 #[.int .u32 (wn x), .int .i64 (n : Int)] (grow (redrawn w d) os) fun e w'' => e = .returned (.int .u32 (wn (rotr x n))) ∧ ∃ p : Regrown, w'' = grow (redrawn w p.d) p.os :=
  Calls.regrown_of (turned_any x n h0 h _)

theorem turned7 (x : UInt32) (w : World) (d : Nat) (os : Array Obj) :
    Calls Tryz.prog 115 #[.int .u32 (wn x), .int .i64 7] (grow (redrawn w d) os) fun e w'' => e = .returned (.int .u32 (wn (rotr x 7))) ∧ ∃ p : Regrown, w'' = grow (redrawn w p.d) p.os := turned_of 7 (by omega) (by omega) x w d os
theorem turned18 (x : UInt32) (w : World) (d : Nat) (os : Array Obj) :
    Calls Tryz.prog 115 #[.int .u32 (wn x), .int .i64 18] (grow (redrawn w d) os) fun e w'' => e = .returned (.int .u32 (wn (rotr x 18))) ∧ ∃ p : Regrown, w'' = grow (redrawn w p.d) p.os := turned_of 18 (by omega) (by omega) x w d os
theorem turned17 (x : UInt32) (w : World) (d : Nat) (os : Array Obj) :
    Calls Tryz.prog 115 #[.int .u32 (wn x), .int .i64 17] (grow (redrawn w d) os) fun e w'' => e = .returned (.int .u32 (wn (rotr x 17))) ∧ ∃ p : Regrown, w'' = grow (redrawn w p.d) p.os := turned_of 17 (by omega) (by omega) x w d os
theorem turned19 (x : UInt32) (w : World) (d : Nat) (os : Array Obj) :
    Calls Tryz.prog 115 #[.int .u32 (wn x), .int .i64 19] (grow (redrawn w d) os) fun e w'' => e = .returned (.int .u32 (wn (rotr x 19))) ∧ ∃ p : Regrown, w'' = grow (redrawn w p.d) p.os := turned_of 19 (by omega) (by omega) x w d os
theorem turned6 (x : UInt32) (w : World) (d : Nat) (os : Array Obj) :
    Calls Tryz.prog 115 #[.int .u32 (wn x), .int .i64 6] (grow (redrawn w d) os) fun e w'' => e = .returned (.int .u32 (wn (rotr x 6))) ∧ ∃ p : Regrown, w'' = grow (redrawn w p.d) p.os := turned_of 6 (by omega) (by omega) x w d os
theorem turned11 (x : UInt32) (w : World) (d : Nat) (os : Array Obj) :
    Calls Tryz.prog 115 #[.int .u32 (wn x), .int .i64 11] (grow (redrawn w d) os) fun e w'' => e = .returned (.int .u32 (wn (rotr x 11))) ∧ ∃ p : Regrown, w'' = grow (redrawn w p.d) p.os := turned_of 11 (by omega) (by omega) x w d os
theorem turned25 (x : UInt32) (w : World) (d : Nat) (os : Array Obj) :
    Calls Tryz.prog 115 #[.int .u32 (wn x), .int .i64 25] (grow (redrawn w d) os) fun e w'' => e = .returned (.int .u32 (wn (rotr x 25))) ∧ ∃ p : Regrown, w'' = grow (redrawn w p.d) p.os := turned_of 25 (by omega) (by omega) x w d os
theorem turned2 (x : UInt32) (w : World) (d : Nat) (os : Array Obj) :
    Calls Tryz.prog 115 #[.int .u32 (wn x), .int .i64 2] (grow (redrawn w d) os) fun e w'' => e = .returned (.int .u32 (wn (rotr x 2))) ∧ ∃ p : Regrown, w'' = grow (redrawn w p.d) p.os := turned_of 2 (by omega) (by omega) x w d os
theorem turned13 (x : UInt32) (w : World) (d : Nat) (os : Array Obj) :
    Calls Tryz.prog 115 #[.int .u32 (wn x), .int .i64 13] (grow (redrawn w d) os) fun e w'' => e = .returned (.int .u32 (wn (rotr x 13))) ∧ ∃ p : Regrown, w'' = grow (redrawn w p.d) p.os := turned_of 13 (by omega) (by omega) x w d os
theorem turned22 (x : UInt32) (w : World) (d : Nat) (os : Array Obj) :
    Calls Tryz.prog 115 #[.int .u32 (wn x), .int .i64 22] (grow (redrawn w d) os) fun e w'' => e = .returned (.int .u32 (wn (rotr x 22))) ∧ ∃ p : Regrown, w'' = grow (redrawn w p.d) p.os := turned_of 22 (by omega) (by omega) x w d os

/-- the loops of a text, in its order -/
def loopsOf : Code → List Code
  | .loop c => .loop c :: loopsOf c
  | .seq a b => loopsOf a ++ loopsOf b
  | .cond _ a b => loopsOf a ++ loopsOf b
  | .block _ c => loopsOf c
  | .scope c => loopsOf c
  | .rangeFunc _ _ a b => loopsOf a ++ loopsOf b
  | _ => []
noncomputable def loopAt (f : Func) (k : Nat) : Code := ((f.body.map loopsOf).getD [])[k]?.getD .skip

/-- a loop is left by its exit, and there R holds -/
def AtExit (n : Nat) (R : Act → World → Prop) : Exit → Act → World → Prop
  | .exit k, a, w => k = n ∧ R a w
  | _, _, _ => False
theorem AtExit.of {n : Nat} {R : Act → World → Prop} {e : Exit} {a : Act} {w : World} (h : AtExit n R e a w) : e = .exit n ∧ R a w := by
  cases e <;> simp [AtExit] at h
  exact ⟨by rw [h.1], h.2⟩

set_option maxRecDepth 100000 in
set_option maxHeartbeats 8000000 in
theorem rsum_L4 {u0 u1 u2 u3 u4 u5 u6 u8 u9 u10 u12 u13 u14 u15 u16 u17 u18 u19 u20 u21 u22 u23 u24 u25 u26 u27 u28 u29 u30 u31 u32 u33 u34 u35 u36 u37 u38 u39 u40 u41 u42 u43 u44 u45 u46 u47 u48 u49 u50 u51 u52 u53 u54 u55 u56 u57 u58 u59 u60 u61 u62 u63 u64 u65 u66 u67 u68 u69 u70 u71 u72 u73 u74 u75 u76 u77 u78 u79 u80 u81 u82 u83 u84 u85 u86 u87 u88 u89 u90 u91 u92 u93 u94 u95 u96 u97 u98 u99 u100 u101 u102 u103 u104 u105 u106 u107 u108 u109 u110 u111 u112 u113 u114 u115 u116 u117 u118 u119 u120 u121 u122 u123 u124 u125 u126 u127 u128 u129 u130 u131 u132 u133 u134 u135 u136 u137 u138 u139 u140 u141 u142 u143 u144 u145 u146 u147 u148 u149 u150 u151 u152 u153 u154 u155 u156 u157 u158 u159 u160 u161 u162 u163 u164 u165 u166 u167 u168 u169 u170 u171 u172 u173 u174 u175 u176 u177 u178 u179 u180 u181 u182 u183 u184 u185 u186 u187 u188 u189 u190 u191 u192 u193 u194 u195 u196 u197 u198 u199 u200 u201 u202 u203 u204 u205 u206 u207 u208 u209 u210 u211 u212 u213 u214 u215 u216 u217 u218 u219 u220 u221 u222 u223 u224 u225 u226 u227 u228 u229 u230 u231 u232 u233 u234 u235 u236 u237 u238 u239 u240 u241 u242 u243 u244 u245 u246 u247 u248 u249 u250 u251 u252 u253 u254 u255 u256 u257 u258 u259 u260 u261 u262 u263 u264 u265 u266 u267 u268 u269 u270 u271 u272 u273 u274 u275 u276 u277 u278 u279 u280 u281 u282 u283 u284 u285 u286 u287 u288 u289 u290 u291 u292 v7 : Value} (m : Nat → UInt32) (n B : Nat) (W2 : World) (hn : Hid (n = 64)) (HOB : Hid (Ou W2 B v7 ((List.range 16).map (sched m)))) (hB : B ≤ W2.heap.size) :
    Code.wp Tryz.prog (loopAt Tryz.f96 3) (AtExit 6 fun a' W' => ∃ (f : Nat → Value) (vw : Value), a' = { tmps := List.toArray ((u0) :: (u1) :: (u2) :: (u3) :: (u4) :: (u5) :: (u6) :: (vw) :: (u8) :: (u9) :: (u10) :: (.int .i64 64) :: (f 12) :: (f 13) :: (u14) :: (u15) :: (u16) :: (u17) :: (u18) :: (u19) :: (u20) :: (u21) :: (u22) :: (u23) :: (u24) :: (u25) :: (u26) :: (u27) :: (u28) :: (u29) :: (u30) :: (u31) :: (u32) :: (u33) :: (u34) :: (u35) :: (u36) :: (u37) :: (u38) :: (u39) :: (u40) :: (u41) :: (u42) :: (u43) :: (u44) :: (u45) :: (u46) :: (u47) :: (u48) :: (u49) :: (u50) :: (u51) :: (u52) :: (u53) :: (u54) :: (u55) :: (u56) :: (u57) :: (u58) :: (u59) :: (f 60) :: (f 61) :: (f 62) :: (f 63) :: (f 64) :: (f 65) :: (f 66) :: (f 67) :: (f 68) :: (f 69) :: (f 70) :: (f 71) :: (f 72) :: (f 73) :: (f 74) :: (f 75) :: (f 76) :: (f 77) :: (f 78) :: (f 79) :: (f 80) :: (f 81) :: (f 82) :: (f 83) :: (f 84) :: (f 85) :: (f 86) :: (f 87) :: (f 88) :: (f 89) :: (f 90) :: (f 91) :: (f 92) :: (f 93) :: (f 94) :: (f 95) :: (f 96) :: (f 97) :: (f 98) :: (f 99) :: (f 100) :: (f 101) :: (f 102) :: (f 103) :: (f 104) :: (f 105) :: (f 106) :: (f 107) :: (f 108) :: (f 109) :: (f 110) :: (f 111) :: (f 112) :: (f 113) :: (f 114) :: (f 115) :: (f 116) :: (f 117) :: (f 118) :: (f 119) :: (f 120) :: (f 121) :: (u122) :: (u123) :: (u124) :: (u125) :: (u126) :: (u127) :: (u128) :: (u129) :: (u130) :: (u131) :: (u132) :: (u133) :: (u134) :: (u135) :: (u136) :: (u137) :: (u138) :: (u139) :: (u140) :: (u141) :: (u142) :: (u143) :: (u144) :: (u145) :: (u146) :: (u147) :: (u148) :: (u149) :: (u150) :: (u151) :: (u152) :: (u153) :: (u154) :: (u155) :: (u156) :: (u157) :: (u158) :: (u159) :: (u160) :: (u161) :: (u162) :: (u163) :: (u164) :: (u165) :: (u166) :: (u167) :: (u168) :: (u169) :: (u170) :: (u171) :: (u172) :: (u173) :: (u174) :: (u175) :: (u176) :: (u177) :: (u178) :: (u179) :: (u180) :: (u181) :: (u182) :: (u183) :: (u184) :: (u185) :: (u186) :: (u187) :: (u188) :: (u189) :: (u190) :: (u191) :: (u192) :: (u193) :: (u194) :: (u195) :: (u196) :: (u197) :: (u198) :: (u199) :: (u200) :: (u201) :: (u202) :: (u203) :: (u204) :: (u205) :: (u206) :: (u207) :: (u208) :: (u209) :: (u210) :: (u211) :: (u212) :: (u213) :: (u214) :: (u215) :: (u216) :: (u217) :: (u218) :: (u219) :: (u220) :: (u221) :: (u222) :: (u223) :: (u224) :: (u225) :: (u226) :: (u227) :: (u228) :: (u229) :: (u230) :: (u231) :: (u232) :: (u233) :: (u234) :: (u235) :: (u236) :: (u237) :: (u238) :: (u239) :: (u240) :: (u241) :: (u242) :: (u243) :: (u244) :: (u245) :: (u246) :: (u247) :: (u248) :: (u249) :: (u250) :: (u251) :: (u252) :: (u253) :: (u254) :: (u255) :: (u256) :: (u257) :: (u258) :: (u259) :: (u260) :: (u261) :: (u262) :: (u263) :: (u264) :: (u265) :: (u266) :: (u267) :: (u268) :: (u269) :: (u270) :: (u271) :: (u272) :: (u273) :: (u274) :: (u275) :: (u276) :: (u277) :: (u278) :: (u279) :: (u280) :: (u281) :: (u282) :: (u283) :: (u284) :: (u285) :: (u286) :: (u287) :: (u288) :: (u289) :: (u290) :: (u291) :: (u292) :: []), defers := [] } ∧ Hid (Ou W' B vw ((List.range n).map (sched m))) ∧ Hid (Below B W2 W')) { tmps := List.toArray ((u0) :: (u1) :: (u2) :: (u3) :: (u4) :: (u5) :: (u6) :: (v7) :: (u8) :: (u9) :: (u10) :: (.int .i64 16) :: (u12) :: (u13) :: (u14) :: (u15) :: (u16) :: (u17) :: (u18) :: (u19) :: (u20) :: (u21) :: (u22) :: (u23) :: (u24) :: (u25) :: (u26) :: (u27) :: (u28) :: (u29) :: (u30) :: (u31) :: (u32) :: (u33) :: (u34) :: (u35) :: (u36) :: (u37) :: (u38) :: (u39) :: (u40) :: (u41) :: (u42) :: (u43) :: (u44) :: (u45) :: (u46) :: (u47) :: (u48) :: (u49) :: (u50) :: (u51) :: (u52) :: (u53) :: (u54) :: (u55) :: (u56) :: (u57) :: (u58) :: (u59) :: (u60) :: (u61) :: (u62) :: (u63) :: (u64) :: (u65) :: (u66) :: (u67) :: (u68) :: (u69) :: (u70) :: (u71) :: (u72) :: (u73) :: (u74) :: (u75) :: (u76) :: (u77) :: (u78) :: (u79) :: (u80) :: (u81) :: (u82) :: (u83) :: (u84) :: (u85) :: (u86) :: (u87) :: (u88) :: (u89) :: (u90) :: (u91) :: (u92) :: (u93) :: (u94) :: (u95) :: (u96) :: (u97) :: (u98) :: (u99) :: (u100) :: (u101) :: (u102) :: (u103) :: (u104) :: (u105) :: (u106) :: (u107) :: (u108) :: (u109) :: (u110) :: (u111) :: (u112) :: (u113) :: (u114) :: (u115) :: (u116) :: (u117) :: (u118) :: (u119) :: (u120) :: (u121) :: (u122) :: (u123) :: (u124) :: (u125) :: (u126) :: (u127) :: (u128) :: (u129) :: (u130) :: (u131) :: (u132) :: (u133) :: (u134) :: (u135) :: (u136) :: (u137) :: (u138) :: (u139) :: (u140) :: (u141) :: (u142) :: (u143) :: (u144) :: (u145) :: (u146) :: (u147) :: (u148) :: (u149) :: (u150) :: (u151) :: (u152) :: (u153) :: (u154) :: (u155) :: (u156) :: (u157) :: (u158) :: (u159) :: (u160) :: (u161) :: (u162) :: (u163) :: (u164) :: (u165) :: (u166) :: (u167) :: (u168) :: (u169) :: (u170) :: (u171) :: (u172) :: (u173) :: (u174) :: (u175) :: (u176) :: (u177) :: (u178) :: (u179) :: (u180) :: (u181) :: (u182) :: (u183) :: (u184) :: (u185) :: (u186) :: (u187) :: (u188) :: (u189) :: (u190) :: (u191) :: (u192) :: (u193) :: (u194) :: (u195) :: (u196) :: (u197) :: (u198) :: (u199) :: (u200) :: (u201) :: (u202) :: (u203) :: (u204) :: (u205) :: (u206) :: (u207) :: (u208) :: (u209) :: (u210) :: (u211) :: (u212) :: (u213) :: (u214) :: (u215) :: (u216) :: (u217) :: (u218) :: (u219) :: (u220) :: (u221) :: (u222) :: (u223) :: (u224) :: (u225) :: (u226) :: (u227) :: (u228) :: (u229) :: (u230) :: (u231) :: (u232) :: (u233) :: (u234) :: (u235) :: (u236) :: (u237) :: (u238) :: (u239) :: (u240) :: (u241) :: (u242) :: (u243) :: (u244) :: (u245) :: (u246) :: (u247) :: (u248) :: (u249) :: (u250) :: (u251) :: (u252) :: (u253) :: (u254) :: (u255) :: (u256) :: (u257) :: (u258) :: (u259) :: (u260) :: (u261) :: (u262) :: (u263) :: (u264) :: (u265) :: (u266) :: (u267) :: (u268) :: (u269) :: (u270) :: (u271) :: (u272) :: (u273) :: (u274) :: (u275) :: (u276) :: (u277) :: (u278) :: (u279) :: (u280) :: (u281) :: (u282) :: (u283) :: (u284) :: (u285) :: (u286) :: (u287) :: (u288) :: (u289) :: (u290) :: (u291) :: (u292) :: []), defers := [] } W2 := by
  have WADD := w_add
  have WADD2 := w_addw
  have WMOD := w_mod
  have WMOD2 := w_modw
  conv => arg 2; whnf
  go_loopw [7, 11] (fun vw vi wr => ∃ t : Nat, 16 ≤ t ∧ t ≤ 64 ∧ vi = .int .i64 t ∧ Hid (Ou wr B vw ((List.range t).map (sched m))) ∧ Hid (Below B W2 wr)) (fun _ vi _ => 64 - (intOf vi).toNat)
  case atStart => exact ⟨16, by omega, by omega, rfl, HOB, Lib.hid (Below.refl _ _)⟩
  case round =>
    obtain ⟨t, ht16, ht, rfl, how, hbw1⟩ := hrel
    by_cases hlt : t < 64
    · skip
      have e2 : (t : Int) < 64 := by omega
      obtain ⟨wa, wc, wadr, hvw, -, -, wi, wlt, wcell⟩ := how.out.us.open_n t (by simp)
      subst hvw
      have x15 : ∀ W, (Instr.indexAt 153 (.slice wa t wc) (.int .i64 ((t : Int) - 15))).run Tryz.prog W = .ok (.pointer (some (wadr (t - 15)))) W := fun W => by
        have := wi W (t - 15) (by omega)
        rwa [show ((t - 15 : Nat) : Int) = (t : Int) - 15 by omega] at this
      have x2 : ∀ W, (Instr.indexAt 153 (.slice wa t wc) (.int .i64 ((t : Int) - 2))).run Tryz.prog W = .ok (.pointer (some (wadr (t - 2)))) W := fun W => by
        have := wi W (t - 2) (by omega)
        rwa [show ((t - 2 : Nat) : Int) = (t : Int) - 2 by omega] at this
      have x16 : ∀ W, (Instr.indexAt 153 (.slice wa t wc) (.int .i64 ((t : Int) - 16))).run Tryz.prog W = .ok (.pointer (some (wadr (t - 16)))) W := fun W => by
        have := wi W (t - 16) (by omega)
        rwa [show ((t - 16 : Nat) : Int) = (t : Int) - 16 by omega] at this
      have x7 : ∀ W, (Instr.indexAt 153 (.slice wa t wc) (.int .i64 ((t : Int) - 7))).run Tryz.prog W = .ok (.pointer (some (wadr (t - 7)))) W := fun W => by
        have := wi W (t - 7) (by omega)
        rwa [show ((t - 7 : Nat) : Int) = (t : Int) - 7 by omega] at this
      have WCELL : Hid (∀ W, Below wr.heap.size wr W → ∀ j, j < t → W.cell? (wadr j) = some (.int .u32 (wn (sched m j)))) := by
        intro W hW j hj
        rw [hW.cell (wlt j hj), wcell j hj, range_get _ _ _ hj]
      have c15 := fun d os => cell_regrown (WCELL.out wr (Below.refl _ _) (t - 15) (by omega)) d os
      have WR3 := fun x => w_shr x 3 (by omega)
      have WR10 := fun x => w_shr x 10 (by omega)
      have WXOR := w_xor
      simp only [Int.reducePow] at WR3 WR10
      have XI := Lib.hid (And.intro x2 (And.intro x16 x7))
      clear wi wlt wcell x2 x16 x7
      go_upto_region 20 with fail
      refine wp_region_quiet_below (by kernel_rfl) (by kernel_rfl) ?_
      repeat (go_big_quiet_step ((first | (go_at_call 115; with_reducible exact turned7 _ _ _ _) | (go_at_call 115; with_reducible exact turned18 _ _ _ _))))
      refine wpQuiet_nil ?_
      intro _ hw'
      obtain ⟨⟨dq, osq⟩, hw''⟩ := hw'
      subst hw''
      have HB4 := below_regrown wr dq osq
      obtain ⟨W4, hwq⟩ : ∃ x, x = grow (redrawn wr dq) osq := ⟨_, rfl⟩
      rw [← hwq] at HB4 ⊢
      clear hwq
      clear c15 x15
      have c2 := fun d os => cell_regrown (WCELL.out W4 HB4 (t - 2) (by omega)) d os
      have x2 := XI.out.1
      have HB4' := Lib.hid HB4
      clear HB4
      go_upto_region 21 with fail
      refine wp_region_quiet_below (by kernel_rfl) (by kernel_rfl) ?_
      repeat (go_big_quiet_step ((first | (go_at_call 115; with_reducible exact turned17 _ _ _ _) | (go_at_call 115; with_reducible exact turned19 _ _ _ _))))
      refine wpQuiet_nil ?_
      intro _ hw'
      obtain ⟨⟨dq, osq⟩, hw''⟩ := hw'
      subst hw''
      have HB5 := below_regrown W4 dq osq
      obtain ⟨W5, hwq⟩ : ∃ x, x = grow (redrawn W4 dq) osq := ⟨_, rfl⟩
      rw [← hwq] at HB5 ⊢
      clear hwq
      clear c2 x2
      have hb5 : Below wr.heap.size wr W5 := HB4'.out.trans (HB5.mono HB4'.out.size)
      have c16 := WCELL.out W5 hb5 (t - 16) (by omega)
      have c7 := WCELL.out W5 hb5 (t - 7) (by omega)
      have x16 := XI.out.2.1
      have x7 := XI.out.2.2
      have HVV2 : Hid (Ou W5 B (Value.slice wa t wc) ((List.range t).map (sched m))) := by
        exact how.out.below hb5
      have HB5' := Lib.hid hb5
      clear HB5 hb5
      have y16 : IntKind.i64.wrap ((t : Int) - 16) = (t : Int) - 16 := IntWalk.i64_in _ (by omega)
      have y7 : IntKind.i64.wrap ((t : Int) - 7) = (t : Int) - 7 := IntWalk.i64_in _ (by omega)
      go_upto_region 22 with fail
      go_region_law (refine step_append_u32 (HVV2.out.drew) (sched m t) (by simp; omega) (by have := hbw1.out.size; have := HB5'.out.size; simp; omega) ?_ _ _ rfl rfl _ rfl rfl (by exact congrArg (fun x => Value.int IntKind.u32 (wn x)) (sched_ref m ht16)); intro v6 w6 ho6 hb6)
      all_goals
        have HO6 := Lib.hid ho6
        have HB6 := Lib.hid hb6
        clear ho6 hb6
        go_wp2
        go_roundw
        case rel =>
          refine ⟨t + 1, by omega, by omega, by go_num, Lib.hid ?_, Lib.hid ?_⟩
          · have h1 := HO6.out
            rw [range_snoc] at h1
            exact h1
          · exact hbw1.out.trans (((HB5'.out.mono (by have := hbw1.out.size; omega)).drew).trans HB6.out)
        case measure => simp [intOf]; omega
    · have e2 : ¬ (t : Int) < 64 := by omega
      obtain rfl : t = 64 := by omega

      have hw2 : Hid (Ou wr B u7 ((List.range n).map (sched m))) := by have := how.out; have h2 := hn.out; show Ou _ _ _ _; rw [h2]; exact this

      go_wp2
      exact ⟨rfl, fun i => List.getD (u12 :: u13 :: .int .i64 64 :: .bool false :: u62 :: u63 :: u64 :: u65 :: u66 :: u67 :: u68 :: u69 :: u70 :: u71 :: u72 :: u73 :: u74 :: u75 :: u76 :: u77 :: u78 :: u79 :: u80 :: u81 :: u82 :: u83 :: u84 :: u85 :: u86 :: u87 :: u88 :: u89 :: u90 :: u91 :: u92 :: u93 :: u94 :: u95 :: u96 :: u97 :: u98 :: u99 :: u100 :: u101 :: u102 :: u103 :: u104 :: u105 :: u106 :: u107 :: u108 :: u109 :: u110 :: u111 :: u112 :: u113 :: u114 :: u115 :: u116 :: u117 :: u118 :: u119 :: u120 :: u121 :: []) (if i < 14 then i - 12 else i - 58) u7, u7, rfl, hw2, hbw1⟩

end Go.Proofs.YtjnbdeopoohnmaaGreatDoor
