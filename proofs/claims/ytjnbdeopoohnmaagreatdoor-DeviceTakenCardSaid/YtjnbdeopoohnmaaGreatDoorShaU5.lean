/- Layer 7 (sha): the reference's Sum: the loop of the rounds, as a declaration of its own. -/
import Derived.Test.YtjnbdeopoohnmaaGreatDoorShaU4
set_option linter.unusedSimpArgs false
namespace Go.Proofs.YtjnbdeopoohnmaaGreatDoor
open Go.RowKit Go.Sort

set_option maxRecDepth 100000 in
set_option maxHeartbeats 8000000 in
theorem rsum_L5 {u0 u1 u2 u4 u5 u6 u8 u9 u10 u11 u12 u13 u16 u17 u18 u19 u20 u21 u22 u23 u24 u25 u26 u27 u28 u29 u30 u31 u32 u33 u34 u35 u36 u37 u38 u39 u40 u41 u42 u43 u44 u45 u46 u47 u48 u49 u50 u51 u52 u53 u54 u55 u56 u57 u58 u59 u60 u61 u62 u63 u64 u65 u66 u67 u68 u69 u70 u71 u72 u73 u74 u75 u76 u77 u78 u79 u80 u81 u82 u83 u84 u85 u86 u87 u88 u89 u90 u91 u92 u93 u94 u95 u96 u97 u98 u99 u100 u101 u102 u103 u104 u105 u106 u107 u108 u109 u110 u111 u112 u113 u114 u115 u116 u117 u118 u119 u120 u121 u122 u123 u124 u125 u126 u127 u128 u129 u130 u131 u132 u133 u134 u135 u136 u137 u138 u139 u140 u141 u142 u143 u144 u145 u146 u147 u148 u149 u150 u151 u152 u153 u154 u155 u156 u157 u158 u159 u160 u161 u162 u163 u164 u165 u166 u167 u168 u169 u170 u171 u172 u173 u174 u175 u176 u177 u178 u179 u180 u181 u182 u183 u184 u185 u186 u187 u188 u189 u190 u191 u192 u193 u194 u195 u196 u197 u198 u199 u200 u201 u202 u203 u204 u205 u206 u207 u208 u209 u210 u211 u212 u213 u214 u215 u216 u217 u218 u219 u220 u221 u222 u223 u224 u225 u226 u227 u228 u229 u230 u231 u232 u233 u234 u235 u236 u237 u238 u239 u240 u241 u242 u243 u244 u245 u246 u247 u248 u249 u250 u251 u252 u253 u254 u255 u256 u257 u258 u259 u260 u261 u262 u263 u264 u265 u266 u267 u268 u269 u270 u271 u272 u273 u274 u275 u276 u277 u278 u279 u280 u281 u282 u283 u284 u285 u286 u287 u288 u289 u290 u291 u292 v14 : Value} {ka wa : Option Addr} {kc wc : Nat} (kadr wadr : Nat → Addr) (m : Nat → UInt32) (s : St) (n : Nat) (W4 : World) (hn : Hid (n = 64))
    (KI : Hid (∀ (W : World) (i : Nat), i < 64 → (Instr.indexAt 153 (.slice ka 64 kc) (.int .i64 (i : Int))).run Tryz.prog W = .ok (.pointer (some (kadr i))) W))
    (KC : Hid (∀ W, Below W4.heap.size W4 W → ∀ t, t < 64 → W.cell? (kadr t) = some (.int .u32 (wn (shaK t)))))
    (WI : Hid (∀ (W : World) (i : Nat), i < 64 → (Instr.indexAt 153 (.slice wa 64 wc) (.int .i64 (i : Int))).run Tryz.prog W = .ok (.pointer (some (wadr i))) W))
    (WC : Hid (∀ W, Below W4.heap.size W4 W → ∀ t, t < 64 → W.cell? (wadr t) = some (.int .u32 (wn (sched m t)))))
    (HV0 : Hid (Us W4 v14 s.list)) :
    Code.wp Tryz.prog (loopAt Tryz.f96 4) (AtExit 8 fun a' W' => ∃ (f : Nat → Value) (vw : Value), a' = { tmps := List.toArray ((u0) :: (u1) :: (u2) :: (.slice ka 64 kc) :: (u4) :: (u5) :: (u6) :: (.slice wa 64 wc) :: (u8) :: (u9) :: (u10) :: (u11) :: (u12) :: (u13) :: (vw) :: (.int .i64 64) :: (f 16) :: (f 17) :: (f 18) :: (f 19) :: (f 20) :: (u21) :: (u22) :: (u23) :: (u24) :: (u25) :: (u26) :: (u27) :: (u28) :: (u29) :: (u30) :: (u31) :: (u32) :: (u33) :: (u34) :: (u35) :: (u36) :: (u37) :: (u38) :: (u39) :: (u40) :: (u41) :: (u42) :: (u43) :: (u44) :: (u45) :: (u46) :: (u47) :: (u48) :: (u49) :: (u50) :: (u51) :: (u52) :: (u53) :: (u54) :: (u55) :: (u56) :: (u57) :: (u58) :: (u59) :: (u60) :: (u61) :: (u62) :: (u63) :: (u64) :: (u65) :: (u66) :: (u67) :: (u68) :: (u69) :: (u70) :: (u71) :: (u72) :: (u73) :: (u74) :: (u75) :: (u76) :: (u77) :: (u78) :: (u79) :: (u80) :: (u81) :: (u82) :: (u83) :: (u84) :: (u85) :: (u86) :: (u87) :: (u88) :: (u89) :: (u90) :: (u91) :: (u92) :: (u93) :: (u94) :: (u95) :: (u96) :: (u97) :: (u98) :: (u99) :: (u100) :: (u101) :: (u102) :: (u103) :: (u104) :: (u105) :: (u106) :: (u107) :: (u108) :: (u109) :: (u110) :: (u111) :: (u112) :: (u113) :: (u114) :: (u115) :: (u116) :: (u117) :: (u118) :: (u119) :: (u120) :: (u121) :: (u122) :: (u123) :: (u124) :: (f 125) :: (f 126) :: (f 127) :: (f 128) :: (f 129) :: (f 130) :: (f 131) :: (f 132) :: (f 133) :: (f 134) :: (f 135) :: (f 136) :: (f 137) :: (f 138) :: (f 139) :: (f 140) :: (f 141) :: (f 142) :: (f 143) :: (f 144) :: (f 145) :: (f 146) :: (f 147) :: (f 148) :: (f 149) :: (f 150) :: (f 151) :: (f 152) :: (f 153) :: (f 154) :: (f 155) :: (f 156) :: (f 157) :: (f 158) :: (f 159) :: (f 160) :: (f 161) :: (f 162) :: (f 163) :: (f 164) :: (f 165) :: (f 166) :: (f 167) :: (f 168) :: (f 169) :: (f 170) :: (f 171) :: (f 172) :: (f 173) :: (f 174) :: (f 175) :: (f 176) :: (f 177) :: (f 178) :: (f 179) :: (f 180) :: (f 181) :: (f 182) :: (f 183) :: (f 184) :: (f 185) :: (f 186) :: (f 187) :: (f 188) :: (f 189) :: (f 190) :: (f 191) :: (f 192) :: (f 193) :: (f 194) :: (f 195) :: (f 196) :: (f 197) :: (f 198) :: (f 199) :: (f 200) :: (f 201) :: (f 202) :: (f 203) :: (f 204) :: (f 205) :: (f 206) :: (f 207) :: (f 208) :: (f 209) :: (f 210) :: (f 211) :: (f 212) :: (f 213) :: (f 214) :: (f 215) :: (f 216) :: (f 217) :: (f 218) :: (f 219) :: (f 220) :: (f 221) :: (f 222) :: (f 223) :: (f 224) :: (f 225) :: (f 226) :: (f 227) :: (f 228) :: (f 229) :: (f 230) :: (f 231) :: (f 232) :: (f 233) :: (f 234) :: (f 235) :: (f 236) :: (f 237) :: (f 238) :: (f 239) :: (f 240) :: (f 241) :: (u242) :: (u243) :: (u244) :: (u245) :: (u246) :: (u247) :: (u248) :: (u249) :: (u250) :: (u251) :: (u252) :: (u253) :: (u254) :: (u255) :: (u256) :: (u257) :: (u258) :: (u259) :: (u260) :: (u261) :: (u262) :: (u263) :: (u264) :: (u265) :: (u266) :: (u267) :: (u268) :: (u269) :: (u270) :: (u271) :: (u272) :: (u273) :: (u274) :: (u275) :: (u276) :: (u277) :: (u278) :: (u279) :: (u280) :: (u281) :: (u282) :: (u283) :: (u284) :: (u285) :: (u286) :: (u287) :: (u288) :: (u289) :: (u290) :: (u291) :: (u292) :: []), defers := [] } ∧ Hid (Us W' vw (rnds shaK (sched m) s n).list) ∧ Hid (Below W4.heap.size W4 W')) { tmps := List.toArray ((u0) :: (u1) :: (u2) :: (.slice ka 64 kc) :: (u4) :: (u5) :: (u6) :: (.slice wa 64 wc) :: (u8) :: (u9) :: (u10) :: (u11) :: (u12) :: (u13) :: (v14) :: (.int .i64 0) :: (u16) :: (u17) :: (u18) :: (u19) :: (u20) :: (u21) :: (u22) :: (u23) :: (u24) :: (u25) :: (u26) :: (u27) :: (u28) :: (u29) :: (u30) :: (u31) :: (u32) :: (u33) :: (u34) :: (u35) :: (u36) :: (u37) :: (u38) :: (u39) :: (u40) :: (u41) :: (u42) :: (u43) :: (u44) :: (u45) :: (u46) :: (u47) :: (u48) :: (u49) :: (u50) :: (u51) :: (u52) :: (u53) :: (u54) :: (u55) :: (u56) :: (u57) :: (u58) :: (u59) :: (u60) :: (u61) :: (u62) :: (u63) :: (u64) :: (u65) :: (u66) :: (u67) :: (u68) :: (u69) :: (u70) :: (u71) :: (u72) :: (u73) :: (u74) :: (u75) :: (u76) :: (u77) :: (u78) :: (u79) :: (u80) :: (u81) :: (u82) :: (u83) :: (u84) :: (u85) :: (u86) :: (u87) :: (u88) :: (u89) :: (u90) :: (u91) :: (u92) :: (u93) :: (u94) :: (u95) :: (u96) :: (u97) :: (u98) :: (u99) :: (u100) :: (u101) :: (u102) :: (u103) :: (u104) :: (u105) :: (u106) :: (u107) :: (u108) :: (u109) :: (u110) :: (u111) :: (u112) :: (u113) :: (u114) :: (u115) :: (u116) :: (u117) :: (u118) :: (u119) :: (u120) :: (u121) :: (u122) :: (u123) :: (u124) :: (u125) :: (u126) :: (u127) :: (u128) :: (u129) :: (u130) :: (u131) :: (u132) :: (u133) :: (u134) :: (u135) :: (u136) :: (u137) :: (u138) :: (u139) :: (u140) :: (u141) :: (u142) :: (u143) :: (u144) :: (u145) :: (u146) :: (u147) :: (u148) :: (u149) :: (u150) :: (u151) :: (u152) :: (u153) :: (u154) :: (u155) :: (u156) :: (u157) :: (u158) :: (u159) :: (u160) :: (u161) :: (u162) :: (u163) :: (u164) :: (u165) :: (u166) :: (u167) :: (u168) :: (u169) :: (u170) :: (u171) :: (u172) :: (u173) :: (u174) :: (u175) :: (u176) :: (u177) :: (u178) :: (u179) :: (u180) :: (u181) :: (u182) :: (u183) :: (u184) :: (u185) :: (u186) :: (u187) :: (u188) :: (u189) :: (u190) :: (u191) :: (u192) :: (u193) :: (u194) :: (u195) :: (u196) :: (u197) :: (u198) :: (u199) :: (u200) :: (u201) :: (u202) :: (u203) :: (u204) :: (u205) :: (u206) :: (u207) :: (u208) :: (u209) :: (u210) :: (u211) :: (u212) :: (u213) :: (u214) :: (u215) :: (u216) :: (u217) :: (u218) :: (u219) :: (u220) :: (u221) :: (u222) :: (u223) :: (u224) :: (u225) :: (u226) :: (u227) :: (u228) :: (u229) :: (u230) :: (u231) :: (u232) :: (u233) :: (u234) :: (u235) :: (u236) :: (u237) :: (u238) :: (u239) :: (u240) :: (u241) :: (u242) :: (u243) :: (u244) :: (u245) :: (u246) :: (u247) :: (u248) :: (u249) :: (u250) :: (u251) :: (u252) :: (u253) :: (u254) :: (u255) :: (u256) :: (u257) :: (u258) :: (u259) :: (u260) :: (u261) :: (u262) :: (u263) :: (u264) :: (u265) :: (u266) :: (u267) :: (u268) :: (u269) :: (u270) :: (u271) :: (u272) :: (u273) :: (u274) :: (u275) :: (u276) :: (u277) :: (u278) :: (u279) :: (u280) :: (u281) :: (u282) :: (u283) :: (u284) :: (u285) :: (u286) :: (u287) :: (u288) :: (u289) :: (u290) :: (u291) :: (u292) :: []), defers := [] } W4 := by
  have WADD := w_add
  have WADD2 := w_addw
  have WMOD := w_mod
  have WMOD2 := w_modw
  conv => arg 2; whnf
  go_loopw [14, 15] (fun vv vt wr => ∃ t : Nat, t ≤ 64 ∧ vt = .int .i64 t ∧ Hid (Us wr vv (rnds shaK (sched m) s t).list) ∧ Hid (Below W4.heap.size W4 wr)) (fun _ vt _ => 64 - (intOf vt).toNat)
  case atStart => exact ⟨0, by omega, rfl, HV0, Lib.hid (Below.refl _ _)⟩
  case round =>
    obtain ⟨t, ht, rfl, hv, hbv⟩ := hrel
    by_cases hlt : t < 64
    · skip
      have e2 : (t : Int) < 64 := by omega
      obtain ⟨S, hS⟩ : ∃ S, rnds shaK (sched m) s t = S := ⟨_, rfl⟩
      have HS := Lib.hid hS
      rw [hS] at hv
      clear hS
      obtain ⟨va, vc, vadr, hvv, -, -, vi, vlt, vcell⟩ := hv.out.open_n 8 rfl
      subst hvv
      have VC : Hid (∀ W, Below wr.heap.size wr W → ∀ j, j < 8 → W.cell? (vadr j) = some (.int .u32 (wn (S.nth j)))) := by
        intro W hW j hj
        rw [hW.cell (vlt j hj), vcell j hj, list_get _ _ hj]
      have V0 := fun W => vi W 0 (by omega)
      have V1 := fun W => vi W 1 (by omega)
      have V2 := fun W => vi W 2 (by omega)
      have V3 := fun W => vi W 3 (by omega)
      have V4 := fun W => vi W 4 (by omega)
      have V5 := fun W => vi W 5 (by omega)
      have V6 := fun W => vi W 6 (by omega)
      have V7 := fun W => vi W 7 (by omega)
      simp only [Int.natCast_zero, Int.natCast_one, Int.cast_ofNat_Int] at V0 V1 V2 V3 V4 V5 V6 V7
      have XK := fun W => KI.out W t hlt
      have XW := fun W => WI.out W t hlt
      have WXOR := w_xor
      have WAND := w_and
      have WNOT := w_not2
      clear vi vlt vcell hv
      have c4 := fun d os => cell_regrown (VC.out wr (Below.refl _ _) 4 (by omega)) d os
      go_upto_region 28 with fail
      refine wp_region_quiet_below (by kernel_rfl) (by kernel_rfl) ?_
      repeat (go_big_quiet_step ((first | (go_at_call 115; with_reducible exact turned6 _ _ _ _) | (go_at_call 115; with_reducible exact turned11 _ _ _ _) | (go_at_call 115; with_reducible exact turned25 _ _ _ _))))
      refine wpQuiet_nil ?_
      intro _ hw'
      obtain ⟨⟨dq, osq⟩, hw''⟩ := hw'
      subst hw''
      have HB6 := below_regrown wr dq osq
      obtain ⟨W6, hwq⟩ : ∃ x, x = grow (redrawn wr dq) osq := ⟨_, rfl⟩
      rw [← hwq] at HB6 ⊢
      clear hwq
      clear c4
      have d4 := VC.out W6 HB6 4 (by omega)
      have d5 := VC.out W6 HB6 5 (by omega)
      have d6 := VC.out W6 HB6 6 (by omega)
      go_upto_region 29 with fail
      go_quiet (fail)
      rw [ch_same]
      obtain ⟨W7, hW7⟩ : ∃ W, W6.drewN nq = W := ⟨_, rfl⟩
      have HB7 : Below wr.heap.size wr W7 := by rw [← hW7]; exact below_drewN HB6 _
      rw [hW7]
      clear hW7 HB6 d4 d5 d6
      have d7 := VC.out W7 HB7 7 (by omega)
      have ck := KC.out W7 (hbv.out.trans (HB7.mono hbv.out.size)) t hlt
      have cw := WC.out W7 (hbv.out.trans (HB7.mono hbv.out.size)) t hlt
      go_upto_region 30 with fail
      go_quiet (fail)
      clear d7 ck cw
      obtain ⟨one, hone⟩ : ∃ one, S.nth 7 + (rotr (S.nth 4) 6 ^^^ rotr (S.nth 4) 11 ^^^ rotr (S.nth 4) 25) + chW (S.nth 4) (S.nth 5) (S.nth 6) + shaK t + sched m t = one := ⟨_, rfl⟩
      rw [hone]
      have HONE := Lib.hid hone
      clear hone
      obtain ⟨W8, hW8⟩ : ∃ W, W7.drewN nq = W := ⟨_, rfl⟩
      have HB8 : Below wr.heap.size wr W8 := by rw [← hW8]; exact below_drewN HB7 _
      rw [hW8]
      clear hW8 HB7
      have c0 := fun d os => cell_regrown (VC.out W8 HB8 0 (by omega)) d os
      go_upto_region 31 with fail
      refine wp_region_quiet_below (by kernel_rfl) (by kernel_rfl) ?_
      repeat (go_big_quiet_step ((first | (go_at_call 115; with_reducible exact turned2 _ _ _ _) | (go_at_call 115; with_reducible exact turned13 _ _ _ _) | (go_at_call 115; with_reducible exact turned22 _ _ _ _))))
      refine wpQuiet_nil ?_
      intro _ hw'
      obtain ⟨⟨dq, osq⟩, hw''⟩ := hw'
      subst hw''
      have HB9 := below_regrown W8 dq osq
      obtain ⟨W9, hwq⟩ : ∃ x, x = grow (redrawn W8 dq) osq := ⟨_, rfl⟩
      rw [← hwq] at HB9 ⊢
      clear hwq
      clear c0
      have hb9 := HB8.trans (HB9.mono HB8.size)
      clear HB8 HB9
      have d0 := VC.out W9 hb9 0 (by omega)
      have d1 := VC.out W9 hb9 1 (by omega)
      have d2 := VC.out W9 hb9 2 (by omega)
      go_upto_region 32 with fail
      go_quiet (fail)
      rw [maj_same]
      obtain ⟨Wa, hWa⟩ : ∃ W, W9.drewN nq = W := ⟨_, rfl⟩
      have HBa : Below wr.heap.size wr Wa := by rw [← hWa]; exact below_drewN hb9 _
      rw [hWa]
      clear hWa hb9 d0 d1 d2
      go_upto_region 33 with fail
      refine wp_still_tail2 28 (by kernel_rfl) (by kernel_rfl) ?_
      intro Wb hWb
      have HBb : Below wr.heap.size wr Wb := by rw [hWb]; exact HBa.drew
      have d0 := VC.out Wb HBb 0 (by omega)
      have d1 := VC.out Wb HBb 1 (by omega)
      have d2 := VC.out Wb HBb 2 (by omega)
      have d3 := VC.out Wb HBb 3 (by omega)
      have d4 := VC.out Wb HBb 4 (by omega)
      have d5 := VC.out Wb HBb 5 (by omega)
      have d6 := VC.out Wb HBb 6 (by omega)
      have HBb := Lib.hid HBb
      clear hWb HBa
      simp only [List.take_succ_cons, List.take_zero, List.drop_succ_cons, List.drop_zero]
      iterate 28 still_step
      refine wpStill_nil ?_
      go_wp2
      go_roundw
      case rel =>
        refine ⟨t + 1, by omega, by go_num, Lib.hid ?_, Lib.hid ?_⟩
        · show Us _ _ (rstep (rnds shaK (sched m) s t) (shaK t) (sched m t)).list
          rw [HS.out]
          rw [← rstep_list S (shaK t) (sched m t) one _ _ rfl rfl HONE.out.symm]
          exact (ou_lit Wb _ _ 8 rfl (by decide) rfl).us
        · exact (hbv.out.trans (HBb.out.mono hbv.out.size)).alloc (by have := hbv.out.size; have := HBb.out.size; omega) _
      case measure => simp [intOf]; omega
    · have e2 : ¬ (t : Int) < 64 := by omega
      obtain rfl : t = 64 := by omega
      have hw2 : Hid (Us wr u14 (rnds shaK (sched m) s n).list) := by have := hv.out; have h2 := hn.out; show Us _ _ _; rw [h2]; exact this
      go_wp2
      exact ⟨rfl, fun i => List.getD (u16 :: u17 :: u18 :: u19 :: u20 :: .int .i64 64 :: .bool false :: u127 :: u128 :: u129 :: u130 :: u131 :: u132 :: u133 :: u134 :: u135 :: u136 :: u137 :: u138 :: u139 :: u140 :: u141 :: u142 :: u143 :: u144 :: u145 :: u146 :: u147 :: u148 :: u149 :: u150 :: u151 :: u152 :: u153 :: u154 :: u155 :: u156 :: u157 :: u158 :: u159 :: u160 :: u161 :: u162 :: u163 :: u164 :: u165 :: u166 :: u167 :: u168 :: u169 :: u170 :: u171 :: u172 :: u173 :: u174 :: u175 :: u176 :: u177 :: u178 :: u179 :: u180 :: u181 :: u182 :: u183 :: u184 :: u185 :: u186 :: u187 :: u188 :: u189 :: u190 :: u191 :: u192 :: u193 :: u194 :: u195 :: u196 :: u197 :: u198 :: u199 :: u200 :: u201 :: u202 :: u203 :: u204 :: u205 :: u206 :: u207 :: u208 :: u209 :: u210 :: u211 :: u212 :: u213 :: u214 :: u215 :: u216 :: u217 :: u218 :: u219 :: u220 :: u221 :: u222 :: u223 :: u224 :: u225 :: u226 :: u227 :: u228 :: u229 :: u230 :: u231 :: u232 :: u233 :: u234 :: u235 :: u236 :: u237 :: u238 :: u239 :: u240 :: u241 :: []) (if i < 21 then i - 16 else i - 120) u14, u14, rfl, hw2, hbv⟩

end Go.Proofs.YtjnbdeopoohnmaaGreatDoor
