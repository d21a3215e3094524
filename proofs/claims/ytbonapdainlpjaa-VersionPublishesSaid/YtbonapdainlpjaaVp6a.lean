/- Layer 19 (version): the statement VersionPublishes: its loop. -/
import Derived.Test.YtbonapdainlpjaaVp5
import Derived.Test.YtbonapdainlpjaaVe14
import Derived.Deep.RegionLaw
import Derived.Deep.DeepCutAuto
import Derived.Deep.CutBlock
import Derived.Lib.QuietBelow
set_option linter.unusedSimpArgs false
namespace Go.Proofs.Ytbonapdainlpjaa
open Go.RowKit Go.Sort

/-- those that the law takes -/
def lastL (p : Nat → Bool) (l : List NetX) : Nat → List NetX
  | 0 => []
  | j + 1 => lastL p l j ++ (if p j = true then l[j]?.toList else [])
theorem lastL_next {p : Nat → Bool} {l : List NetX} {j : Nat} {x : NetX} (h : l[j]? = some x) : lastL p l (j + 1) = lastL p l j ++ (if p j = true then [x] else []) := by
  simp [lastL, h]
theorem lastL_len (p : Nat → Bool) (l : List NetX) : ∀ j, (lastL p l j).length ≤ j
  | 0 => by simp [lastL]
  | j + 1 => by
    have := lastL_len p l j
    unfold lastL
    rw [List.length_append]
    split
    · have : (l[j]?.toList).length ≤ 1 := by cases l[j]? <;> simp
      omega
    · simp; omega
theorem lastL_drop {p : Nat → Bool} {l : List NetX} {s : Nat} (hp : ∀ j, j < l.length → p j = decide (s ≤ j)) : ∀ j, j ≤ l.length → lastL p l j = (l.take j).drop s
  | 0, _ => by simp [lastL]
  | j + 1, hj => by
    have ih := lastL_drop hp j (by omega)
    obtain ⟨x, hx⟩ : ∃ x, l[j]? = some x := ⟨_, List.getElem?_eq_getElem (by omega)⟩
    rw [lastL_next hx, ih, hp j (by omega), List.take_add_one, hx, List.drop_append]
    by_cases hs : s ≤ j
    · rw [if_pos (decide_eq_true hs), List.length_take, show s - min j l.length = 0 by omega]
      simp
    · rw [if_neg (by simpa using hs), List.append_nil, List.drop_of_length_le (i := s - (l.take j).length) (by rw [List.length_take]; simp; omega), List.append_nil]
theorem mem_lastL {p : Nat → Bool} {l : List NetX} {x : NetX} : ∀ {j}, x ∈ lastL p l j → x ∈ l
  | 0, h => by simp [lastL] at h
  | j + 1, h => by
    unfold lastL at h
    rcases List.mem_append.1 h with h | h
    · exact mem_lastL h
    · split at h
      · cases hj : l[j]? with
        | none => rw [hj] at h; simp at h
        | some y => rw [hj] at h; simp at h; subst h; exact List.mem_of_getElem? hj
      · simp at h

/-- two rows of one's own, side by side -/
structure Two2 (B : Nat) (w : World) (v u : Value) (L M : List NetX) : Prop where
  a : Gw 3 csX w B 95 v L
  b : Gw 3 csX w B 95 u M
  ne : ∀ t, v.ownBlock = some t → u.ownBlock ≠ some t
theorem Two2.symm {B : Nat} {w : World} {v u : Value} {L M : List NetX} (h : Two2 B w v u L M) : Two2 B w u v M L := ⟨h.b, h.a, fun t h1 h2 => h.ne t h2 h1⟩
theorem Two2.below {B : Nat} {w w' : World} {v u : Value} {L M : List NetX} (h : Two2 B w v u L M) (hb : Below w.heap.size w w') : Two2 B w' v u L M := ⟨h.a.below hb, h.b.below hb, h.ne⟩
theorem Two2.left {B : Nat} {w w' : World} {v v' u : Value} {L L' M : List NetX} (h : Two2 B w v u L M) (h1 : Gw 3 csX w' B 95 v' L') (hg : w.grownBy w' v.ownBlock) (hm : v'.ownBlock = v.ownBlock ∨ v'.ownBlock = some w.heap.size) : Two2 B w' v' u L' M := by
  refine ⟨h1, World.ownsRow.kept h.b hg ?_, fun t ht hu => ?_⟩
  · cases hu : u.ownBlock with
    | none => exact .inl rfl
    | some t => exact .inr fun he => h.ne t he.symm hu
  · rcases hm with hm | hm
    · exact h.ne t (hm.symm.trans ht) hu
    · rw [hm] at ht
      cases ht
      exact absurd (h.b.lt _ hu).2 (Nat.lt_irrefl _)

/-- what the law keeps while it gathers -/
def Gath (B : Nat) (l : List NetX) (z0 : Int) (p : Nat → Bool) (i j : Nat) (w : World) (v u : Value) : Prop := Two2 B w v u (vsince (l.take i) z0) (lastL p l j)
theorem vsince_len (l : List NetX) (z : Int) : (vsince l z).length ≤ l.length := List.length_filter_le _ _

/-- the loops of a text, in its order -/
def loopsOf : Code → List Code
  | .loop c => .loop c :: loopsOf c
  | .seq a b => loopsOf a ++ loopsOf b
  | .cond _ a b => loopsOf a ++ loopsOf b
  | .block _ c => loopsOf c
  | .scope c => loopsOf c
  | .rangeFunc _ _ a b => loopsOf a ++ loopsOf b
  | _ => []
noncomputable def loopAt (f : Func) (k : Nat) : Code := ((f.body.map loopsOf).getD [])[k]?.getD .skip

/-- a loop is left by its exit, and there R holds -/
def AtExit (n : Nat) (R : Act → World → Prop) : Exit → Act → World → Prop
  | .exit k, a, w => k = n ∧ R a w
  | _, _, _ => False
theorem AtExit.of {n : Nat} {R : Act → World → Prop} {e : Exit} {a : Act} {w : World} (h : AtExit n R e a w) : e = .exit n ∧ R a w := by
  cases e <;> simp [AtExit] at h
  exact ⟨by rw [h.1], h.2⟩

set_option maxRecDepth 100000 in
set_option maxHeartbeats 8000000 in
theorem vp_loop {u1 u2 u3 u4 u6 u7 u8 u9 u10 u11 u14 u15 u16 u17 u18 u19 u20 u21 u22 u23 u24 u25 u26 u27 u28 u29 u30 u31 u32 u33 u34 u35 u36 u37 u38 u39 u40 u41 u42 u43 u44 u45 u46 u47 u48 u49 u50 u51 u52 u53 u54 u55 u56 u57 u58 u59 u60 u61 u62 u63 u64 u65 u66 u67 u68 u69 u70 u71 u72 u73 u74 u75 u76 u77 u78 u79 u80 u81 u82 u83 u84 u85 u86 u87 u88 u89 u90 u91 u92 u93 u94 u95 u96 u97 u98 u99 u100 u101 u102 u103 u104 u105 u106 u107 u108 u109 u110 u111 u112 u113 u114 u115 u116 u117 u121 u122 u123 u124 u125 u126 u127 u128 u129 u130 u131 u132 u133 u134 u135 u136 u137 u138 u139 u140 u141 u142 u143 u144 u145 u146 u147 u148 u149 u150 u151 u152 u153 u154 u155 u156 u157 u158 u159 u160 u161 u162 u163 u164 u165 u166 u167 u168 u169 u170 u171 u172 u173 u174 u175 u176 u177 u178 u179 u180 u181 u182 u183 u184 u185 u186 u187} (a : Option Addr) (c n q b : Nat) (o : Nat → Nat) (l : List NetX) (z0 z1 : Int) (p : Nat → Bool) (D : Int) (w w10 : World)
    (HN : Hid (l.length = n)) (HN70 : Hid (n ≤ 70)) (HC : Hid (∀ (i : Nat) (x : NetX), l[i]? = some x → ∀ (j : Nat) (u : Value), (csX x)[j]? = some u → w.cell? ⟨b, o i + j, none⟩ = some u))
    (HLT : Hid (∀ i, i < n → b < w.heap.size))
    (hix : ∀ (W : World) (i : Nat), i < n → (Instr.indexAt 91 (.slice a n c) (.int .i64 (i : Int))).run Try.prog W = .ok (.pointer (some ⟨b, o i, none⟩)) W)
    (HB010 : Hid (Below w.heap.size w w10))
    (HQZ : Hid (∀ V : World, Below w10.heap.size w10 V → V.cell? ⟨q + 1, 0, none⟩ = some (.int .i64 z0) ∧ V.cell? ⟨q + 1, 1, none⟩ = some (.int .i64 z1)))
    (HP : Hid (∀ j : Nat, p j = (decide (D ≤ (j : Int)) || decide ((n : Int) < z1)))) (hD : wrap64 ((n : Int) - z1) = D) :
    Code.wp Try.prog (loopAt Try.f14 0) (AtExit 0 fun a' W' => ∃ (f : Nat → Value) (y12 y13 : Value), a' = { tmps := List.toArray ((.slice a n c) :: (u1) :: (u2) :: (u3) :: (u4) :: (.pointer (some ⟨q + 1, 0, none⟩)) :: (u6) :: (u7) :: (u8) :: (u9) :: (u10) :: (u11) :: (y12) :: (y13) :: (f 14) :: (f 15) :: (u16) :: (u17) :: (u18) :: (u19) :: (u20) :: (u21) :: (u22) :: (u23) :: (u24) :: (u25) :: (u26) :: (u27) :: (u28) :: (u29) :: (u30) :: (u31) :: (u32) :: (u33) :: (u34) :: (u35) :: (u36) :: (u37) :: (u38) :: (u39) :: (u40) :: (u41) :: (u42) :: (u43) :: (u44) :: (u45) :: (u46) :: (u47) :: (u48) :: (u49) :: (u50) :: (u51) :: (u52) :: (u53) :: (u54) :: (u55) :: (u56) :: (u57) :: (u58) :: (u59) :: (u60) :: (u61) :: (u62) :: (u63) :: (u64) :: (u65) :: (u66) :: (u67) :: (u68) :: (u69) :: (u70) :: (u71) :: (u72) :: (u73) :: (u74) :: (u75) :: (u76) :: (u77) :: (u78) :: (u79) :: (u80) :: (u81) :: (u82) :: (u83) :: (u84) :: (u85) :: (u86) :: (u87) :: (u88) :: (u89) :: (u90) :: (u91) :: (u92) :: (u93) :: (u94) :: (u95) :: (u96) :: (u97) :: (u98) :: (u99) :: (u100) :: (u101) :: (u102) :: (u103) :: (u104) :: (u105) :: (u106) :: (u107) :: (u108) :: (u109) :: (u110) :: (u111) :: (u112) :: (u113) :: (u114) :: (u115) :: (u116) :: (u117) :: (.slice a n c) :: (.int .i64 (n : Int)) :: (.int .i64 (n : Int)) :: (f 121) :: (f 122) :: (f 123) :: (f 124) :: (f 125) :: (f 126) :: (f 127) :: (f 128) :: (f 129) :: (f 130) :: (f 131) :: (f 132) :: (f 133) :: (f 134) :: (f 135) :: (f 136) :: (f 137) :: (f 138) :: (f 139) :: (f 140) :: (f 141) :: (f 142) :: (f 143) :: (f 144) :: (f 145) :: (f 146) :: (f 147) :: (f 148) :: (f 149) :: (f 150) :: (f 151) :: (f 152) :: (u153) :: (u154) :: (u155) :: (u156) :: (u157) :: (u158) :: (u159) :: (u160) :: (u161) :: (u162) :: (u163) :: (u164) :: (u165) :: (u166) :: (u167) :: (u168) :: (u169) :: (u170) :: (u171) :: (u172) :: (u173) :: (u174) :: (u175) :: (u176) :: (u177) :: (u178) :: (u179) :: (u180) :: (u181) :: (u182) :: (u183) :: (u184) :: (u185) :: (u186) :: (u187) :: []), defers := [] } ∧ Hid (Gath w10.heap.size l z0 p n n W' y12 y13) ∧ Hid (Below w10.heap.size w10 W'))
      { tmps := List.toArray ((.slice a n c) :: (u1) :: (u2) :: (u3) :: (u4) :: (.pointer (some ⟨q + 1, 0, none⟩)) :: (u6) :: (u7) :: (u8) :: (u9) :: (u10) :: (u11) :: (.slice none 0 0) :: (.slice none 0 0) :: (u14) :: (u15) :: (u16) :: (u17) :: (u18) :: (u19) :: (u20) :: (u21) :: (u22) :: (u23) :: (u24) :: (u25) :: (u26) :: (u27) :: (u28) :: (u29) :: (u30) :: (u31) :: (u32) :: (u33) :: (u34) :: (u35) :: (u36) :: (u37) :: (u38) :: (u39) :: (u40) :: (u41) :: (u42) :: (u43) :: (u44) :: (u45) :: (u46) :: (u47) :: (u48) :: (u49) :: (u50) :: (u51) :: (u52) :: (u53) :: (u54) :: (u55) :: (u56) :: (u57) :: (u58) :: (u59) :: (u60) :: (u61) :: (u62) :: (u63) :: (u64) :: (u65) :: (u66) :: (u67) :: (u68) :: (u69) :: (u70) :: (u71) :: (u72) :: (u73) :: (u74) :: (u75) :: (u76) :: (u77) :: (u78) :: (u79) :: (u80) :: (u81) :: (u82) :: (u83) :: (u84) :: (u85) :: (u86) :: (u87) :: (u88) :: (u89) :: (u90) :: (u91) :: (u92) :: (u93) :: (u94) :: (u95) :: (u96) :: (u97) :: (u98) :: (u99) :: (u100) :: (u101) :: (u102) :: (u103) :: (u104) :: (u105) :: (u106) :: (u107) :: (u108) :: (u109) :: (u110) :: (u111) :: (u112) :: (u113) :: (u114) :: (u115) :: (u116) :: (u117) :: (.slice a n c) :: (.int .i64 (n : Int)) :: (.int .i64 0) :: (u121) :: (u122) :: (u123) :: (u124) :: (u125) :: (u126) :: (u127) :: (u128) :: (u129) :: (u130) :: (u131) :: (u132) :: (u133) :: (u134) :: (u135) :: (u136) :: (u137) :: (u138) :: (u139) :: (u140) :: (u141) :: (u142) :: (u143) :: (u144) :: (u145) :: (u146) :: (u147) :: (u148) :: (u149) :: (u150) :: (u151) :: (u152) :: (u153) :: (u154) :: (u155) :: (u156) :: (u157) :: (u158) :: (u159) :: (u160) :: (u161) :: (u162) :: (u163) :: (u164) :: (u165) :: (u166) :: (u167) :: (u168) :: (u169) :: (u170) :: (u171) :: (u172) :: (u173) :: (u174) :: (u175) :: (u176) :: (u177) :: (u178) :: (u179) :: (u180) :: (u181) :: (u182) :: (u183) :: (u184) :: (u185) :: (u186) :: (u187) :: []), defers := [] } w10 := by
  have HL10 : Hid (l.length ≤ 1000) := by show l.length ≤ 1000; rw [HN.out]; have := HN70.out; omega
  have hn70 : n ≤ 70 := HN70.out
  conv => arg 2; whnf
  go_loopw [120, 12, 13] (fun vi v12 v13 wr => ∃ (j : Nat) (y12 y13 : Value), y12 = v12 ∧ y13 = v13 ∧ j ≤ n ∧ vi = .int .i64 j ∧ Hid (Gath w10.heap.size l z0 p j j wr y12 y13) ∧ Hid (Below w10.heap.size w10 wr)) (fun vi _ _ _ => n - (intOf vi).toNat)
  case atStart => exact ⟨0, _, _, rfl, rfl, by omega, rfl, ⟨Gw.nil _ _ _, Gw.nil _ _ _, fun t h => by simp [Value.ownBlock] at h⟩, Below.refl _ _⟩
  case round =>
    obtain ⟨j, y12, y13, rfl, rfl, hj, rfl, HO, HBj⟩ := hrel
    by_cases hlt : j < n
    · have e2 : (j : Int) < n := by omega
      obtain ⟨y, hs⟩ : ∃ s, l[j]? = some s := ⟨_, List.getElem?_eq_getElem (by have := HN.out; omega)⟩
      have hb0j := HB010.out.trans (HBj.out.mono HB010.out.size)
      have c0 := HC.out j y hs 0 _ rfl
      have c1 := HC.out j y hs 1 _ rfl
      have c2 := HC.out j y hs 2 _ rfl
      rw [Nat.add_zero] at c0
      rw [← hb0j.cell (by exact HLT.out j hlt)] at c0 c1 c2
      have hixk := fun W => hix W j hlt
      obtain ⟨W7, hW7⟩ : ∃ V, wr.alloc (.cells #[.int .i64 y.1.ver, Sl3.v y.2.1, Sl3.v y.2.2] 95) = V := ⟨_, rfl⟩
      obtain ⟨g7, hg7⟩ : ∃ g, wr.heap.size = g := ⟨_, rfl⟩
      have hr7 : NB W7 g7 y := by rw [← hW7, ← hg7]; exact NB.new _ _
      have HR7 := Lib.hid hr7
      have HNE7 : Hid (∀ t : Nat, y12.ownBlock = some t → t ≠ g7) := fun t ht he => by have := (HO.out.a.lt t ht).2; omega
      have hb7 : Below wr.heap.size wr W7 := by rw [← hW7]; exact (Below.refl _ _).alloc (Nat.le_refl _) _
      have HBB7 := Lib.hid (HBj.out.trans (hb7.mono HBj.out.size))
      have HO7 : Hid (Gath w10.heap.size l z0 p j j W7 y12 y13) := HO.out.below hb7
      have HQY := Lib.hid (fun (V : World) (hV : Below W7.heap.size W7 V) => (hr7.below hV).cells)
      obtain ⟨u0, u1, u2⟩ := hr7.cells
      obtain ⟨p0, p1⟩ := HQZ.out W7 HBB7.out
      have HS := Lib.hid hs
      have HSN := Lib.hid (fun z => vsince_next (z := z) hs)
      have HLN := Lib.hid (lastL_next (p := p) hs)
      have HLTK := Lib.hid hlt
      obtain ⟨⟨yv, yst, yln⟩, ⟨ya1, yn1, yc1⟩, ⟨yb1, ym1, yd1⟩⟩ := y
      unfold Sl3.v at c1 c2 hW7 u1 u2 HQY
      simp only at c0 c1 c2 hW7 u0 u1 u2 HQY
      have HW7 := Lib.hid hW7
      have HG7 := Lib.hid hg7
      clear hs hr7 hb7 hW7 hg7 hb0j hlt
      go_upto_region 19 with fail
      rw [HW7.out, HG7.out]
      clear c0 c1 c2
      go_upto_if 129 with fail
      go_cut [12] from 121 to 152 (fun s12 wx => ∃ b12, b12 = s12 ∧ Hid (Gath w10.heap.size l z0 p (j + 1) j wx b12 y13) ∧ Hid (NB wx g7 ((⟨yv, yst, yln⟩, (ya1, yn1, yc1), (yb1, ym1, yd1)) : NetX)) ∧ Hid (Below w10.heap.size w10 wx))
      case first =>
        by_cases hz0 : z0 ≤ yv
        · have HOO := HO7.out
          unfold Gath at HOO
          have hlen : (vsince (l.take j) z0).length ≤ 1000 := Nat.le_trans (vsince_len _ _) (by rw [List.length_take]; have := HL10.out; omega)
          obtain ⟨L, hL⟩ : ∃ L, vsince (l.take j) z0 = L := ⟨_, rfl⟩
          have hLL := HSN.out z0
          rw [if_neg (by simp only; omega), hL] at hLL
          have HLL := Lib.hid hLL
          rw [hL] at HOO hlen
          obtain ⟨pv, pcv, hsv⟩ := HOO.a.gs.shape
          subst hsv
          have hal : Below W7.heap.size W7 (W7.alloc (.cells #[.int .i64 yv, .slice ya1 yn1 yc1, .slice yb1 ym1 yd1] 95)) := (Below.refl _ _).alloc (Nat.le_refl _) _
          have hO8 := HOO.below hal
          have HO8 := Lib.hid hO8
          have hlit : Gs 3 csX (W7.alloc (.cells #[.int .i64 yv, .slice ya1 yn1 yc1, .slice yb1 ym1 yd1] 95)) (.slice (some ⟨W7.heap.size, 0, none⟩) 1 1) [((⟨yv, yst, yln⟩, (ya1, yn1, yc1), (yb1, ym1, yd1)) : NetX)] := (gw_lit layX W7 95 #[.int .i64 yv, .slice ya1 yn1 yc1, .slice yb1 ym1 yd1] [(⟨yv, yst, yln⟩, (ya1, yn1, yc1), (yb1, ym1, yd1))] 1 rfl (by decide) rfl).gs
          have hown := hO8.a
          have hbz : w10.heap.size ≤ (W7.alloc (.cells #[.int .i64 yv, .slice ya1 yn1 yc1, .slice yb1 ym1 yd1] 95)).heap.size := Nat.le_trans HBB7.out.size hal.size
          have HAL := Lib.hid hal
          clear hal hO8 hL hLL HOO p0 p1
          go_wp2_with (at_builtin; go_must (refine wpList_append_gs layX hown hlit elNet (by simp; omega) (by simp; omega) hbz ?_ _ _ rfl rfl rfl rfl); intro v8 w8 h8 hg8 hb8 hm8; have H8 := Lib.hid h8; have HG8 := Lib.hid hg8; have HM8 := Lib.hid hm8; have HB8 := Lib.hid hb8; clear h8 hg8 hb8 hm8)
          have H8' := Lib.hid (HO8.out.left H8.out HG8.out HM8.out)
          have HNB8 : Hid (NB w8 g7 ((⟨yv, yst, yln⟩, (ya1, yn1, yc1), (yb1, ym1, yd1)) : NetX)) := (HG8.out.block g7 (heap_lt (HR7.out.below HAL.out)) (fun he => HNE7.out g7 he.symm rfl)).trans (HR7.out.below HAL.out)
          have hf1 : Hid (Gath w10.heap.size l z0 p (j + 1) j w8 v8 y13) := by show Gath _ _ _ _ _ _ _ _ _; unfold Gath; rw [HLL.out]; exact H8'.out
          have hf2 : Hid (Below w10.heap.size w10 w8) := (HBB7.out.trans (HAL.out.mono HBB7.out.size)).trans HB8.out
          clear hown hlit hbz u0 u1 u2
          go_meet
          case rel => exact ⟨_, rfl, hf1, HNB8, hf2⟩
        · have hLL := HSN.out z0
          rw [if_pos (by simp only; omega), List.append_nil] at hLL
          have hf1 : Hid (Gath w10.heap.size l z0 p (j + 1) j W7 y12 y13) := by show Gath _ _ _ _ _ _ _ _ _; unfold Gath; rw [hLL]; exact HO7.out
          clear hLL
          go_wp2
          go_meet
          case rel => exact ⟨_, rfl, hf1, HR7, HBB7⟩
      case rest =>
        obtain ⟨b12, rfl, HO9, HNB9, HB9'⟩ := hcut
        obtain ⟨w11, hw11⟩ : ∃ V, V = wc := ⟨_, rfl⟩
        subst hw11
        clear u0 u1 u2 p0 p1
        obtain ⟨u0, u1, u2⟩ := HNB9.out.cells
        unfold Sl3.v at u1 u2
        simp only at u0 u1 u2
        obtain ⟨p0, p1⟩ := HQZ.out w11 HB9'.out
        have hpj := HP.out j
        by_cases hpt : p j = true
        · have hor : D ≤ (j : Int) ∨ (¬ D ≤ (j : Int) ∧ (n : Int) < z1) := by
            rw [hpt] at hpj
            by_cases h1 : D ≤ (j : Int)
            · exact .inl h1
            · refine .inr ⟨h1, ?_⟩
              rw [decide_eq_false h1] at hpj
              exact of_decide_eq_true (by simpa using hpj.symm)
          have HOO := HO9.out
          unfold Gath at HOO
          have hlen : (lastL p l j).length ≤ 1000 := Nat.le_trans (lastL_len _ _ _) (by have := HLTK.out; have := HN70.out; omega)
          obtain ⟨M, hM⟩ : ∃ M, lastL p l j = M := ⟨_, rfl⟩
          have hMM := HLN.out
          rw [if_pos hpt, hM] at hMM
          have HMM := Lib.hid hMM
          rw [hM] at HOO hlen
          have HOS := HOO.symm
          obtain ⟨pu, pcu, hsu⟩ := HOS.a.gs.shape
          subst hsu
          have hal : Below w11.heap.size w11 (w11.alloc (.cells #[.int .i64 yv, .slice ya1 yn1 yc1, .slice yb1 ym1 yd1] 95)) := (Below.refl _ _).alloc (Nat.le_refl _) _
          have hO8 := HOS.below hal
          have HO8 := Lib.hid hO8
          have hlit : Gs 3 csX (w11.alloc (.cells #[.int .i64 yv, .slice ya1 yn1 yc1, .slice yb1 ym1 yd1] 95)) (.slice (some ⟨w11.heap.size, 0, none⟩) 1 1) [((⟨yv, yst, yln⟩, (ya1, yn1, yc1), (yb1, ym1, yd1)) : NetX)] := (gw_lit layX w11 95 #[.int .i64 yv, .slice ya1 yn1 yc1, .slice yb1 ym1 yd1] [((⟨yv, yst, yln⟩, (ya1, yn1, yc1), (yb1, ym1, yd1)) : NetX)] 1 rfl (by decide) rfl).gs
          have hown := hO8.a
          have hbz : w10.heap.size ≤ (w11.alloc (.cells #[.int .i64 yv, .slice ya1 yn1 yc1, .slice yb1 ym1 yd1] 95)).heap.size := Nat.le_trans HB9'.out.size hal.size
          have HAL := Lib.hid hal
          clear hal hO8 hM hMM HOO HOS hpj hpt
          rcases hor with hd1 | ⟨hd1, hd2⟩
          all_goals
            go_wp2_with (at_builtin; go_must (refine wpList_append_gs layX hown hlit elNet (by simp; omega) (by simp; omega) hbz ?_ _ _ rfl rfl rfl rfl); intro v8 w8 h8 hg8 hb8 hm8; have H8 := Lib.hid (HO8.out.left h8 hg8 hm8).symm; have HB8 := Lib.hid hb8; clear h8 hg8 hb8 hm8)
            have hf1 : Hid (Gath w10.heap.size l z0 p (j + 1) (j + 1) w8 b12 v8) := by show Gath _ _ _ _ _ _ _ _ _; unfold Gath; rw [HMM.out]; exact H8.out
            have hf2 : Hid (Below w10.heap.size w10 w8) := (HB9'.out.trans (HAL.out.mono HB9'.out.size)).trans HB8.out
            clear hown hlit hbz u0 u1 u2 p0 p1
            go_roundw
            case rel => exact ⟨j + 1, _, _, rfl, rfl, by have := HLTK.out; omega, by go_num, hf1, hf2⟩
            case measure => simp [intOf]; have := HLTK.out; omega
        · have hpf : p j = false := by simpa using hpt
          rw [hpf] at hpj
          have hd1 : ¬ D ≤ (j : Int) := fun h => by rw [decide_eq_true h] at hpj; simp at hpj
          have hd2 : ¬ (n : Int) < z1 := fun h => by rw [decide_eq_true h] at hpj; simp at hpj
          have hMM := HLN.out
          rw [if_neg hpt, List.append_nil] at hMM
          have hf1 : Hid (Gath w10.heap.size l z0 p (j + 1) (j + 1) w11 b12 y13) := by show Gath _ _ _ _ _ _ _ _ _; unfold Gath; rw [hMM]; exact HO9.out
          clear hMM hpj hpt hpf
          go_wp2
          go_roundw
          case rel => exact ⟨j + 1, _, _, rfl, rfl, by have := HLTK.out; omega, by go_num, hf1, HB9'⟩
          case measure => simp [intOf]; have := HLTK.out; omega
    · obtain rfl : j = n := by omega
      have e2 : ¬ (j : Int) < j := by omega
      go_wp2
      exact ⟨rfl, fun i => List.getD (u14 :: u15 :: .bool false :: u122 :: u123 :: u124 :: u125 :: u126 :: u127 :: u128 :: u129 :: u130 :: u131 :: u132 :: u133 :: u134 :: u135 :: u136 :: u137 :: u138 :: u139 :: u140 :: u141 :: u142 :: u143 :: u144 :: u145 :: u146 :: u147 :: u148 :: u149 :: u150 :: u151 :: u152 :: []) (if i < 100 then i - 14 else i - 119) (.bool false), _, _, rfl, HO, HBj⟩

end Go.Proofs.Ytbonapdainlpjaa
