/- Layer 36 (snap): the statement SnapFull, the walk. -/
import Derived.Test.YtbonapdainlpjaaSp10
import Derived.Lib.SliceRun
set_option linter.unusedSimpArgs false
namespace Go.Proofs.Ytbonapdainlpjaa
open Go.RowKit Go.Sort

section
variable (w : World)
theorem jGeneration_nil : Calls Try.prog 58 #[.pointer none] w fun e w' => e = .returned (.int .i64 0) ∧ w = w' := by
  go_enter Try.func58, Try.ntmps58
  go_wp2_with (go_at_call 102; refine (jIs_nil w).mono ?_; rintro e w' ⟨rfl, hw⟩; obtain rfl := hw.symm)
  go_ret
  exact ⟨rfl, rfl⟩
theorem jRoom_nil : Calls Try.prog 63 #[.pointer none] w fun e w' => e = .returned (.int .i64 0) ∧ w = w' := by
  go_enter Try.func63, Try.ntmps63
  go_wp2_with (go_at_call 102; refine (jIs_nil w).mono ?_; rintro e w' ⟨rfl, hw⟩; obtain rfl := hw.symm)
  go_ret
  exact ⟨rfl, rfl⟩
theorem jRecords_nil : Calls Try.prog 60 #[.pointer none] w fun e w' => e = .returned (.slice none 0 0) ∧ w = w' := by
  go_enter Try.func60, Try.ntmps60
  go_wp2_with (go_at_call 102; refine (jIs_nil w).mono ?_; rintro e w' ⟨rfl, hw⟩; obtain rfl := hw.symm)
  go_ret
  exact ⟨rfl, rfl⟩
theorem jSnapshot_nil : Calls Try.prog 59 #[.pointer none] w fun e w' => e = .returned (.slice none 0 0) ∧ w = w' := by
  go_enter Try.func59, Try.ntmps59
  go_wp2_with (go_at_call 102; refine (jIs_nil w).mono ?_; rintro e w' ⟨rfl, hw⟩; obtain rfl := hw.symm)
  go_ret
  exact ⟨rfl, rfl⟩
end

/-- the journal between the law's steps -/
structure JNow (w : World) (B jp g gb n h : Nat) (s : BSt) (L : Bool → LV) (u : Bool) : Prop where
  st : StAt w B g gb none s
  j : JAt w B jp g L u h false
  ok : ∀ i, LOk s (L i).d
  n : s.n = n
  fu : s.fu = none
  lo : 0 ≤ s.cnt
  hi : s.cnt ≤ 1000000

theorem JNow.below {w w' : World} {B jp g gb n h : Nat} {s : BSt} {L : Bool → LV} {u : Bool} (k : JNow w B jp g gb n h s L u) (hb : Below w.heap.size w w') : JNow w' B jp g gb n h s L u :=
  ⟨k.st.below hb, k.j.below hb, k.ok, k.n, k.fu, k.lo, k.hi⟩
theorem JNow.fo {w : World} {B jp g gb n h : Nat} {s : BSt} {L : Bool → LV} {u : Bool} (k : JNow w B jp g gb n h s L u) : ∀ q, stF g gb none q ∨ (L u).all q ∨ (L (!u)).all q ∨ q = jp → B ≤ q := fun q hq => by
  rcases hq with hq | hq | hq | hq
  · exact (k.st.foot q hq).1
  · exact LoAt.foot (k.j.lo _) q hq
  · exact LoAt.foot (k.j.lo _) q hq
  · rw [hq]; exact k.j.low
theorem JNow.arg {w : World} {B jp g gb n h : Nat} {s : BSt} {L : Bool → LV} {u : Bool} (k : JNow w B jp g gb n h s L u) {v : Value} {l : List UInt8} (i : Bool) (hv : l ≠ [] → ∀ q, v.ownBlock = some q → q < B) :
    l ≠ [] → ∀ q, v.ownBlock = some q → ¬ (stF g gb none q ∨ q = (L i).lg ∨ q = (L i).bb) := fun hl q hq hf => by
  have h1 := hv hl q hq
  rcases hf with hf | hf | hf
  · have := (k.st.foot q hf).1; omega
  · have := (k.j.lo i).low; omega
  · have := (k.j.lo i).lowb; omega

/-- an append, where no power goes -/
def AppNow (w : World) (B jp g gb n h : Nat) (cb : Int) (L : Bool → LV) (u : Bool) (r : List UInt8) (e : Ending) (w' : World) : Prop :=
  ∃ s' x E, e = .returned (.int .i64 E) ∧ JNow w' B jp g gb n h s' (lset L u x) u ∧ Below B w w' ∧ s'.cnt ≤ cb + 2 * h ∧
    ((E = 0 ∧ lgood r ∧ (L u).d.fin + (lstands r).length ≤ h * 64 ∧ x.d.recs = (L u).d.recs ++ [r] ∧ x.d.fin = (L u).d.fin + (lstands r).length) ∨ (E = 51 ∧ lgood r ∧ h * 64 < (L u).d.fin + (lstands r).length ∧ x.d = (L u).d) ∨ (E = 2 ∧ ¬ lgood r ∧ x.d = (L u).d))

theorem jAppend_now (w : World) (B jp g gb n h : Nat) (s : BSt) (L : Bool → LV) (u : Bool) (v : Value) (r : List UInt8) (k : JNow w B jp g gb n h s L u) (hc : s.cnt ≤ 900000) (hv : Bs w v r) (hvd : r ≠ [] → ∀ q, v.ownBlock = some q → q < B) (hB : B ≤ w.heap.size) :
    Calls Try.prog 62 #[.pointer (some ⟨jp, 0, none⟩), v] w (AppNow w B jp g gb n h s.cnt L u r) := by
  have hh := k.j.h2
  refine (jAppend_any w B jp g gb none L u h s v r k.j k.st (k.ok u) k.lo (by have := k.hi; omega) hv (k.arg u hvd) hB).mono ?_
  rintro e w' ⟨fo', s', x, E, rfl, hst, hj, ho, hfo, hcase⟩
  have hb : Below B w w' := ho.below (fun q hq => k.fo q (hq.imp id .inl)) hB
  have hoth : lset L u x (!u) = L (!u) := lset_other L u x
  have key : s'.n = s.n → s'.fu = none → s'.cnt ≤ 1000000 → 0 ≤ s'.cnt → LOk s' x.d → LOk s' (L (!u)).d → JNow w' B jp g gb n h s' (lset L u x) u := fun q1 q2 q3 q4 q5 q6 => by
    obtain rfl := hst.fo_none q2
    refine ⟨hst, hj, fun i => ?_, q1.trans k.n, q2, q4, q3⟩
    rcases bool_two u i with rfl | rfl
    · rw [lset_same]; exact q5
    · rw [hoth]; exact q6
  obtain ⟨d', hd'⟩ : ∃ d, x.d = d := ⟨_, rfl⟩
  rw [hd'] at hcase key
  have hlo := k.lo
  cases hcase with
  | bad h1 => exact ⟨s, x, 2, rfl, key rfl k.fu (by omega) hlo (k.ok u) (k.ok (!u)), hb, by omega, .inr (.inr ⟨rfl, h1, hd'⟩)⟩
  | full h1 h2 => exact ⟨s, x, 51, rfl, key rfl k.fu (by omega) hlo (k.ok u) (k.ok (!u)), hb, by omega, .inr (.inl ⟨rfl, h1, h2, hd'⟩)⟩
  | ok _ _ h1 h2 h3 =>
    have e1 := h3.d1
    have q1 := h3.lo
    have q2 := h3.hi
    have hf : ∀ j, (L (!u)).d.fr * 64 ≤ j → j < ((L (!u)).d.fr + (L (!u)).d.n) * 64 → s'.f j = s.f j := fun j j1 j2 => by
      rw [k.j.fr] at j1 j2
      rw [k.j.nn] at j2
      have hx := apart_reg h u j j1 j2
      have e2 := h3.f j
      rw [k.j.fr, k.j.nn] at e2
      rw [e2, if_neg (by have : (bi u * h + h) * 64 = bi u * h * 64 + h * 64 := Nat.add_mul _ _ _; omega)]
    exact ⟨s', x, 0, rfl, key h3.n (h3.fu k.fu) (by omega) (by omega) (app_ok (k.ok u) h1 (by rw [k.j.nn]; exact h2) h3) ((k.ok (!u)).other h3.n h3.on hf), hb, by omega, .inl ⟨rfl, h1, h2, by rw [hd', e1], by rw [hd', e1]⟩⟩
  | torn _ _ h1 h2 h3 => exact (h3.fu0 k.fu).elim

/-- a compaction, where no power goes -/
def ComNow (w : World) (B jp g gb n h : Nat) (cb : Int) (L : Bool → LV) (u : Bool) (sn : List UInt8) (e : Ending) (w' : World) : Prop :=
  ∃ s' x E mv, e = .returned (.int .i64 E) ∧ JNow w' B jp g gb n h s' (lset L (!u) x) (xor u mv) ∧ Below B w w' ∧ s'.cnt ≤ cb + 2 * h ∧
    ((E = 0 ∧ mv = true ∧ (lstands (srec (sgen (L u).d.recs + 1) sn)).length ≤ h * 64 ∧ x.d.recs = [srec (sgen (L u).d.recs + 1) sn]) ∨ (E = 51 ∧ mv = false ∧ h * 64 < (lstands (srec (sgen (L u).d.recs + 1) sn)).length ∧ x.d = (L (!u)).d))

theorem jCompact_now (w : World) (B jp g gb n h : Nat) (s : BSt) (L : Bool → LV) (u : Bool) (v : Value) (sn : List UInt8) (k : JNow w B jp g gb n h s L u) (hc : s.cnt ≤ 900000) (hg : sgen (L u).d.recs < 4611686018427387904) (hl : sn.length ≤ 262136) (hv : Bs w v sn) (hvd : sn ≠ [] → ∀ q, v.ownBlock = some q → q < B) (hB : B ≤ w.heap.size) :
    Calls Try.prog 61 #[.pointer (some ⟨jp, 0, none⟩), v] w (ComNow w B jp g gb n h s.cnt L u sn) := by
  have hh := k.j.h2
  refine (jCompact_any w B jp g gb none L u h s v sn k.j k.st (k.ok (!u)) hg k.lo (by have := k.hi; omega) hv (k.arg (!u) hvd) hl hB).mono ?_
  rintro e w' ⟨fo', s', x, E, mv, dd, rfl, hst, hj, ho, hfo, hcase⟩
  have hb : Below B w w' := ho.below (fun q hq => k.fo q (hq.imp id .inr)) hB
  obtain ⟨d', hd'⟩ : ∃ d, x.d = d := ⟨_, rfl⟩
  rw [hd'] at hcase
  have hlo := k.lo
  have hoth : lset L (!u) x u = L u := lset_other' L u x
  have key : s'.n = s.n → s'.fu = none → s'.cnt ≤ 1000000 → 0 ≤ s'.cnt → dd = false → LOk s' d' → LOk s' (L u).d → JNow w' B jp g gb n h s' (lset L (!u) x) (xor u mv) := fun q1 q2 q3 q4 q0 q5 q6 => by
    obtain rfl := hst.fo_none q2
    subst q0
    refine ⟨hst, hj, fun i => ?_, q1.trans k.n, q2, q4, q3⟩
    rcases bool_two u i with rfl | rfl
    · rw [hoth]; exact q6
    · rw [lset_same, hd']; exact q5
  cases hcase with
  | full h2 => exact ⟨s, x, 51, false, rfl, key rfl k.fu (by omega) hlo rfl (k.ok (!u)) (k.ok u), hb, by omega, .inr ⟨rfl, rfl, h2, hd'⟩⟩
  | ok _ _ h2 h3 =>
    obtain ⟨-, s1, d1, hW, hA⟩ := h3.safe (Safe.none k.fu _)
    obtain ⟨k1, k2, k3, k4, -, k6⟩ := ren_ok (k.ok (!u)) ⟨by rw [srec_len]; omega, by rw [srec_len]; omega⟩ (by rw [k.j.nn]; exact h2) hW hA
    have q1 := hW.lo
    have q2 := hW.hi
    have q3 := hA.lo
    have q4 := hA.hi
    have hnn : (L (!u)).d.n = h := k.j.nn _
    have hf : ∀ j, (L u).d.fr * 64 ≤ j → j < ((L u).d.fr + (L u).d.n) * 64 → s'.f j = s.f j := fun j j1 j2 => by
      rw [k.j.fr] at j1 j2
      rw [k.j.nn] at j2
      refine k6 j ?_
      rw [k.j.fr, hnn]
      have := apart_reg h (!u) j (by rw [Bool.not_not]; exact j1) (by rw [Bool.not_not]; exact j2)
      exact this
    exact ⟨s', x, 0, true, rfl, key (hA.n.trans hW.n) (hA.fu (hW.fu k.fu)) (by omega) (by omega) rfl k1 ((k.ok u).other (hA.n.trans hW.n) hA.on hf), hb, by omega, .inl ⟨rfl, rfl, h2, by rw [hd', k2]⟩⟩
  | torn _ _ h2 h3 => exact absurd (h3.safe (Safe.none k.fu _)).1 (by decide)

set_option maxRecDepth 100000 in
set_option maxHeartbeats 6400000 in
theorem sf_walk (z : Nat) (hz : z ≤ 255) (v1 v2 : Value) (r sn : List UInt8) (w : World) (h1 : Bs w v1 r) (h2 : Bs w v2 sn) :
    Calls Try.prog 12 #[.int .u8 (z : Int), v1, v2] w fun e w' => e = .returned (.bool true) ∧ Below w.heap.size w w' := by
  have CA := Lib.hid (sAwake_any w)
  obtain ⟨q, hq⟩ : ∃ q, w.heap.size = q := ⟨_, rfl⟩
  obtain ⟨N1, hN1⟩ : ∃ N, r.length = N := ⟨_, rfl⟩
  obtain ⟨N2, hN2⟩ : ∃ N, sn.length = N := ⟨_, rfl⟩
  obtain ⟨a1, c1, hs⟩ := h1.shape
  rw [hN1] at hs
  subst hs
  obtain ⟨a2, c2, hs⟩ := h2.shape
  rw [hN2] at hs
  subst hs
  have HL1 := Lib.hid hN1
  have HL2 := Lib.hid hN2
  have HV1 := Lib.hid h1
  have HV2 := Lib.hid h2
  have LT1 : Hid (r ≠ [] → ∀ k, (Value.slice a1 N1 c1).ownBlock = some k → k < q) := fun hl k hk => by rw [← hq]; exact h1.lt hl k hk
  have LT2 : Hid (sn ≠ [] → ∀ k, (Value.slice a2 N2 c2).ownBlock = some k → k < q) := fun hl k hk => by rw [← hq]; exact h2.lt hl k hk
  clear h1 h2 hN1 hN2
  rw [hq] at CA ⊢
  have hrem : ((z : Int).tmod 12) = ((z % 12 : Nat) : Int) := by rw [Int.tmod_eq_emod_of_nonneg (by omega)]; omega
  have HQ := Lib.hid hq
  clear hq
  go_enter Try.func12, Try.ntmps12
  go_wp2_with fail
  refine CA.out.mono ?_
  rintro e w1 ⟨rfl, hb1⟩
  have HB1 := Lib.hid hb1
  clear hb1 CA
  by_cases e1 : (N1 : Int) < 1
  · go_wp2
    go_ret
    exact ⟨rfl, HB1.out⟩
  by_cases e2 : (600 : Int) < (N1 : Int)
  · go_wp2
    go_ret
    exact ⟨rfl, HB1.out⟩
  by_cases e3 : (900 : Int) < (N2 : Int)
  · go_wp2
    go_ret
    exact ⟨rfl, HB1.out⟩
  have E1 := Lib.hid (show 1 ≤ N1 ∧ N1 ≤ 600 ∧ N2 ≤ 900 by omega)
  go_wp2_with (first
    | (go_at_call 62; refine (jAppend_nil _ _).mono ?_; rintro e w' ⟨rfl, hw⟩; obtain rfl := hw.symm)
    | (go_at_call 61; refine (jCompact_nil _ _).mono ?_; rintro e w' ⟨rfl, hw⟩; obtain rfl := hw.symm)
    | (go_at_call 58; refine (jGeneration_nil _).mono ?_; rintro e w' ⟨rfl, rfl⟩)
    | (go_at_call 63; refine (jRoom_nil _).mono ?_; rintro e w' ⟨rfl, rfl⟩)
    | (go_at_call 60; refine (jRecords_nil _).mono ?_; rintro e w' ⟨rfl, rfl⟩)
    | (go_at_call 59; refine (jSnapshot_nil _).mono ?_; rintro e w' ⟨rfl, rfl⟩))
  obtain ⟨n, hn⟩ : ∃ n : Nat, ((z : Int) % 12 + 2) = (n : Int) := ⟨z % 12 + 2, by omega⟩
  rw [hn]
  have hn2 : 2 ≤ n ∧ n ≤ 13 := by omega
  have CN := Lib.hid (bNew_any n (by omega) (by omega) w1)
  have HN := Lib.hid hn2
  clear hrem hn hz hn2
  refine CN.out.mono ?_
  rintro e w2 ⟨rfl, hb2, hst2⟩
  obtain ⟨B, hB⟩ : ∃ B, w1.heap.size = B := ⟨_, rfl⟩
  rw [hB] at hst2 hb2
  have hqB : q ≤ B := by rw [← hB, ← HQ.out]; exact Nat.le_trans (by rw [HQ.out]; exact Nat.le_refl _) HB1.out.size
  have hBw2 : B ≤ w2.heap.size := by rw [← hB]; have := hb2.size; omega
  have CO := Lib.hid (jOpen_new w2 B (B + 1) B n hst2 HN.out.1 hBw2)
  have HB2 : Hid (Below q w w2) := HB1.out.trans (hb2.mono hqB)
  have HFO : Hid (∀ k, stF (B + 1) B none k → B ≤ k) := fun k hk => (hst2.foot k hk).1
  have HQB := Lib.hid hqB
  have HBW2 := Lib.hid hBw2
  rw [hB]
  obtain ⟨g, hg⟩ : ∃ g, B + 1 = g := ⟨_, rfl⟩
  rw [hg] at CO HFO
  rw [hg]
  clear hst2 hb2 hB hqB hBw2 CN hg
  go_wp2_with fail
  refine CO.out.mono ?_
  rintro e w3 ⟨s3, jp, L, rfl, hst3, hj3, hjp, ho3, hok3, hr0, hr1, hfu3, hn3, hc0, hc1⟩
  obtain ⟨h, hh⟩ : ∃ h, n / 2 = h := ⟨_, rfl⟩
  rw [hh] at hj3 hc1
  have hh2 : h ≤ 6 := by have := HN.out; omega
  have hnow3 : JNow w3 B jp g B n h s3 L false := ⟨hst3, hj3, hok3, hn3, hfu3, hc0, by omega⟩
  have hB3 : Below B w2 w3 := ho3.below HFO.out HBW2.out
  have HB3 : Hid (Below q w w3) := HB2.out.trans (hB3.mono HQB.out)
  have HBW3 : Hid (B ≤ w3.heap.size) := Nat.le_trans HBW2.out hB3.size
  have hfin : (L false).d.fin = 10 := by rw [(hok3 false).fin, hr0, lall_one, srec1_len]
  have CRM := Lib.hid (jRoom_any w3 B jp g L false h false hj3)
  rw [hfin] at CRM
  obtain ⟨RM, hRM⟩ : ∃ R, lroom (h * 64 - 10) = R := ⟨_, rfl⟩
  rw [hRM] at CRM
  have hroom : N1 ≤ RM ↔ 10 + (lstands r).length ≤ h * 64 := by
    have h0 := lroom_iff (h * 64 - 10) r.length (by rw [HL1.out]; exact E1.out.1) (by rw [HL1.out]; have := E1.out; omega)
    have h1 : 1 ≤ h := by have := HN.out; omega
    rw [hRM, HL1.out] at h0
    rw [h0, lstands_len, HL1.out]
    omega
  have HNOW3 := Lib.hid hnow3
  have HR0 := Lib.hid hr0
  have HFIN := Lib.hid hfin
  have HROOM := Lib.hid hroom
  have HRMM := Lib.hid (show RM ≤ 262144 by rw [← hRM]; exact lroom_max _)
  have HC := Lib.hid (show s3.cnt ≤ 24 by omega)
  have HH := Lib.hid hh
  have HH2 := Lib.hid hh2
  clear hst3 hj3 hjp ho3 hok3 hr0 hr1 hfu3 hn3 hc0 hc1 hnow3 hB3 hfin hRM hroom CO hh hh2
  go_wp2_with fail
  refine CRM.out.mono ?_
  rintro e w4 ⟨rfl, hb4⟩
  have hbw4 : B ≤ w4.heap.size := Nat.le_trans HBW3.out hb4.size
  have CAP := Lib.hid (jAppend_now w4 B jp g B n h s3 L false _ r (HNOW3.out.below hb4) (by have := HC.out; omega) (HV1.out.below (by have := HB3.out.trans (hb4.mono (Nat.le_trans HQB.out HBW3.out)); rw [HQ.out]; exact this)) (fun hl k hk => Nat.lt_of_lt_of_le (LT1.out hl k hk) HQB.out) hbw4)
  have HB4 : Hid (Below q w w4) := HB3.out.trans (hb4.mono (Nat.le_trans HQB.out HBW3.out))
  have HBW4 := Lib.hid hbw4
  clear hb4 hbw4 CRM
  go_wp2_with fail
  refine CAP.out.mono ?_
  rintro e w5 ⟨s5, x, E, rfl, hnow5, hb5, hcb5, hcase⟩
  have HB5 : Hid (Below q w w5) := HB4.out.trans (hb5.mono HQB.out)
  have HBW5 : Hid (B ≤ w5.heap.size) := Nat.le_trans HBW4.out hb5.size
  obtain ⟨T, hT, hE⟩ : ∃ T, x.d.recs = srec 1 [] :: T ∧ ((E = 0 ∧ (N1 : Int) ≤ (RM : Int)) ∨ (E = 51 ∧ ¬ (N1 : Int) ≤ (RM : Int))) := by
    have hr := HROOM.out
    rcases hcase with ⟨rfl, _, h2, h3, _⟩ | ⟨rfl, _, h2, h3⟩ | ⟨rfl, h2, _⟩
    · rw [HFIN.out] at h2
      exact ⟨[r], by rw [h3, HR0.out]; rfl, .inl ⟨rfl, by have := hr.2 h2; omega⟩⟩
    · rw [HFIN.out] at h2
      exact ⟨[], by rw [h3, HR0.out], .inr ⟨rfl, fun h => by have := hr.1 (by omega); omega⟩⟩
    · exact absurd ⟨by rw [HL1.out]; exact E1.out.1, by rw [HL1.out]; have := E1.out; omega⟩ h2
  have hrecs : (lset L false x false).d.recs = srec 1 [] :: T := by rw [lset_same, hT]
  have hsk : sok (lset L false x false).d.recs := by rw [hrecs]; exact sok_srec _ _ _
  have hgen : sgen (lset L false x false).d.recs = 1 := by rw [hrecs, sgen_srec (by omega)]
  have CR := Lib.hid (fun V (hV : Below w5.heap.size w5 V) => jRecords_any V B jp g _ false h false (hnow5.j.below hV) hsk)
  rw [hrecs, srecs_srec] at CR
  have HNOW5 := Lib.hid hnow5
  have HREC := Lib.hid hrecs
  have HGEN := Lib.hid hgen
  obtain ⟨L5, hL5⟩ : ∃ L5, lset L false x = L5 := ⟨_, rfl⟩
  rw [hL5] at HNOW5 HREC HGEN
  have HC5 : Hid (s5.cnt ≤ 900000) := by show _ ≤ _; have := HC.out; have := HH2.out; omega
  obtain ⟨K, hK⟩ : ∃ K, T.length = K := ⟨_, rfl⟩
  have HK := Lib.hid hK
  obtain ⟨Z, hZ⟩ : ∃ Z, (vput (8 + N2)).length + (8 + N2) + 1 = Z := ⟨_, rfl⟩
  have hZ1 : (lstands (srec (1 + 1) sn)).length = Z := by rw [lstands_len, srec_len, HL2.out, hZ]
  have hZ2 : ∀ l8 : List UInt8, l8.length = 8 → (lstands (l8 ++ sn)).length = Z := fun l8 h8 => by rw [lstands_len, List.length_append, h8, HL2.out, hZ]
  have hZb : Z ≤ 1000000 := by have := vput_len10 (8 + N2) (by have := E1.out; omega); have := E1.out; omega
  have HZ1 := Lib.hid hZ1
  have HZ2 := Lib.hid hZ2
  have hnd : ((n : Int) / 2 * 64) = ((h * 64 : Nat) : Int) := by have := HH.out; omega
  have bN2 : (N2 : Int) ≤ 900 := by have := E1.out; omega
  have hN13 : n ≤ 13 := HN.out.2
  clear hnow5 hb5 hcb5 hcase hT hrecs hsk hgen hL5 hK hZ1 hZ2 CAP hZ
  rcases hE with ⟨rfl, e4⟩ | ⟨rfl, e4⟩
  all_goals
    go_wp2_with fail
    refine (CR.out w5 (Below.refl _ _)).mono ?_
    rintro e w6 ⟨v6, ps6, rfl, hrc, hrb, hb6⟩
    have hl6 : ps6.length = K := by rw [← HK.out, ← hrb]; simp [rbs]
    obtain ⟨a6, c6, rfl⟩ := hrc.1.shape
    rw [hl6]
    have HB6 := Lib.hid hb6
    obtain ⟨W7, hW7⟩ : ∃ W, w6.alloc (.cells (rowb 8 (fun _ => 0)) 5) = W := ⟨_, rfl⟩
    have hrow7 : W7.heap[w6.heap.size]? = some (.cells (rowb 8 (fun _ => 0)) 5 (0, 0)) := by rw [← hW7]; exact heap_alloc_new _ _
    have hb67 : Below w6.heap.size w6 W7 := by rw [← hW7]; exact (Below.refl _ _).alloc (Nat.le_refl _) _
    have hob := ob_rowb hrow7 w6.heap.size 8 (Nat.le_refl _) (by omega) (by simp [maxLen])
    obtain ⟨l8, hl8⟩ : ∃ l8, (List.range 8).map (fun _ => (0 : UInt8)) = l8 := ⟨_, rfl⟩
    rw [hl8] at hob
    have h88 : l8.length = 8 := by rw [← hl8]; simp
    have HOB := Lib.hid hob
    have H88 := Lib.hid h88
    have HV2' : Hid (Bs W7 (.slice a2 N2 c2) sn) := (HV2.out.below (by have := HB5.out.trans (hb6.mono (Nat.le_trans HQB.out HBW5.out)); rw [HQ.out]; exact this)).below hb67
    have HB7 := Lib.hid (hb6.trans (hb67.mono hb6.size))
    have HS67 := Lib.hid hb67.size
    clear hrc hrb hb6 hl6 hrow7 hb67 hob hl8 h88 CR
    go_wp2_with (first
      | (at_make; go_must (refine wpList_make_rowb elB 8 8 (by omega) (by omega) (by simp [maxLen]) rfl _ _ rfl _ _ rfl (by go_num) ?_); try rw [hW7])
      | (at_builtin; go_must (refine wpList_append_bytes HOB.out HV2'.out elB (by rw [H88.out, HL2.out]; omega) (by rw [H88.out, HL2.out]; omega) HS67.out ?_ _ _ rfl rfl rfl rfl); intro v8 w8 ho8 hg8 hb8 _; have HO8 := Lib.hid ho8; have HB8 := Lib.hid hb8; clear ho8 hg8 hb8))
    have cst := rstands_any v8 (l8 ++ sn) w8 HO8.out.bs (by rw [List.length_append, H88.out, HL2.out]; omega)
    have CST := Lib.hid cst
    clear cst
    refine CST.out.mono ?_
    rintro e w9 ⟨v9, rfl, ho9, hb9⟩
    obtain ⟨a9, c9, rfl⟩ := ho9.shape
    rw [HZ2.out l8 H88.out]
    have hb59 : Below w5.heap.size w5 w9 := (HB7.out.trans (HB8.out.mono HB6.out.size)).trans (hb9.mono (Nat.le_trans HB7.out.size HB8.out.size))
    have hbw9 : B ≤ w9.heap.size := Nat.le_trans HBW5.out hb59.size
    have hq59 : Below q w w9 := HB5.out.trans (hb59.mono (Nat.le_trans HQB.out HBW5.out))
    have CC := Lib.hid (jCompact_now w9 B jp g B n h s5 L5 false (.slice a2 N2 c2) sn (HNOW5.out.below hb59) HC5.out (by rw [HGEN.out]; omega) (by rw [HL2.out]; omega) (HV2.out.below (by rw [HQ.out]; exact hq59)) (fun hl k hk => Nat.lt_of_lt_of_le (LT2.out hl k hk) HQB.out) hbw9)
    unfold ComNow at CC
    rw [HGEN.out, HZ1.out, show lset L5 (!false) = lset L5 true from rfl] at CC
    have HB59 := Lib.hid hb59
    have HBW9 := Lib.hid hbw9
    have HQ59 := Lib.hid hq59
    clear ho9 hb9 hb59 hbw9 hq59 CST
    by_cases hz : Z ≤ h * 64
    · have e5 : (Z : Int) ≤ (n : Int) / 2 * 64 := by rw [hnd]; omega
      go_wp2_with fail
      refine CC.out.mono ?_
      rintro e w10 ⟨s10, x10, E2, mv, rfl, hnow, hbb, -, hcase⟩
      obtain ⟨rfl, rfl, hrec⟩ : E2 = 0 ∧ mv = true ∧ x10.d.recs = [srec (1 + 1) sn] := by
        rcases hcase with ⟨h1, h2, _, h4⟩ | ⟨_, _, h3, _⟩
        · exact ⟨h1, h2, h4⟩
        · omega
      have hr10 : (lset L5 true x10 true).d.recs = [srec (1 + 1) sn] := by rw [lset_same, hrec]
      have hj : JAt w10 B jp g (lset L5 true x10) true h false := hnow.j
      have hsk : sok (lset L5 true x10 true).d.recs := by rw [hr10]; exact sok_srec _ _ _
      have hgen : sgen (lset L5 true x10 true).d.recs = 2 := by rw [hr10, sgen_srec (by omega)]
      have hgd := (hnow.ok true).good
      have CG := fun V (hV : Below w10.heap.size w10 V) => jGeneration_any V B jp g _ true h false (hj.below hV) (by rw [hgen]; omega)
      have CR := fun V (hV : Below w10.heap.size w10 V) => jRecords_any V B jp g _ true h false (hj.below hV) hsk
      have CS := fun V (hV : Below w10.heap.size w10 V) => jSnapshot_any V B jp g _ true h false (hj.below hV) hsk hgd
      rw [hgen, show ((2 : Nat) : Int) = 2 from rfl] at CG
      rw [hr10, srecs_srec] at CR
      rw [hr10, ssnap_srec] at CS
      have HCG := Lib.hid CG
      have HCR := Lib.hid CR
      have HCS := Lib.hid CS
      have HB10 : Hid (Below q w w10) := HQ59.out.trans (hbb.mono HQB.out)
      have HV10 : Hid (Bs w10 (.slice a2 N2 c2) sn) := HV2.out.below (by rw [HQ.out]; exact HB10.out)
      have hbw10 : Hid (q ≤ w10.heap.size) := Nat.le_trans HQB.out (Nat.le_trans HBW9.out hbb.size)
      clear hnow hbb hcase hrec hr10 hj hsk hgen hgd CG CR CS CC
      go_wp2_with fail
      refine (HCG.out w10 (Below.refl _ _)).mono ?_
      rintro e w11 ⟨rfl, hb11⟩
      have HB11 := Lib.hid hb11
      clear hb11
      go_wp2_with fail
      refine (HCR.out w11 HB11.out).mono ?_
      rintro e w12 ⟨v12, ps12, rfl, hrc, hrb, hb12⟩
      have hl12 : ps12.length = 0 := by have := congrArg List.length hrb; simpa [rbs] using this
      obtain ⟨a12, c12, rfl⟩ := hrc.1.shape
      rw [hl12]
      have HB12 := Lib.hid (HB11.out.trans (hb12.mono HB11.out.size))
      clear hrc hrb hb12 hl12
      go_wp2_with fail
      refine (HCS.out w12 HB12.out).mono ?_
      rintro e w13 ⟨v13, rfl, ho13, hb13⟩
      have HB13 := Lib.hid (HB12.out.trans (hb13.mono HB12.out.size))
      have csm := same_any v13 (.slice a2 N2 c2) _ _ w13 ho13.bs (HV10.out.below HB13.out)
      rw [beq_self_true] at csm
      have CSM := Lib.hid csm
      clear ho13 hb13 csm
      go_wp2_with fail
      refine CSM.out.mono ?_
      rintro e w14 ⟨rfl, hb14⟩
      have HB14 := Lib.hid (HB13.out.trans (hb14.mono HB13.out.size))
      clear hb14
      go_wp2
      go_ret
      exact ⟨rfl, HB10.out.trans (HB14.out.mono hbw10.out)⟩
    · have e5 : ¬ (Z : Int) ≤ (n : Int) / 2 * 64 := by rw [hnd]; omega
      go_wp2_with fail
      refine CC.out.mono ?_
      rintro e w10 ⟨s10, x10, E2, mv, rfl, hnow, hbb, -, hcase⟩
      obtain ⟨rfl, rfl⟩ : E2 = 51 ∧ mv = false := by
        rcases hcase with ⟨h1, h2, h3, h4⟩ | ⟨h1, h2, _, _⟩
        · omega
        · exact ⟨h1, h2⟩
      have hr10 : (lset L5 true x10 false).d.recs = srec 1 [] :: T := by rw [show lset L5 true x10 false = L5 false from lset_other L5 true x10, HREC.out]
      have hj : JAt w10 B jp g (lset L5 true x10) false h false := hnow.j
      have hsk : sok (lset L5 true x10 false).d.recs := by rw [hr10]; exact sok_srec _ _ _
      have hgen : sgen (lset L5 true x10 false).d.recs = 1 := by rw [hr10, sgen_srec (by omega)]
      have CG := fun V (hV : Below w10.heap.size w10 V) => jGeneration_any V B jp g _ false h false (hj.below hV) (by rw [hgen]; omega)
      have CR := fun V (hV : Below w10.heap.size w10 V) => jRecords_any V B jp g _ false h false (hj.below hV) hsk
      rw [hgen, show ((1 : Nat) : Int) = 1 from rfl] at CG
      rw [hr10, srecs_srec] at CR
      have HCG := Lib.hid CG
      have HCR := Lib.hid CR
      have HB10 : Hid (Below q w w10) := HQ59.out.trans (hbb.mono HQB.out)
      have hbw10 : Hid (q ≤ w10.heap.size) := Nat.le_trans HQB.out (Nat.le_trans HBW9.out hbb.size)
      clear hnow hbb hcase hr10 hj hsk hgen CG CR CC
      go_wp2_with fail
      refine (HCG.out w10 (Below.refl _ _)).mono ?_
      rintro e w11 ⟨rfl, hb11⟩
      have HB11 := Lib.hid hb11
      clear hb11
      go_wp2_with fail
      refine (HCR.out w11 HB11.out).mono ?_
      rintro e w12 ⟨v12, ps12, rfl, hrc, hrb, hb12⟩
      have hl12 : ps12.length = K := by rw [← HK.out, ← hrb]; simp [rbs]
      obtain ⟨a12, c12, rfl⟩ := hrc.1.shape
      rw [hl12]
      have HB12 := Lib.hid (HB11.out.trans (hb12.mono HB11.out.size))
      clear hrc hrb hb12 hl12
      go_wp2
      go_ret
      exact ⟨rfl, HB10.out.trans (HB12.out.mono hbw10.out)⟩
end Go.Proofs.Ytbonapdainlpjaa
