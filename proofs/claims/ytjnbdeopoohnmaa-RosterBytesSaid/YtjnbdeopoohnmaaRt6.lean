/- Layer 56 (roster): the class at a time, both sides. -/
import Derived.Test.YtjnbdeopoohnmaaRt5
import Derived.Deep.RegionLaw
import Derived.Deep.DeepCutAuto
import Derived.Deep.CutBlock
import Derived.Lib.QuietBelow
import Derived.Lib.SliceRun
set_option linter.unusedSimpArgs false
namespace Go.Proofs.Ytjnbdeopoohnmaa
open Go.RowKit Go.Sort

theorem sclass_next {l : List SpT} {k : Nat} {s : SpT} (h : l[k]? = some s) (t c0 : Int) : sclass (l.take (k + 1)) t c0 = if s.1 ≤ t then s.2 else sclass (l.take k) t c0 := by
  unfold sclass
  rw [List.take_add_one, h, List.foldl_append]
  rfl
theorem sclass_start {l : List SpT} {s : SpT} {r : List SpT} (hl : l = s :: r) {t : Int} (hs : s.1 ≤ t) (a b : Int) : sclass l t a = sclass l t b := by
  subst hl
  unfold sclass
  simp only [List.foldl_cons, if_pos hs]
def classE (x : AcD) (t : Int) : Int := if aone x = false ∨ ¬ (0 ≤ t ∧ t ≤ 1099511627776) then 2 else if t ≤ x.bl then 23 else 0
def classV (x : AcD) (t : Int) : Int := if classE x t = 0 then sclass x.sp t 0 else 0

set_option maxRecDepth 100000 in
set_option maxHeartbeats 1600000 in
theorem rrtclass_any (v : Value) (l : List SpT) (t : Int) (w : World) (h : Gs 2 csS w v l) : Calls Try.prog 64 #[v, .int .i64 t] w fun e w' => e = .returned (.int .i64 (sclass l t (-1))) ∧ w = w' := by
  obtain ⟨n, hn⟩ : ∃ n, l.length = n := ⟨_, rfl⟩
  obtain ⟨a, c, b, o, rfl, h1, h2, hix, hlt', hcell, -⟩ := h.open_n layS elS n hn
  have HC := Lib.hid hcell
  have HN := Lib.hid hn
  clear h hn hcell hlt'
  have hn63 : n ≤ 9223372036854775807 := by omega
  go_enter Try.func64, Try.ntmps64
  go_wp2_with fail
  go_loopw [5, 6] (fun vc vi wr => ∃ k : Nat, k ≤ n ∧ vi = .int .i64 k ∧ vc = .int .i64 (sclass (l.take k) t (-1)) ∧ wr = w) (fun _ vi _ => n - (intOf vi).toNat)
  case atStart => exact ⟨0, by omega, rfl, rfl, rfl⟩
  case round =>
    obtain ⟨k, hk, rfl, rfl, rfl⟩ := hrel
    by_cases hlt : k < n
    · have e2 : (k : Int) < n := by omega
      obtain ⟨s, hs⟩ : ∃ s, l[k]? = some s := ⟨_, List.getElem?_eq_getElem (by have := HN.out; omega)⟩
      have m0 := HC.out k s hs 0 _ rfl
      have m1 := HC.out k s hs 1 _ rfl
      rw [Nat.add_zero] at m0
      have hixk := fun W => hix W k hlt
      have hnx := sclass_next hs t (-1)
      have HLT2 := Lib.hid hlt
      obtain ⟨f, cc⟩ := s
      simp only at m0 m1 hnx
      clear hs hlt
      by_cases e3 : f ≤ t
      · rw [if_pos e3] at hnx
        have HNX := Lib.hid hnx
        clear hnx
        go_wp2
        go_roundw
        case rel => exact ⟨k + 1, by have := HLT2.out; omega, by go_num, by rw [HNX.out], by trivial⟩
        case measure => simp [intOf]; have := HLT2.out; omega
      · rw [if_neg e3] at hnx
        have HNX := Lib.hid hnx
        clear hnx
        go_wp2
        go_roundw
        case rel => exact ⟨k + 1, by have := HLT2.out; omega, by go_num, by rw [HNX.out], by trivial⟩
        case measure => simp [intOf]; have := HLT2.out; omega
    · obtain rfl : k = n := by omega
      have e2 : ¬ (k : Int) < k := by omega
      have HT : Hid (l.take k = l) := List.take_of_length_le (by rw [HN.out]; exact Nat.le_refl _)
      go_wp2
      go_ret
      exact ⟨by rw [HT.out]; rfl, rfl⟩

set_option maxRecDepth 100000 in
set_option maxHeartbeats 1600000 in
theorem rtClass_any (x : AcX) (t : Int) (w : World) (h : AcV w x) : Calls Try.prog 25 #[x.agg, .int .i64 t] w fun e w' => e = .returned (.tuple #[.int .i64 (classV x.1 t), .int .i64 (classE x.1 t)]) ∧ Below w.heap.size w w' := by
  have HH := Lib.hid h
  obtain ⟨q, hq⟩ : ∃ q, w.heap.size = q := ⟨_, rfl⟩
  obtain ⟨W, hW⟩ : ∃ W, w.alloc (.cells #[.int .i64 x.1.id, .int .i64 x.1.bl, Sl3.v x.2] 43) = W := ⟨_, rfl⟩
  have hb0 : Below w.heap.size w W := by rw [← hW]; exact (Below.refl _ _).alloc (Nat.le_refl _) _
  have hr0 : W.heap[q]? = some (.cells #[.int .i64 x.1.id, .int .i64 x.1.bl, Sl3.v x.2] 43 (0, 0)) := by rw [← hW, ← hq]; exact heap_alloc_new _ _
  have C1 := Lib.hid (rtOne_any x W (h.below hb0))
  have C2 := Lib.hid (fun V => within_any t 0 1099511627776 V)
  obtain ⟨n, hn⟩ : ∃ n, x.1.sp.length = n := ⟨_, rfl⟩
  obtain ⟨a, c, b, o, he, h1, h2, hix, hlt', hcell, -⟩ := h.1.open_n layS elS n hn
  have HC := Lib.hid (fun V (hV : Below w.heap.size w V) (i : Nat) (s : SpT) (hi : x.1.sp[i]? = some s) => by
    have hl := hlt' i (by rw [← hn]; exact (List.getElem?_eq_some_iff.1 hi).1)
    have c0 := hcell i s hi 0 _ rfl
    have c1 := hcell i s hi 1 _ rfl
    rw [Nat.add_zero] at c0
    exact (And.intro ((hV.cell (p := ⟨b, o i, none⟩) hl).trans c0) ((hV.cell (p := ⟨b, o i + 1, none⟩) hl).trans c1) : V.cell? ⟨b, o i, none⟩ = some (.int .i64 s.1) ∧ V.cell? ⟨b, o i + 1, none⟩ = some (.int .i64 s.2)))
  have HN := Lib.hid hn
  have HIX := Lib.hid hix
  obtain ⟨⟨id, bl, sp⟩, ⟨xa, xn, xc⟩⟩ := x
  unfold Sl3.v at *
  unfold AcX.agg at *
  unfold Sl3.v at *
  simp only [Value.slice.injEq] at *
  obtain ⟨rfl, rfl, rfl⟩ := he
  obtain ⟨b0, hb0'⟩ : ∃ b, aone ⟨id, bl, sp⟩ = b := ⟨_, rfl⟩
  obtain ⟨b1, hb1'⟩ : ∃ b, decide (0 ≤ t ∧ t ≤ 1099511627776) = b := ⟨_, rfl⟩
  rw [hb0'] at C1
  rw [hb1'] at C2
  obtain ⟨E, hE⟩ : ∃ E, classE ⟨id, bl, sp⟩ t = E := ⟨_, rfl⟩
  obtain ⟨Z, hZ⟩ : ∃ Z, classV ⟨id, bl, sp⟩ t = Z := ⟨_, rfl⟩
  have HE : Hid (E = if b0 = false ∨ b1 = false then 2 else if t ≤ bl then 23 else 0) := by
    show _ = _
    rw [← hE, ← hb0', ← hb1']
    unfold classE
    simp only [decide_eq_false_iff_not]
  have HZ : Hid (Z = if E = 0 then sclass sp t 0 else 0) := by show _ = _; rw [← hZ]; unfold classV; rw [hE]
  rw [hE, hZ]
  have HB := Lib.hid hb0
  have HQX := Lib.hid (fun (V : World) (hV : Below W.heap.size W V) => acct_cells ((hV.block q (heap_lt hr0)).trans hr0))
  clear h hn hcell hlt' hix hb0 hr0 hb0' hb1' hE hZ
  obtain ⟨z0, z1, z2⟩ := HQX.out W (Below.refl _ _)
  go_enter Try.func25, Try.ntmps25
  go_wp2_with fail
  refine C1.out.mono ?_
  rintro e w2 ⟨rfl, hb2⟩
  have HB2 := Lib.hid hb2
  have HBW2 := Lib.hid (HB.out.trans (hb2.mono HB.out.size))
  clear z0 z1 z2 C1
  obtain ⟨z0, z1, z2⟩ := HQX.out w2 hb2
  clear hb2 hq hW
  cases b0 with
  | false =>
    have HEE : Hid (E = 2) := by show _ = _; rw [HE.out]; rfl
    have HZZ : Hid (Z = 0) := by show _ = _; rw [HZ.out, HEE.out]; rfl
    go_wp2
    go_ret2
    exact ⟨by rw [HEE.out, HZZ.out]; rfl, HBW2.out⟩
  | true =>
  cases b1 with
  | false =>
    have HEE : Hid (E = 2) := by show _ = _; rw [HE.out]; rfl
    have HZZ : Hid (Z = 0) := by show _ = _; rw [HZ.out, HEE.out]; rfl
    go_wp2_with (go_at_call 47; (with_reducible refine (C2.out _).mono ?_); rintro e w' ⟨rfl, rfl⟩)
    go_ret2
    exact ⟨by rw [HEE.out, HZZ.out]; rfl, HBW2.out⟩
  | true =>
  have HE2 : Hid (E = if t ≤ bl then 23 else 0) := by show _ = _; rw [HE.out]; simp
  by_cases e3 : t ≤ bl
  · have HEE : Hid (E = 23) := by show _ = _; rw [HE2.out, if_pos e3]
    have HZZ : Hid (Z = 0) := by show _ = _; rw [HZ.out, HEE.out]; rfl
    go_wp2_with (go_at_call 47; (with_reducible refine (C2.out _).mono ?_); rintro e w' ⟨rfl, rfl⟩)
    go_ret2
    exact ⟨by rw [HEE.out, HZZ.out]; rfl, HBW2.out⟩
  have HEE : Hid (E = 0) := by show _ = _; rw [HE2.out, if_neg e3]
  have HZZ : Hid (Z = sclass sp t 0) := by show _ = _; rw [HZ.out, if_pos HEE.out]
  have hn63 : xn ≤ 9223372036854775807 := by omega
  go_wp2_with (go_at_call 47; (with_reducible refine (C2.out _).mono ?_); rintro e w' ⟨rfl, rfl⟩)
  go_loopw [6, 26] (fun vc vi wr => ∃ k : Nat, k ≤ xn ∧ vi = .int .i64 k ∧ vc = .int .i64 (sclass (sp.take k) t 0) ∧ Hid (Below w.heap.size w wr)) (fun _ vi _ => xn - (intOf vi).toNat)
  case atStart => exact ⟨0, by omega, rfl, rfl, HBW2⟩
  case round =>
    obtain ⟨k, hk, rfl, rfl, HBR⟩ := hrel
    by_cases hlt : k < xn
    · have e2 : (k : Int) < xn := by omega
      obtain ⟨s, hs⟩ : ∃ s, sp[k]? = some s := ⟨_, List.getElem?_eq_getElem (by have := HN.out; omega)⟩
      obtain ⟨m0, m1⟩ := HC.out wr HBR.out k s hs
      have hixk := fun W => HIX.out W k hlt
      have hnx := sclass_next hs t 0
      have HLT2 := Lib.hid hlt
      obtain ⟨f, cc⟩ := s
      simp only at m0 m1 hnx
      have HB8 := Lib.hid (bw_al HBR.out (.cells #[.int .i64 f, .int .i64 cc] 49))
      clear hs hlt
      by_cases e4 : f ≤ t
      · rw [if_pos e4] at hnx
        have HNX := Lib.hid hnx
        clear hnx
        go_wp2
        go_roundw
        case rel => exact ⟨k + 1, by have := HLT2.out; omega, by go_num, by rw [HNX.out], HB8⟩
        case measure => simp [intOf]; have := HLT2.out; omega
      · rw [if_neg e4] at hnx
        have HNX := Lib.hid hnx
        clear hnx
        go_wp2
        go_roundw
        case rel => exact ⟨k + 1, by have := HLT2.out; omega, by go_num, by rw [HNX.out], HB8⟩
        case measure => simp [intOf]; have := HLT2.out; omega
    · obtain rfl : k = xn := by omega
      have e2 : ¬ (k : Int) < k := by omega
      have HT : Hid (sp.take k = sp) := List.take_of_length_le (by rw [HN.out]; exact Nat.le_refl _)
      go_wp2
      go_ret2
      exact ⟨by rw [HEE.out, HZZ.out, HT.out]; rfl, HBR.out⟩
end Go.Proofs.Ytjnbdeopoohnmaa
