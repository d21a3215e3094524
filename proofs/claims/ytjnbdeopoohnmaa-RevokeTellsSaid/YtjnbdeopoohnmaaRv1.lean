/- Layer 12 (revoke): a list of what is revoked; one, Right of both sides. -/
import Derived.Test.YtjnbdeopoohnmaaVarint
import Derived.Test.YtjnbdeopoohnmaaRset
import Derived.Test.YtjnbdeopoohnmaaRv0
import Derived.Deep.RegionHeld3
import Derived.Deep.RegionLaw
import Derived.Deep.DeepCutAuto
import Derived.Deep.CutBlock
import Derived.Lib.QuietBelow
set_option linter.unusedSimpArgs false
namespace Go.Proofs.Ytjnbdeopoohnmaa
open Go.RowKit Go.Sort

def csR (s : RT) : List Value := [.int .i64 s.1, .int .i64 s.2]
theorem layR : Lay 2 csR := ⟨fun _ => rfl, fun a u h => by simp only [csR, List.mem_cons, List.not_mem_nil, or_false] at h; rcases h with rfl | rfl <;> rfl, by decide⟩
theorem info_rev : (Try.prog.info? 29).map (fun i => (i.zero, i.size, i.bytes)) = some (some (.agg #[.int .i64 0, .int .i64 0]), 2, 16) := by kernel_rfl
theorem elR : ElTy Try.prog 22 29 (.agg #[.int .i64 0, .int .i64 0]) 2 16 := ⟨Try.underlying22, info_parts info_rev, rfl, by decide⟩
theorem rev_cells {w : World} {q : Nat} {x y : Int} (h : w.heap[q]? = some (.cells #[.int .i64 x, .int .i64 y] 29 (0, 0))) :
    w.cell? ⟨q, 0, none⟩ = some (.int .i64 x) ∧ w.cell? ⟨q, 1, none⟩ = some (.int .i64 y) :=
  ⟨cell_of_row w _ _ _ _ _ h, cell_of_row w _ _ _ _ _ h⟩

theorem rOne_any (x : RT) (w : World) : Calls Try.prog 40 #[.agg #[.int .i64 x.1, .int .i64 x.2]] w fun e w' => e = .returned (.bool (rone x)) ∧ Below w.heap.size w w' := by
  obtain ⟨t, u⟩ := x
  simp only
  have HB := Lib.hid ((Below.refl w.heap.size w).alloc (Nat.le_refl _) (.cells #[.int .i64 t, .int .i64 u] 29))
  obtain ⟨b, hb⟩ : ∃ b, rone (t, u) = b := ⟨_, rfl⟩
  have HV : Hid (b = (decide (1 ≤ t) && (decide (t ≤ 2147483648) && (decide (0 ≤ u) && decide (u ≤ 1099511627776))))) := hb.symm
  rw [hb]
  clear hb
  go_enter Try.func40, Try.ntmps40
  by_cases h1 : 1 ≤ t
  · by_cases h2 : t ≤ 2147483648
    · by_cases h3 : 0 ≤ u
      · go_wp2
        go_ret
        exact ⟨by rw [HV.out, decide_eq_true h1, decide_eq_true h2, decide_eq_true h3]; simp, HB.out⟩
      · have HF : Hid (b = false) := by show _ = _; rw [HV.out, decide_eq_false h3]; simp
        go_wp2
        go_ret
        exact ⟨by rw [HF.out]; rfl, HB.out⟩
    · have HF : Hid (b = false) := by show _ = _; rw [HV.out, decide_eq_false h2]; simp
      go_wp2
      go_ret
      exact ⟨by rw [HF.out]; rfl, HB.out⟩
  · have HF : Hid (b = false) := by show _ = _; rw [HV.out, decide_eq_false h1]; simp
    go_wp2
    go_ret
    exact ⟨by rw [HF.out]; rfl, HB.out⟩

theorem rinc_drop {l : List RT} {k : Nat} {x : RT} {last : Int} (h : l[k]? = some x) : rinc last (l.drop k) = (rone x && (decide (last < x.1) && rinc x.1 (l.drop (k + 1)))) := by
  obtain ⟨hk, hx⟩ := List.getElem?_eq_some_iff.1 h
  rw [List.drop_eq_getElem_cons hk, hx]
  rfl
theorem rone_pos {x : RT} (h : rone x = true) : 1 ≤ x.1 := by
  unfold rone at h
  simp only [Bool.and_eq_true, decide_eq_true_eq] at h
  exact h.1
/-- where the walk of a list's trips stands -/
def RAt12 (l : List RT) (R : Bool) (k : Nat) : Prop := ∃ last : Int, R = rinc last (l.drop k) ∧ (k = 0 → last = 0) ∧ (0 < k → ∃ u, l[k - 1]? = some (last, u))
theorem RAt12.bad {l : List RT} {R : Bool} {k : Nat} (h : RAt12 l R k) {x : RT} (hx : l[k]? = some x) (hb : rone x = false) : R = false := by
  obtain ⟨last, h1, _, _⟩ := h
  rw [h1, rinc_drop hx, hb]; rfl
theorem RAt12.low {l : List RT} {R : Bool} {k : Nat} (h : RAt12 l R k) {x y : RT} (hx : l[k]? = some x) (hk : 0 < k) (hy : l[k - 1]? = some y) (hb : x.1 ≤ y.1) : R = false := by
  obtain ⟨last, h1, _, h3⟩ := h
  obtain ⟨u, hu⟩ := h3 hk
  rw [hu] at hy
  cases hy
  rw [h1, rinc_drop hx, decide_eq_false (by simp only at hb; omega)]
  simp
theorem RAt12.next {l : List RT} {R : Bool} {k : Nat} (h : RAt12 l R k) {x : RT} (hx : l[k]? = some x) (hg : rone x = true) (hb : 0 < k → ∀ y, l[k - 1]? = some y → ¬ x.1 ≤ y.1) : RAt12 l R (k + 1) := by
  obtain ⟨last, h1, h2, h3⟩ := h
  refine ⟨x.1, ?_, fun h => by omega, fun _ => ⟨x.2, by simpa using hx⟩⟩
  rw [h1, rinc_drop hx, hg, decide_eq_true, Bool.true_and, Bool.true_and]
  by_cases hk : 0 < k
  · obtain ⟨u, hu⟩ := h3 hk
    have := hb hk _ hu
    simp only at this
    omega
  · have := h2 (by omega)
    have := rone_pos hg
    omega
theorem RAt12.stop {l : List RT} {R : Bool} {k : Nat} (h : RAt12 l R k) (hk : l.length ≤ k) : R = true := by
  obtain ⟨last, h1, _, _⟩ := h
  rw [h1, List.drop_of_length_le hk]; rfl

set_option maxRecDepth 100000 in
set_option maxHeartbeats 800000 in
theorem rRight_any (v : Value) (l : List RT) (w : World) (h : Gs 2 csR w v l) : Calls Try.prog 14 #[v] w fun e w' => e = .returned (.bool (rright l)) ∧ Below w.heap.size w w' := by
  obtain ⟨n, hn⟩ : ∃ n, l.length = n := ⟨_, rfl⟩
  obtain ⟨a, c, b, o, rfl, h1, h2, hix, hlt', hcell, -⟩ := h.open_n layR elR n hn
  have HC := Lib.hid hcell
  have HN := Lib.hid hn
  have HLT := Lib.hid hlt'
  have HV : Hid (rright l = (decide (n ≤ 4096) && rinc 0 l)) := by show _ = _; unfold rright; rw [hn]
  obtain ⟨R, hR⟩ : ∃ R, rright l = R := ⟨_, rfl⟩
  rw [hR] at HV ⊢
  clear h hn hcell hlt' hR
  go_enter Try.func14, Try.ntmps14
  by_cases hbig : 4096 < n
  · have e1 : (4096 : Int) < n := by omega
    have HF : Hid (R = false) := by show _ = _; rw [HV.out, decide_eq_false (by omega)]; rfl
    go_wp2
    go_ret
    exact ⟨by rw [HF.out]; rfl, Below.refl _ _⟩
  · have e1 : ¬ (4096 : Int) < n := by omega
    have hn4 : n ≤ 4096 := by omega
    have H0 : Hid (RAt12 l R 0) := ⟨0, by rw [HV.out, decide_eq_true hn4]; rfl, fun _ => rfl, fun h => by omega⟩
    clear hbig
    go_wp2_with fail
    go_loopw [10] (fun vi wr => ∃ k : Nat, k ≤ n ∧ vi = .int .i64 k ∧ Hid (RAt12 l R k) ∧ Hid (Below w.heap.size w wr)) (fun vi _ => n - (intOf vi).toNat)
    case atStart => exact ⟨0, by omega, rfl, H0, Below.refl _ _⟩
    case round =>
      obtain ⟨k, hk, rfl, HP, HB⟩ := hrel
      by_cases hlt : k < n
      · have e2 : (k : Int) < n := by omega
        obtain ⟨x, hs⟩ : ∃ s, l[k]? = some s := ⟨_, List.getElem?_eq_getElem (by have := HN.out; omega)⟩
        have c0 := HC.out k x hs 0 _ rfl
        have c1 := HC.out k x hs 1 _ rfl
        rw [Nat.add_zero] at c0
        rw [← HB.out.cell (by exact HLT.out k hlt)] at c0 c1
        have hixk := fun W => hix W k hlt
        obtain ⟨W2, hW2⟩ : ∃ V, wr.alloc (.cells #[.int .i64 x.1, .int .i64 x.2] 29) = V := ⟨_, rfl⟩
        obtain ⟨q2, hq2⟩ : ∃ y, wr.heap.size = y := ⟨_, rfl⟩
        have hr2 : W2.heap[q2]? = some (.cells #[.int .i64 x.1, .int .i64 x.2] 29 (0, 0)) := by rw [← hW2, ← hq2]; exact heap_alloc_new _ _
        have hb2 : Below wr.heap.size wr W2 := by rw [← hW2]; exact (Below.refl _ _).alloc (Nat.le_refl _) _
        have HB2 := Lib.hid (HB.out.trans (hb2.mono HB.out.size))
        obtain ⟨d0, d1⟩ := rev_cells hr2
        have r0 := fun d os => cell_regrown d0 d os
        have r1 := fun d os => cell_regrown d1 d os
        obtain ⟨g, hg⟩ : ∃ g, rone x = g := ⟨_, rfl⟩
        have S1 : Hid (∀ d os, Calls Try.prog 40 #[.agg #[.int .i64 x.1, .int .i64 x.2]] (grow (redrawn W2 d) os) fun e w'' => e = .returned (.bool g) ∧ ∃ p : Regrown, w'' = grow (redrawn W2 p.d) p.os) := fun d os => by
          have := rOne_any x (grow (redrawn W2 d) os)
          rw [hg] at this
          exact Calls.regrown_of this
        have HS := Lib.hid hs
        have HG := Lib.hid hg
        obtain ⟨xt, xu⟩ := x
        simp only at c0 c1 d0 d1 r0 r1 S1 hW2
        have HW2 := Lib.hid hW2
        have HQ2 := Lib.hid hq2
        have HLTK := Lib.hid hlt
        clear hs hg hr2 hb2 hW2 hq2
        go_upto_region 6 with fail
        rw [HW2.out, HQ2.out]
        clear c0 c1 d0 d1
        cases g with
        | false =>
          have HF : Hid (R = false) := HP.out.bad HS.out HG.out
          refine wp_region_quiet_below (by kernel_rfl) (by kernel_rfl) ?_
          repeat (go_big_quiet_step ((go_at_call 40; with_reducible exact S1.out _ _)))
          refine wpQuiet_nil ?_
          intro _ hw'
          obtain ⟨⟨dq, osq⟩, hw''⟩ := hw'
          subst hw''
          have HB3 := below_regrown W2 dq osq
          obtain ⟨W3, hwq⟩ : ∃ x, x = grow (redrawn W2 dq) osq := ⟨_, rfl⟩
          rw [← hwq] at HB3 ⊢
          clear hwq
          have HFIN := Lib.hid (HB2.out.trans (HB3.mono HB2.out.size))
          clear HB3
          go_wp2
          go_ret
          exact ⟨by rw [HF.out]; rfl, HFIN.out⟩
        | true =>
          by_cases hk0 : 0 < k
          · obtain ⟨y, hy⟩ : ∃ s, l[k - 1]? = some s := ⟨_, List.getElem?_eq_getElem (by have := HN.out; omega)⟩
            have m0 := HC.out (k - 1) y hy 0 _ rfl
            rw [Nat.add_zero, ← HB2.out.cell (by exact HLT.out (k - 1) (by omega))] at m0
            have HY := Lib.hid hy
            obtain ⟨yt, yu⟩ := y
            simp only at m0
            have r2 := fun d os => cell_regrown m0 d os
            have hixp : ∀ V : World, (Instr.indexAt 22 (.slice a n c) (.int .i64 ((k : Int) - 1))).run Try.prog V = .ok (.pointer (some ⟨b, o (k - 1), none⟩)) V := fun V => by
              have := hix V (k - 1) (by omega)
              rwa [show (((k - 1 : Nat)) : Int) = (k : Int) - 1 by omega] at this
            have hsub : IntKind.i64.wrap ((k : Int) - 1) = (k : Int) - 1 := by rw [IntKind.wrap_i64]; omega
            clear hy m0
            by_cases hle : xt ≤ yt
            · have HF : Hid (R = false) := HP.out.low HS.out hk0 HY.out hle
              refine wp_region_quiet_below (by kernel_rfl) (by kernel_rfl) ?_
              repeat (go_big_quiet_step ((go_at_call 40; with_reducible exact S1.out _ _)))
              refine wpQuiet_nil ?_
              intro _ hw'
              obtain ⟨⟨dq, osq⟩, hw''⟩ := hw'
              subst hw''
              have HB3 := below_regrown W2 dq osq
              obtain ⟨W3, hwq⟩ : ∃ x, x = grow (redrawn W2 dq) osq := ⟨_, rfl⟩
              rw [← hwq] at HB3 ⊢
              clear hwq
              have HFIN := Lib.hid (HB2.out.trans (HB3.mono HB2.out.size))
              clear HB3
              go_wp2
              go_ret
              exact ⟨by rw [HF.out]; rfl, HFIN.out⟩
            · have HF : Hid (RAt12 l R (k + 1)) := HP.out.next HS.out HG.out (fun _ z hz => by rw [HY.out] at hz; cases hz; exact hle)
              refine wp_region_quiet_below (by kernel_rfl) (by kernel_rfl) ?_
              repeat (go_big_quiet_step ((go_at_call 40; with_reducible exact S1.out _ _)))
              refine wpQuiet_nil ?_
              intro _ hw'
              obtain ⟨⟨dq, osq⟩, hw''⟩ := hw'
              subst hw''
              have HB3 := below_regrown W2 dq osq
              obtain ⟨W3, hwq⟩ : ∃ x, x = grow (redrawn W2 dq) osq := ⟨_, rfl⟩
              rw [← hwq] at HB3 ⊢
              clear hwq
              have HFIN := Lib.hid (HB2.out.trans (HB3.mono HB2.out.size))
              clear HB3
              go_wp2
              go_roundw
              case rel => exact ⟨k + 1, by have := HLTK.out; omega, by go_num, HF, HFIN⟩
              case measure => simp [intOf]; have := HLTK.out; omega
          · have HF : Hid (RAt12 l R (k + 1)) := HP.out.next HS.out HG.out (fun h => absurd h hk0)
            have e3 : decide (0 < k) = false := by simpa using hk0
            clear hk0
            refine wp_region_quiet_below (by kernel_rfl) (by kernel_rfl) ?_
            repeat (go_big_quiet_step ((go_at_call 40; with_reducible exact S1.out _ _)))
            refine wpQuiet_nil ?_
            intro _ hw'
            obtain ⟨⟨dq, osq⟩, hw''⟩ := hw'
            subst hw''
            have HB3 := below_regrown W2 dq osq
            obtain ⟨W3, hwq⟩ : ∃ x, x = grow (redrawn W2 dq) osq := ⟨_, rfl⟩
            rw [← hwq] at HB3 ⊢
            clear hwq
            have HFIN := Lib.hid (HB2.out.trans (HB3.mono HB2.out.size))
            clear HB3
            go_wp2
            go_roundw
            case rel => exact ⟨k + 1, by have := HLTK.out; omega, by go_num, HF, HFIN⟩
            case measure => simp [intOf]; have := HLTK.out; omega
      · obtain rfl : k = n := by omega
        have e2 : ¬ (k : Int) < k := by omega
        have HF : Hid (R = true) := HP.out.stop (by rw [HN.out]; exact Nat.le_refl _)
        go_wp2
        go_ret
        exact ⟨by rw [HF.out]; rfl, HB.out⟩

set_option maxRecDepth 100000 in
set_option maxHeartbeats 800000 in
theorem rrRight_any (v : Value) (l : List RT) (w : World) (h : Gs 2 csR w v l) (hl : l.length ≤ 10000) : Calls Try.prog 11 #[v] w fun e w' => e = .returned (.bool (rright l)) ∧ Below w.heap.size w w' := by
  obtain ⟨n, hn⟩ : ∃ n, l.length = n := ⟨_, rfl⟩
  obtain ⟨a, c, b, o, rfl, h1, h2, hix, hlt', hcell, -⟩ := h.open_n layR elR n hn
  have HC := Lib.hid hcell
  have HN := Lib.hid hn
  have HLT := Lib.hid hlt'
  have hn1 : n ≤ 10000 := by omega
  have HV : Hid (rright l = (decide (n ≤ 4096) && rinc 0 l)) := by show _ = _; unfold rright; rw [hn]
  obtain ⟨R, hR⟩ : ∃ R, rright l = R := ⟨_, rfl⟩
  obtain ⟨R2, hR2⟩ : ∃ R, rinc 0 l = R := ⟨_, rfl⟩
  rw [hR, hR2] at HV
  rw [hR]
  have H0 : Hid (RAt12 l R2 0) := ⟨0, by rw [← hR2]; rfl, fun _ => rfl, fun h => by omega⟩
  clear h hn hcell hlt' hR hl hR2
  go_enter Try.func11, Try.ntmps11
  go_wp2_with fail
  go_loopw [3] (fun vi wr => ∃ k : Nat, k ≤ n ∧ vi = .int .i64 k ∧ Hid (RAt12 l R2 k) ∧ Hid (Below w.heap.size w wr)) (fun vi _ => n - (intOf vi).toNat)
  case atStart => exact ⟨0, by omega, rfl, H0, Below.refl _ _⟩
  case round =>
    obtain ⟨k, hk, rfl, HP, HB⟩ := hrel
    by_cases hlt : k < n
    · have e2 : (k : Int) < n := by omega
      obtain ⟨x, hs⟩ : ∃ s, l[k]? = some s := ⟨_, List.getElem?_eq_getElem (by have := HN.out; omega)⟩
      have c0 := HC.out k x hs 0 _ rfl
      have c1 := HC.out k x hs 1 _ rfl
      rw [Nat.add_zero] at c0
      rw [← HB.out.cell (by exact HLT.out k hlt)] at c0 c1
      have hixk := fun W => hix W k hlt
      have HS := Lib.hid hs
      obtain ⟨xt, xu⟩ := x
      simp only at c0 c1
      have HNO : Hid (rone (xt, xu) = false → R = false) := fun hb => by rw [HV.out, HP.out.bad HS.out hb]; simp
      have HLTK := Lib.hid hlt
      have hone : rone (xt, xu) = (decide (1 ≤ xt) && (decide (xt ≤ 2147483648) && (decide (0 ≤ xu) && decide (xu ≤ 1099511627776)))) := rfl
      clear hs
      by_cases h1 : xt < 1
      · have HF : Hid (R = false) := HNO.out (by rw [hone, decide_eq_false (by omega)]; rfl)
        clear hone
        go_wp2
        go_ret
        exact ⟨by rw [HF.out]; rfl, HB.out⟩
      · by_cases h2 : 2147483648 < xt
        · have HF : Hid (R = false) := HNO.out (by rw [hone, decide_eq_false (by omega : ¬ xt ≤ 2147483648)]; simp)
          clear hone
          go_wp2
          go_ret
          exact ⟨by rw [HF.out]; rfl, HB.out⟩
        · by_cases h3 : xu < 0
          · have HF : Hid (R = false) := HNO.out (by rw [hone, decide_eq_false (by omega : ¬ 0 ≤ xu)]; simp)
            clear hone
            go_wp2
            go_ret
            exact ⟨by rw [HF.out]; rfl, HB.out⟩
          · by_cases h4 : 1099511627776 < xu
            · have HF : Hid (R = false) := HNO.out (by rw [hone, decide_eq_false (by omega : ¬ xu ≤ 1099511627776)]; simp)
              clear hone
              go_wp2
              go_ret
              exact ⟨by rw [HF.out]; rfl, HB.out⟩
            · have HG : Hid (rone (xt, xu) = true) := by show _ = _; rw [hone, decide_eq_true (by omega), decide_eq_true (by omega), decide_eq_true (by omega), decide_eq_true (by omega)]; rfl
              have r0 := fun d os => cell_regrown c0 d os
              clear hone
              go_upto_region 6 with fail
              clear c0 c1
              by_cases hk0 : 0 < k
              · obtain ⟨y, hy⟩ : ∃ s, l[k - 1]? = some s := ⟨_, List.getElem?_eq_getElem (by have := HN.out; omega)⟩
                have m0 := HC.out (k - 1) y hy 0 _ rfl
                rw [Nat.add_zero, ← HB.out.cell (by exact HLT.out (k - 1) (by omega))] at m0
                have HY := Lib.hid hy
                obtain ⟨yt, yu⟩ := y
                simp only at m0
                have r2 := fun d os => cell_regrown m0 d os
                have hixp : ∀ V : World, (Instr.indexAt 22 (.slice a n c) (.int .i64 ((k : Int) - 1))).run Try.prog V = .ok (.pointer (some ⟨b, o (k - 1), none⟩)) V := fun V => by
                  have := hix V (k - 1) (by omega)
                  rwa [show (((k - 1 : Nat)) : Int) = (k : Int) - 1 by omega] at this
                have hsub : IntKind.i64.wrap ((k : Int) - 1) = (k : Int) - 1 := by rw [IntKind.wrap_i64]; omega
                clear hy m0
                by_cases hle : xt ≤ yt
                · have HF : Hid (R = false) := by show _ = _; rw [HV.out, HP.out.low HS.out hk0 HY.out hle]; simp
                  refine wp_region_quiet_below (by kernel_rfl) (by kernel_rfl) ?_
                  repeat (go_big_quiet_step ((fail)))
                  refine wpQuiet_nil ?_
                  intro _ hw'
                  obtain ⟨⟨dq, osq⟩, hw''⟩ := hw'
                  subst hw''
                  have HB3 := below_regrown wr dq osq
                  obtain ⟨W3, hwq⟩ : ∃ x, x = grow (redrawn wr dq) osq := ⟨_, rfl⟩
                  rw [← hwq] at HB3 ⊢
                  clear hwq
                  have HFIN := Lib.hid (HB.out.trans (HB3.mono HB.out.size))
                  clear HB3
                  go_wp2
                  go_ret
                  exact ⟨by rw [HF.out]; rfl, HFIN.out⟩
                · have HF : Hid (RAt12 l R2 (k + 1)) := HP.out.next HS.out HG.out (fun _ z hz => by rw [HY.out] at hz; cases hz; exact hle)
                  refine wp_region_quiet_below (by kernel_rfl) (by kernel_rfl) ?_
                  repeat (go_big_quiet_step ((fail)))
                  refine wpQuiet_nil ?_
                  intro _ hw'
                  obtain ⟨⟨dq, osq⟩, hw''⟩ := hw'
                  subst hw''
                  have HB3 := below_regrown wr dq osq
                  obtain ⟨W3, hwq⟩ : ∃ x, x = grow (redrawn wr dq) osq := ⟨_, rfl⟩
                  rw [← hwq] at HB3 ⊢
                  clear hwq
                  have HFIN := Lib.hid (HB.out.trans (HB3.mono HB.out.size))
                  clear HB3
                  go_wp2
                  go_roundw
                  case rel => exact ⟨k + 1, by have := HLTK.out; omega, by go_num, HF, HFIN⟩
                  case measure => simp [intOf]; have := HLTK.out; omega
              · have HF : Hid (RAt12 l R2 (k + 1)) := HP.out.next HS.out HG.out (fun h => absurd h hk0)
                have e3 : decide (0 < k) = false := by simpa using hk0
                clear hk0
                refine wp_region_quiet_below (by kernel_rfl) (by kernel_rfl) ?_
                repeat (go_big_quiet_step ((fail)))
                refine wpQuiet_nil ?_
                intro _ hw'
                obtain ⟨⟨dq, osq⟩, hw''⟩ := hw'
                subst hw''
                have HB3 := below_regrown wr dq osq
                obtain ⟨W3, hwq⟩ : ∃ x, x = grow (redrawn wr dq) osq := ⟨_, rfl⟩
                rw [← hwq] at HB3 ⊢
                clear hwq
                have HFIN := Lib.hid (HB.out.trans (HB3.mono HB.out.size))
                clear HB3
                go_wp2
                go_roundw
                case rel => exact ⟨k + 1, by have := HLTK.out; omega, by go_num, HF, HFIN⟩
                case measure => simp [intOf]; have := HLTK.out; omega
    · obtain rfl : k = n := by omega
      have e2 : ¬ (k : Int) < k := by omega
      have hR2 := HP.out.stop (by rw [HN.out]; exact Nat.le_refl _)
      by_cases h64 : k ≤ 4096
      · have e3 : (k : Int) ≤ 4096 := by omega
        have HF : Hid (R = true) := by show _ = _; rw [HV.out, hR2, decide_eq_true h64]; rfl
        clear hR2
        go_wp2
        go_ret
        exact ⟨by rw [HF.out]; rfl, HB.out⟩
      · have e3 : ¬ (k : Int) ≤ 4096 := by omega
        have HF : Hid (R = false) := by show _ = _; rw [HV.out, decide_eq_false h64]; rfl
        clear hR2
        go_wp2
        go_ret
        exact ⟨by rw [HF.out]; rfl, HB.out⟩

end Go.Proofs.Ytjnbdeopoohnmaa
