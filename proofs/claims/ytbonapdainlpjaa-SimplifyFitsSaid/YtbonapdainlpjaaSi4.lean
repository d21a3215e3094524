/- Layer 53 (simplify): what is left, plain; the walks of drop, at both closures. -/
import Derived.Test.YtbonapdainlpjaaSi3
import Derived.Deep.RegionHeld3
import Derived.Deep.CutBlock
import Derived.Deep.RegionLaw
import Derived.Lib.QuietBelow
import Derived.Lib.SliceRun
set_option linter.unusedSimpArgs false
set_option linter.unusedVariables false
namespace Go.Proofs.Ytbonapdainlpjaa
open Go.RowKit Go.Sort

/-- the least one is left out as long as something is so -/
def sdrop (so : Nat → Int → Bool) (l : List Smp) : List Smp :=
  match h : sleast l with
  | none => l
  | some (j, u) => if so l.length u = true then sdrop so (l.eraseIdx j) else l
termination_by l.length
decreasing_by
  have := sleast_in h
  rw [List.length_eraseIdx_of_lt (by omega)]
  omega
theorem sdrop_none {so : Nat → Int → Bool} {l : List Smp} (h : sleast l = none) : sdrop so l = l := by
  rw [sdrop]
  split
  · rfl
  · rename_i h'; rw [h] at h'; cases h'
theorem sdrop_stop {so : Nat → Int → Bool} {l : List Smp} {j : Nat} {u : Int} (h : sleast l = some (j, u)) (hs : so l.length u = false) : sdrop so l = l := by
  rw [sdrop]
  split
  · rfl
  · rename_i h'
    rw [h] at h'
    simp only [Option.some.injEq, Prod.mk.injEq] at h'
    obtain ⟨rfl, rfl⟩ := h'
    rw [hs, if_neg (by simp)]
theorem sdrop_go {so : Nat → Int → Bool} {l : List Smp} {j : Nat} {u : Int} (h : sleast l = some (j, u)) (hs : so l.length u = true) : sdrop so l = sdrop so (l.eraseIdx j) := by
  rw [sdrop]
  split
  · rename_i h'; rw [h] at h'; cases h'
  · rename_i h'
    rw [h] at h'
    simp only [Option.some.injEq, Prod.mk.injEq] at h'
    obtain ⟨rfl, rfl⟩ := h'
    rw [hs, if_pos rfl]
def lenOf : Value → Nat
  | .slice _ n _ => n
  | _ => 0
def soS (limit : Int) : Nat → Int → Bool := fun _ u => decide (u < limit)
def soT (most : Int) : Nat → Int → Bool := fun n _ => decide (most < n)

theorem s1_any (n u limit : Int) (g : Nat) (w : World) (hc : w.cell? ⟨g, 0, none⟩ = some (.int .i64 limit)) :
    Calls Try.prog 81 #[.int .i64 n, .int .i64 u, .pointer (some ⟨g, 0, none⟩)] w fun e w' => e = .returned (.bool (decide (u < limit))) ∧ w = w' := by
  go_enter Try.func81, Try.ntmps81
  go_wp2
  go_ret
  exact ⟨rfl, rfl⟩
theorem t1_any (n u limit : Int) (g : Nat) (w : World) (hc : w.cell? ⟨g, 0, none⟩ = some (.int .i64 limit)) :
    Calls Try.prog 82 #[.int .i64 n, .int .i64 u, .pointer (some ⟨g, 0, none⟩)] w fun e w' => e = .returned (.bool (decide (limit < n))) ∧ w = w' := by
  go_enter Try.func82, Try.ntmps82
  go_wp2
  go_ret
  exact ⟨rfl, rfl⟩

set_option maxRecDepth 100000 in
set_option maxHeartbeats 3200000 in
theorem dropS_any (v : Value) (l : List Smp) (limit : Int) (g : Nat) (w : World) (h : Ss w v l) (hlen : l.length ≤ 1000000) (hc : w.cell? ⟨g, 0, none⟩ = some (.int .i64 limit)) :
    Calls Try.prog 80 #[v, .func (Fn.func 81) #[] #[.pointer (some ⟨g, 0, none⟩)]] w fun e w' => ∃ v', e = .returned v' ∧ Gw 3 Smp.cells w' w.heap.size 30 v' (sdrop (soS limit) l) ∧ Below w.heap.size w w' := by
  have hlt : g < w.heap.size := by have := World.block_lt_of_cell? w _ hc; simpa using this
  have HC : Hid (∀ W, Below w.heap.size w W → W.cell? ⟨g, 0, none⟩ = some (.int .i64 limit)) := fun W hW => by rw [hW.cell hlt]; exact hc
  have HV : Hid (Gs 3 Smp.cells w v l) := h
  clear h hc
  go_enter Try.func80, Try.ntmps80
  go_wp2_with (go_at_call 110; refine (cloneS_any _ l _ HV.out hlen).mono ?_; rintro e w2 ⟨v2, rfl, hg2, hb2⟩; have HG2 := Lib.hid hg2; have HB2 := Lib.hid hb2; clear hg2 hb2)
  go_loopw [5] (fun v5 wr => ∃ (y : Value) (l' : List Smp), y = v5 ∧ l'.length ≤ 1000000 ∧ Hid (lenOf y = l'.length) ∧ Hid (Gw 3 Smp.cells wr w.heap.size 30 y l') ∧ Hid (sdrop (soS limit) l' = sdrop (soS limit) l) ∧ Hid (Below w.heap.size w wr)) (fun v5 _ => lenOf v5)
  case atStart =>
    refine ⟨_, l, rfl, hlen, ?_, HG2, rfl, HB2⟩
    obtain ⟨a, c, he⟩ := HG2.out.gs.shape
    rw [he]; rfl
  case round =>
    obtain ⟨y, l', rfl, hl', HLN, HG, HSD, HB⟩ := hrel
    obtain ⟨a, c, hsh⟩ := HG.out.gs.shape
    subst hsh
    obtain ⟨n, hn⟩ : ∃ n, l'.length = n := ⟨_, rfl⟩
    have hlst := sileast_any (.slice a l'.length c) l' wr HG.out.gs
    have hc2 := HC.out _ HB.out
    rw [hn] at HG HLN hlst ⊢
    rcases hst : sleast l' with _ | ⟨j, u⟩
    · rw [hst] at hlst
      unfold pat pval pok at hlst
      dsimp only at hlst
      have HLST := Lib.hid hlst
      have HFIN : Hid (sdrop (soS limit) l = l') := by rw [← HSD.out]; exact sdrop_none hst
      clear hlst hst
      go_wp2_with (go_at_call 111; refine HLST.out.mono ?_; rintro e w3 ⟨rfl, hb3⟩; have HB3 := Lib.hid (HB.out.trans (hb3.mono HB.out.size)); have HG3 := Lib.hid (HG.out.below hb3); clear hb3)
      go_ret
      exact ⟨_, rfl, by rw [HFIN.out]; exact HG3.out, HB3.out⟩
    · rw [hst] at hlst
      unfold pat pval pok at hlst
      dsimp only at hlst
      have HLST := Lib.hid hlst
      obtain ⟨hj1, hj2, -⟩ := sleast_in hst
      by_cases hso : soS limit l'.length u = true
      · have HGO := Lib.hid ((sdrop_go hst hso).symm.trans HSD.out)
        have hso2 : decide (u < limit) = true := hso
        have HJL : Hid (j < l'.length ∧ l'.length ≤ 1000000) := by constructor <;> omega
        have hel : (l'.eraseIdx j).length = l'.length - 1 := List.length_eraseIdx_of_lt (by omega)
        have HEL := Lib.hid hel
        have hj63 : (j : Int) < 1000000 := by omega
        have hul : u < limit := by simpa using hso2
        clear hlst hst hso hel
        go_wp2_with (first
          | (go_at_call 111; refine HLST.out.mono ?_; rintro e w3 ⟨rfl, hb3⟩; have HB3 := Lib.hid (HB.out.trans (hb3.mono HB.out.size)); have HG3 := Lib.hid (HG.out.below hb3); clear hb3)
          | (go_at_call 81; with_reducible refine (s1_any _ u limit g w3 (HC.out _ HB3.out)).mono ?_; rw [hso2]; rintro e w4 ⟨rfl, rfl⟩)
          | (go_at_call 112; refine (deleteS_any _ l' j w.heap.size _ HG3.out HJL.out.1 HJL.out.2).mono ?_; rintro e w5 ⟨v5, rfl, hg5, hob5, ho5⟩; have HB5 := Lib.hid (HB3.out.trans (ho5.below (fun k hk => (HG3.out.lt k hk).1) HB3.out.size)); have HG5 := Lib.hid hg5; clear hg5 hob5 ho5))
        go_roundw
        case rel =>
          refine ⟨_, _, rfl, by rw [HEL.out]; omega, ?_, HG5, HGO, HB5⟩
          obtain ⟨a5, c5, he⟩ := HG5.out.gs.shape
          rw [he]; rfl
        case measure =>
          obtain ⟨a5, c5, he⟩ := HG5.out.gs.shape
          rw [he]
          show (l'.eraseIdx j).length < n
          rw [HEL.out]
          omega
      · have hso2 : decide (u < limit) = false := by simpa [soS] using hso
        have HFIN : Hid (sdrop (soS limit) l = l') := by rw [← HSD.out]; exact sdrop_stop hst (by simpa using hso)
        have hul : limit ≤ u := by simpa using hso2
        clear hlst hst hso
        go_wp2_with (first
          | (go_at_call 111; refine HLST.out.mono ?_; rintro e w3 ⟨rfl, hb3⟩; have HB3 := Lib.hid (HB.out.trans (hb3.mono HB.out.size)); have HG3 := Lib.hid (HG.out.below hb3); clear hb3)
          | (go_at_call 81; with_reducible refine (s1_any _ u limit g w3 (HC.out _ HB3.out)).mono ?_; rw [hso2]; rintro e w4 ⟨rfl, rfl⟩))
        go_ret
        exact ⟨_, rfl, by rw [HFIN.out]; exact HG3.out, HB3.out⟩

set_option maxRecDepth 100000 in
set_option maxHeartbeats 3200000 in
theorem dropT_any (v : Value) (l : List Smp) (limit : Int) (g : Nat) (w : World) (h : Ss w v l) (hlen : l.length ≤ 1000000) (hc : w.cell? ⟨g, 0, none⟩ = some (.int .i64 limit)) :
    Calls Try.prog 80 #[v, .func (Fn.func 82) #[] #[.pointer (some ⟨g, 0, none⟩)]] w fun e w' => ∃ v', e = .returned v' ∧ Gw 3 Smp.cells w' w.heap.size 30 v' (sdrop (soT limit) l) ∧ Below w.heap.size w w' := by
  have hlt : g < w.heap.size := by have := World.block_lt_of_cell? w _ hc; simpa using this
  have HC : Hid (∀ W, Below w.heap.size w W → W.cell? ⟨g, 0, none⟩ = some (.int .i64 limit)) := fun W hW => by rw [hW.cell hlt]; exact hc
  have HV : Hid (Gs 3 Smp.cells w v l) := h
  clear h hc
  go_enter Try.func80, Try.ntmps80
  go_wp2_with (go_at_call 110; refine (cloneS_any _ l _ HV.out hlen).mono ?_; rintro e w2 ⟨v2, rfl, hg2, hb2⟩; have HG2 := Lib.hid hg2; have HB2 := Lib.hid hb2; clear hg2 hb2)
  go_loopw [5] (fun v5 wr => ∃ (y : Value) (l' : List Smp), y = v5 ∧ l'.length ≤ 1000000 ∧ Hid (lenOf y = l'.length) ∧ Hid (Gw 3 Smp.cells wr w.heap.size 30 y l') ∧ Hid (sdrop (soT limit) l' = sdrop (soT limit) l) ∧ Hid (Below w.heap.size w wr)) (fun v5 _ => lenOf v5)
  case atStart =>
    refine ⟨_, l, rfl, hlen, ?_, HG2, rfl, HB2⟩
    obtain ⟨a, c, he⟩ := HG2.out.gs.shape
    rw [he]; rfl
  case round =>
    obtain ⟨y, l', rfl, hl', HLN, HG, HSD, HB⟩ := hrel
    obtain ⟨a, c, hsh⟩ := HG.out.gs.shape
    subst hsh
    obtain ⟨n, hn⟩ : ∃ n, l'.length = n := ⟨_, rfl⟩
    have hlst := sileast_any (.slice a l'.length c) l' wr HG.out.gs
    have hc2 := HC.out _ HB.out
    rw [hn] at HG HLN hlst ⊢
    rcases hst : sleast l' with _ | ⟨j, u⟩
    · rw [hst] at hlst
      unfold pat pval pok at hlst
      dsimp only at hlst
      have HLST := Lib.hid hlst
      have HFIN : Hid (sdrop (soT limit) l = l') := by rw [← HSD.out]; exact sdrop_none hst
      clear hlst hst
      go_wp2_with (go_at_call 111; refine HLST.out.mono ?_; rintro e w3 ⟨rfl, hb3⟩; have HB3 := Lib.hid (HB.out.trans (hb3.mono HB.out.size)); have HG3 := Lib.hid (HG.out.below hb3); clear hb3)
      go_ret
      exact ⟨_, rfl, by rw [HFIN.out]; exact HG3.out, HB3.out⟩
    · rw [hst] at hlst
      unfold pat pval pok at hlst
      dsimp only at hlst
      have HLST := Lib.hid hlst
      obtain ⟨hj1, hj2, -⟩ := sleast_in hst
      by_cases hso : soT limit l'.length u = true
      · have HGO := Lib.hid ((sdrop_go hst hso).symm.trans HSD.out)
        have hso2 : decide (limit < (n : Int)) = true := by rw [← hn]; exact hso
        have HJL : Hid (j < l'.length ∧ l'.length ≤ 1000000) := by constructor <;> omega
        have hel : (l'.eraseIdx j).length = l'.length - 1 := List.length_eraseIdx_of_lt (by omega)
        have HEL := Lib.hid hel
        have hj63 : (j : Int) < 1000000 := by omega
        have hul : limit < (n : Int) := by simpa using hso2
        clear hlst hst hso hel
        go_wp2_with (first
          | (go_at_call 111; refine HLST.out.mono ?_; rintro e w3 ⟨rfl, hb3⟩; have HB3 := Lib.hid (HB.out.trans (hb3.mono HB.out.size)); have HG3 := Lib.hid (HG.out.below hb3); clear hb3)
          | (go_at_call 82; with_reducible refine (t1_any (n : Int) u limit g w3 (HC.out _ HB3.out)).mono ?_; rw [hso2]; rintro e w4 ⟨rfl, rfl⟩)
          | (go_at_call 112; refine (deleteS_any _ l' j w.heap.size _ HG3.out HJL.out.1 HJL.out.2).mono ?_; rintro e w5 ⟨v5, rfl, hg5, hob5, ho5⟩; have HB5 := Lib.hid (HB3.out.trans (ho5.below (fun k hk => (HG3.out.lt k hk).1) HB3.out.size)); have HG5 := Lib.hid hg5; clear hg5 hob5 ho5))
        go_roundw
        case rel =>
          refine ⟨_, _, rfl, by rw [HEL.out]; omega, ?_, HG5, HGO, HB5⟩
          obtain ⟨a5, c5, he⟩ := HG5.out.gs.shape
          rw [he]; rfl
        case measure =>
          obtain ⟨a5, c5, he⟩ := HG5.out.gs.shape
          rw [he]
          show (l'.eraseIdx j).length < n
          rw [HEL.out]
          omega
      · have hso2 : decide (limit < (n : Int)) = false := by rw [← hn]; simpa [soT] using hso
        have HFIN : Hid (sdrop (soT limit) l = l') := by rw [← HSD.out]; exact sdrop_stop hst (by simpa using hso)
        have hul : (n : Int) ≤ limit := by simpa using hso2
        clear hlst hst hso
        go_wp2_with (first
          | (go_at_call 111; refine HLST.out.mono ?_; rintro e w3 ⟨rfl, hb3⟩; have HB3 := Lib.hid (HB.out.trans (hb3.mono HB.out.size)); have HG3 := Lib.hid (HG.out.below hb3); clear hb3)
          | (go_at_call 82; with_reducible refine (t1_any (n : Int) u limit g w3 (HC.out _ HB3.out)).mono ?_; rw [hso2]; rintro e w4 ⟨rfl, rfl⟩))
        go_ret
        exact ⟨_, rfl, by rw [HFIN.out]; exact HG3.out, HB3.out⟩

end Go.Proofs.Ytbonapdainlpjaa
