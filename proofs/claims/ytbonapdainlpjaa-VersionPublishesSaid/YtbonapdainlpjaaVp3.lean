/- Layer 19 (version): the law's same, for shelves that are one. -/
import Derived.Test.YtbonapdainlpjaaVp2
import Derived.Deep.DeepCutAuto
import Derived.Deep.CutBlock
import Derived.Lib.QuietBelow
set_option linter.unusedSimpArgs false
namespace Go.Proofs.Ytbonapdainlpjaa
open Go.RowKit Go.Sort

set_option maxRecDepth 100000 in
set_option maxHeartbeats 800000 in
theorem vSame_yes (v u : Value) (l : List NetX) (w : World) (h : Nets w v l) (hu : Nets w u l) : Calls Try.prog 76 #[v, u] w fun e w' => e = .returned (.bool true) ∧ Below w.heap.size w w' := by
  obtain ⟨n, hn⟩ : ∃ n, l.length = n := ⟨_, rfl⟩
  obtain ⟨a, c, b, o, rfl, h1, h2, hix, hlt', hcell, -⟩ := h.1.open_n layX elNet n hn
  obtain ⟨a2, c2, b2, o2, rfl, h3, h4, hix2, hlt2, hcell2, -⟩ := hu.1.open_n layX elNet n hn
  have HC := Lib.hid hcell
  have HC2 := Lib.hid hcell2
  have HN := Lib.hid hn
  have HLT := Lib.hid hlt'
  have HLT2 := Lib.hid hlt2
  have HX := Lib.hid h.2
  have hnn : ((n : Int) != n) = false := by simp
  clear h hu hn hcell hlt' hcell2 hlt2
  go_enter Try.func76, Try.ntmps76
  go_wp2_with fail
  go_loopw [13] (fun vi wr => ∃ k : Nat, k ≤ n ∧ vi = .int .i64 k ∧ Hid (Below w.heap.size w wr)) (fun vi _ => n - (intOf vi).toNat)
  case atStart => exact ⟨0, by omega, rfl, Below.refl _ _⟩
  case round =>
    obtain ⟨k, hk, rfl, HB⟩ := hrel
    by_cases hlt : k < n
    · have e2 : (k : Int) < n := by omega
      obtain ⟨x, hs⟩ : ∃ s, l[k]? = some s := ⟨_, List.getElem?_eq_getElem (by have := HN.out; omega)⟩
      have m0 := HC.out k x hs 0 _ rfl
      have m1 := HC.out k x hs 1 _ rfl
      have m2 := HC.out k x hs 2 _ rfl
      have p0 := HC2.out k x hs 0 _ rfl
      have p1 := HC2.out k x hs 1 _ rfl
      have p2 := HC2.out k x hs 2 _ rfl
      rw [Nat.add_zero] at m0 p0
      rw [← HB.out.cell (by exact HLT.out k hlt)] at m0 m1 m2
      rw [← HB.out.cell (by exact HLT2.out k hlt)] at p0 p1 p2
      have hixk := fun W => hix W k hlt
      have hixk2 := fun W => hix2 W k hlt
      have CS := Lib.hid (fun (V : World) (hV : Below wr.heap.size wr V) => rgSame_yes x.1 _ _ _ _ V ((HX.out x (List.mem_of_getElem? hs)).below (HB.out.trans (hV.mono HB.out.size))) ((HX.out x (List.mem_of_getElem? hs)).below (HB.out.trans (hV.mono HB.out.size))))
      obtain ⟨⟨ver, st, ln⟩, ⟨xa, xn, xc⟩, ⟨ya, yn, yc⟩⟩ := x
      unfold Sl3.v at m1 m2 p1 p2 CS
      unfold Net.agg at CS
      simp only at m0 m1 m2 p0 p1 p2 CS
      have r0 := fun d os => cell_regrown m0 d os
      have r1 := fun d os => cell_regrown m1 d os
      have r2 := fun d os => cell_regrown m2 d os
      have r3 := fun d os => cell_regrown p0 d os
      have r4 := fun d os => cell_regrown p1 d os
      have r5 := fun d os => cell_regrown p2 d os
      have S1 : Hid (∀ d os, Calls Try.prog 69 #[.agg #[.int .i64 ver, .slice xa xn xc, .slice ya yn yc], .agg #[.int .i64 ver, .slice xa xn xc, .slice ya yn yc]] (grow (redrawn wr d) os) fun e w'' => e = .returned (.bool true) ∧ ∃ p : Regrown, w'' = grow (redrawn wr p.d) p.os) := fun d os => Calls.regrown_of (CS.out _ (below_regrown _ _ _))
      have HLTK := Lib.hid hlt
      clear hs
      go_upto_region 6 with fail
      clear m0 m1 m2 p0 p1 p2
      refine wp_region_quiet_below (by kernel_rfl) (by kernel_rfl) ?_
      repeat (go_big_quiet_step ((go_at_call 69; with_reducible exact S1.out _ _)))
      refine wpQuiet_nil ?_
      intro _ hw'
      obtain ⟨⟨dq, osq⟩, hw''⟩ := hw'
      subst hw''
      have HB2 := below_regrown wr dq osq
      obtain ⟨W2, hwq⟩ : ∃ x, x = grow (redrawn wr dq) osq := ⟨_, rfl⟩
      rw [← hwq] at HB2 ⊢
      clear hwq
      have hf : Hid (Below w.heap.size w W2) := HB.out.trans (HB2.mono HB.out.size)
      clear HB2
      go_wp2
      go_roundw
      case rel => exact ⟨k + 1, by have := HLTK.out; omega, by go_num, hf⟩
      case measure => simp [intOf]; have := HLTK.out; omega
    · obtain rfl : k = n := by omega
      have e2 : ¬ (k : Int) < k := by omega
      go_wp2
      go_ret
      exact ⟨rfl, HB.out⟩

/-- what Prune answers -/
def pruE (l : List NetX) (k : Int) : Int := if vright (vers l) = false ∨ k < 1 then 2 else 0
def pruL (l : List NetX) (k : Int) : List NetX := l.drop (l.length - min k.toNat l.length)
def PruPost (l : List NetX) (k : Int) (w : World) (e : Ending) (w' : World) : Prop :=
  (∃ v, e = .returned (.tuple #[v, .int .i64 (pruE l k)]) ∧ (pruE l k ≠ 0 → v = .slice none 0 0) ∧ (pruE l k = 0 → Nets w' v (pruL l k))) ∧ Below w.heap.size w w'

set_option maxRecDepth 100000 in
set_option maxHeartbeats 800000 in
theorem vPrune_any (v : Value) (l : List NetX) (k : Int) (w : World) (h : Nets w v l) (hl : l.length ≤ 1000) (hk : -9223372036854775808 ≤ k ∧ k ≤ 9223372036854775807) : Calls Try.prog 77 #[v, .int .i64 k] w (PruPost l k w) := by
  unfold PruPost
  obtain ⟨n, hn⟩ : ∃ n, l.length = n := ⟨_, rfl⟩
  have HH := Lib.hid h
  obtain ⟨a, c, hs⟩ := h.1.shape
  subst hs
  rw [hn] at HH hl ⊢
  have HL := Lib.hid hl
  have HN := Lib.hid hn
  have C2 := Lib.hid (vAll_any _ _ w HH.out (by rw [HN.out]; exact hl))
  obtain ⟨rt, hrt⟩ : ∃ r, vright (vers l) = r := ⟨_, rfl⟩
  have HRT := Lib.hid hrt
  have HEV : Hid (pruE l k = if rt = false ∨ k < 1 then 2 else 0) := by show _ = _; unfold pruE; rw [hrt]
  obtain ⟨E, hE⟩ : ∃ E, pruE l k = E := ⟨_, rfl⟩
  rw [hE] at HEV ⊢
  clear h hn hl hrt hE
  go_enter Try.func77, Try.ntmps77
  go_wp2_with fail
  refine C2.out.mono ?_
  rintro e w2 ⟨vv, rfl, hg, hb2⟩
  have C3 := Lib.hid (vRight_any _ _ w2 hg.gs)
  rw [HRT.out] at C3
  have HB2 := Lib.hid hb2
  clear hg hb2
  go_wp2_with fail
  refine C3.out.mono ?_
  rintro e w3 ⟨rfl, hb3⟩
  have hb03 := HB2.out.trans (hb3.mono HB2.out.size)
  have HB3 := Lib.hid hb03
  clear hb3 hb03
  cases rt with
  | false =>
    have HEE : Hid (E = 2) := by show _ = _; rw [HEV.out]; rfl
    go_wp2
    go_ret2
    exact ⟨⟨_, by rw [HEE.out]; rfl, fun _ => rfl, fun h => absurd h (by rw [HEE.out]; decide)⟩, HB3.out⟩
  | true =>
    by_cases hk1 : k < 1
    · have HEE : Hid (E = 2) := by show _ = _; rw [HEV.out, if_pos (.inr hk1)]
      go_wp2
      go_ret2
      exact ⟨⟨_, by rw [HEE.out]; rfl, fun _ => rfl, fun h => absurd h (by rw [HEE.out]; decide)⟩, HB3.out⟩
    · have HEE : Hid (E = 0) := by show _ = _; rw [HEV.out, if_neg (by simp; omega)]
      have hn1000 : n ≤ 1000 := HL.out
      by_cases hk2 : (n : Int) < k
      · have HYG : Hid (Nets w (.slice a n c) (pruL l k)) := by
          have : pruL l k = l := by unfold pruL; rw [show l.length - min k.toNat l.length = 0 by have := HN.out; omega]; rfl
          rw [this]
          exact HH.out
        have CC := Lib.hid (fun (V : World) (hV : Below w.heap.size w V) => vClone_any _ _ V ((HYG.out.below hV).1) (by unfold pruL; rw [List.length_drop]; have := HL.out; have := HN.out; omega))
        have hk3 : ¬ k ≤ (n : Int) := by omega
        clear hk2
        rcases (by omega : c = 0 ∨ c ≠ 0) with rfl | hc
        all_goals
          go_wp2_with fail
          refine (CC.out w3 HB3.out).mono ?_
          rintro e w4 ⟨v4, rfl, hg4, hb4⟩
          have hb04 := HB3.out.trans (hb4.mono HB3.out.size)
          have HB4 := Lib.hid hb04
          have HG4 := Lib.hid hg4.gs
          clear hb4 hb04 hg4
          go_wp2
          go_ret2
          exact ⟨⟨_, by rw [HEE.out]; rfl, fun h => absurd HEE.out h, fun _ => ⟨HG4.out, fun x hx => (HYG.out.2 x hx).below HB4.out⟩⟩, HB4.out⟩
      · obtain ⟨Y, hY, hYg⟩ := Gs.from layX elNet HH.out.1 (n - k.toNat) (by have := HN.out; omega)
        have hsl : ∀ V : World, (Instr.sliceAt 91 (.slice a n c) (some (.int .i64 ((n : Int) - k))) none none).run Try.prog V = .ok Y V := by
          rw [show (n : Int) - k = ((n - k.toNat : Nat) : Int) by omega]; exact hY
        have HYG : Hid (Nets w Y (pruL l k)) := by
          have : pruL l k = l.drop (n - k.toNat) := by unfold pruL; congr 1; have := HN.out; omega
          rw [this]
          exact ⟨hYg, fun x hx => HH.out.2 x (List.mem_of_mem_drop hx)⟩
        have CC := Lib.hid (fun (V : World) (hV : Below w.heap.size w V) => vClone_any _ _ V ((HYG.out.below hV).1) (by unfold pruL; rw [List.length_drop]; have := HL.out; have := HN.out; omega))
        have hk2' : k ≤ (n : Int) := by omega
        have e5 : ¬ (n : Int) - k < 0 := by omega
        clear hk2
        clear hY hYg
        go_wp2_with fail
        refine (CC.out w3 HB3.out).mono ?_
        rintro e w4 ⟨v4, rfl, hg4, hb4⟩
        have hb04 := HB3.out.trans (hb4.mono HB3.out.size)
        have HB4 := Lib.hid hb04
        have HG4 := Lib.hid hg4.gs
        clear hb4 hb04 hg4
        go_wp2
        go_ret2
        exact ⟨⟨_, by rw [HEE.out]; rfl, fun h => absurd HEE.out h, fun _ => ⟨HG4.out, fun x hx => (HYG.out.2 x hx).below HB4.out⟩⟩, HB4.out⟩

end Go.Proofs.Ytbonapdainlpjaa
