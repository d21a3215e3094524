/- Layer 35 (log): Append. -/
import Derived.Test.YtbonapdainlpjaaLg9
import Derived.Deep.RegionLaw
set_option linter.unusedSimpArgs false
namespace Go.Proofs.Ytbonapdainlpjaa
open Go.RowKit Go.Sort

theorem lAppend_nil (v : Value) (w : World) : Calls Try.prog 51 #[.pointer none, v] w fun e w' => e = .returned (.int .i64 1) ∧ w' = w := by
  go_enter Try.func51, Try.ntmps51
  go_wp2_with fail
  go_step3
  go_wp2_with (go_at_call 93; refine (lIs_nil w).mono ?_; rintro e w' ⟨rfl, rfl⟩)
  rw [Exit.noGoto_ret]
  go_ret
  exact ⟨rfl, rfl⟩
theorem lAppend_dead (w : World) (B lg bb bc g : Nat) (vr : Value) (ps : List Rc) (d : Lg) (v : Value) (h : LoAt w B lg bb bc g vr ps d) (hd : d.dead = true) :
    Calls Try.prog 51 #[.pointer (some ⟨lg, 0, none⟩), v] w fun e w' => e = .returned (.int .i64 50) ∧ w' = w := by
  have hcs := h.cells
  obtain ⟨c0, -, -, -, -, -, c6⟩ := hcs
  rw [hd] at c6
  have C := Lib.hid (lIs_any lg g w c0)
  clear h hd
  go_enter Try.func51, Try.ntmps51
  go_wp2_with fail
  go_step3
  go_wp2_with (go_at_call 93; refine C.out.mono ?_; rintro e w' ⟨rfl, rfl⟩)
  rw [Exit.noGoto_ret]
  go_ret
  exact ⟨rfl, rfl⟩
theorem lAppend_bad (w : World) (B lg bb bc g : Nat) (vr : Value) (ps : List Rc) (d : Lg) (v : Value) (r : List UInt8) (h : LoAt w B lg bb bc g vr ps d) (hd : d.dead = false) (hv : Bs w v r) (hr : ¬ lgood r) :
    Calls Try.prog 51 #[.pointer (some ⟨lg, 0, none⟩), v] w fun e w' => e = .returned (.int .i64 2) ∧ w' = w := by
  have hcs := h.cells
  obtain ⟨c0, -, -, -, -, -, c6⟩ := hcs
  rw [hd] at c6
  have C := Lib.hid (lIs_any lg g w c0)
  obtain ⟨a, c, rfl⟩ := hv.shape
  unfold lgood at hr
  clear h hd hv
  by_cases h1 : r.length < 1
  · have e1 : (r.length : Int) < 1 := by omega
    clear hr
    go_enter Try.func51, Try.ntmps51
    go_wp2_with fail
    go_step3
    go_wp2_with (go_at_call 93; refine C.out.mono ?_; rintro e w' ⟨rfl, rfl⟩)
    rw [Exit.noGoto_ret]
    go_ret
    exact ⟨rfl, rfl⟩
  · have e1 : ¬ (r.length : Int) < 1 := by omega
    have e2 : (262144 : Int) < r.length := by omega
    clear hr
    go_enter Try.func51, Try.ntmps51
    go_wp2_with fail
    go_step3
    go_wp2_with (go_at_call 93; refine C.out.mono ?_; rintro e w' ⟨rfl, rfl⟩)
    rw [Exit.noGoto_ret]
    go_ret
    exact ⟨rfl, rfl⟩

set_option maxRecDepth 100000 in
set_option maxHeartbeats 1600000 in
theorem lAppend_full (w : World) (B lg bb bc g : Nat) (vr : Value) (ps : List Rc) (d : Lg) (v : Value) (r : List UInt8) (h : LoAt w B lg bb bc g vr ps d) (hd : d.dead = false) (hv : Bs w v r) (hr : lgood r) (hf : d.n * 64 < d.fin + (lstands r).length) :
    Calls Try.prog 51 #[.pointer (some ⟨lg, 0, none⟩), v] w fun e w' => e = .returned (.int .i64 51) ∧ Below w.heap.size w w' := by
  have hcs := h.cells
  obtain ⟨c0, -, -, c3, c4, -, c6⟩ := hcs
  rw [hd] at c6
  have HH := Lib.hid h
  have C := Lib.hid (lIs_any lg g w c0)
  have CS := Lib.hid (stands_any v r w hv (by have := hr.2; omega))
  obtain ⟨a, c, rfl⟩ := hv.shape
  obtain ⟨h1, h2⟩ := hr
  have e1 : ¬ (r.length : Int) < 1 := by omega
  have e2 : ¬ (262144 : Int) < r.length := by omega
  have hfin := h.fin
  have hn2 := h.n2
  obtain ⟨N, hN⟩ : ∃ N, d.n * 64 = N := ⟨_, rfl⟩
  obtain ⟨q, hq⟩ : ∃ q, d.fin = q := ⟨_, rfl⟩
  obtain ⟨S, hS⟩ : ∃ S, (lstands r).length = S := ⟨_, rfl⟩
  rw [hN] at hf hfin
  rw [hq, hS] at hf
  rw [hq] at hfin
  have e3 : (N : Int) - (q : Int) < (S : Int) := by omega
  have HSL := Lib.hid hS
  have HN := Lib.hid hN
  have HQ := Lib.hid hq
  have hSb : S ≤ 1000000 := by rw [← hS, lstands_len]; have := vput_len10 r.length (by omega); omega
  have hNb : N ≤ 2097152 := by omega
  have hw : IntKind.i64.wrap ((N : Int) - (q : Int)) = (N : Int) - (q : Int) := IntWalk.i64_in _ (by omega)
  clear h hd hv hN hq hS hn2 c3 c4
  go_enter Try.func51, Try.ntmps51
  go_wp2_with fail
  go_step3
  go_wp2_with (first | (go_at_call 93; refine C.out.mono ?_; rintro e w' ⟨rfl, rfl⟩) | (go_at_call 97; refine CS.out.mono ?_; rintro e w1 ⟨v1, rfl, ho1, hb1⟩; obtain ⟨a1, c1', hs1⟩ := ho1.shape; rw [HSL.out] at hs1; subst hs1; have HB1 := Lib.hid hb1; clear ho1))
  have hc1 := (HH.out.below HB1.out).cells
  obtain ⟨-, -, -, c3, c4, -, -⟩ := hc1
  rw [HN.out] at c3
  rw [HQ.out] at c4
  have r3 := fun d os => cell_regrown c3 d os
  have r4 := fun d os => cell_regrown c4 d os
  clear c3 c4
  refine wp_region_quiet_below (by kernel_rfl) (by kernel_rfl) ?_
  repeat (go_big_quiet_step ((fail)))
  refine wpQuiet_nil ?_
  intro _ hw'
  obtain ⟨⟨dq, osq⟩, hw''⟩ := hw'
  subst hw''
  have HB2 := below_regrown w1 dq osq
  obtain ⟨W2, hwq⟩ : ∃ x, x = grow (redrawn w1 dq) osq := ⟨_, rfl⟩
  rw [← hwq] at HB2 ⊢
  clear hwq
  have HB2 := Lib.hid (HB1.out.trans (HB2.mono HB1.out.size))
  go_wp2
  rw [Exit.noGoto_ret]
  go_ret
  exact ⟨rfl, HB2.out⟩

end Go.Proofs.Ytbonapdainlpjaa
