/- The walk of the statement SamplePuts. -/
import Derived.Test.YticpmkdlnjnfgaaSamp4
namespace Go.Proofs.Yticpmkdlnjnfgaa
open Go.RowKit Go.Sort

theorem sputs_ex : sputs szero [⟨1, 2, 3⟩] = [1, 4, 6] := by
  simp only [sputs, sput1, szero, vturn]
  rw [vput_small (by decide), vput_small (by decide), vput_small (by decide)]
  rfl
theorem sright_ex : SRight [⟨1, 2, 3⟩] := by
  intro i s hi
  match i, hi with
  | 0, hi => simp at hi; subst hi; exact ⟨by unfold SMay; decide, fun h => by omega⟩
  | i + 1, hi => simp at hi

set_option maxRecDepth 100000 in
theorem awake5 (w : World) : Calls Try.prog 13 #[] w fun e w' => e = .returned (.bool true) ∧ Below w.heap.size w w' := by
  have hl := Lib.hid (sput_any _ [⟨1, 2, 3⟩] _ (ss_lit w 32 #[.int .i64 1, .int .i64 2, .int .i64 3] [⟨1, 2, 3⟩] 1 rfl (by simp [maxLen]) rfl))
  go_enter Try.func13, Try.ntmps13
  go_wp2_with fail
  refine hl.out.mono ?_
  rintro e w1 h
  unfold SPutPost at h
  rw [if_neg (by simp)] at h
  rcases h with ⟨-, v, rfl, ho, hb⟩ | ⟨h, -⟩
  · rw [sputs_ex] at ho
    obtain ⟨a, ca, adr, hv2, h1, h2, h3, h4, h5⟩ := Bs.open_n elB ho.bs 3 rfl
    subst hv2
    have c0 : w1.cell? (adr 0) = some (.int .u8 1) := h5 0 1 rfl
    have c1 : w1.cell? (adr 1) = some (.int .u8 4) := h5 1 4 rfl
    have c2 : w1.cell? (adr 2) = some (.int .u8 6) := h5 2 6 rfl
    clear h4 h5 ho
    go_wp2
    go_ret
    exact ⟨rfl, ((Below.refl _ _).alloc (Nat.le_refl _) _).trans (hb.mono (by simp))⟩
  · exact absurd sright_ex h

/-- the two answers are one -/
theorem sput_cases {l : List Smp} {w : World} {e : Ending} {w' : World} (h : SPutPost l w e w') : ∃ v f b, e = .returned (.tuple #[v, .int .i64 f]) ∧ Bs w' v b ∧ b = (if 2048 < l.length then [] else if f = 0 then sputs szero l else []) ∧ (2048 < l.length → f = 3) ∧ (¬ 2048 < l.length → (SRight l ∧ f = 0) ∨ (¬ SRight l ∧ f = 2)) ∧ Below w.heap.size w w' := by
  unfold SPutPost at h
  split at h
  · next hb => exact ⟨_, 3, [], h.1, Rd.nil _ _, by rw [if_pos hb], fun _ => rfl, fun h => absurd hb h, h.2⟩
  · next hb =>
    rcases h with ⟨hr, v, rfl, ho, hb2⟩ | ⟨hr, rfl, hb2⟩
    · exact ⟨v, 0, _, rfl, ho.bs, by rw [if_neg hb, if_pos rfl], fun h => absurd h hb, fun _ => .inl ⟨hr, rfl⟩, hb2⟩
    · exact ⟨_, 2, [], rfl, Rd.nil _ _, by rw [if_neg hb, if_neg (by decide)], fun h => absurd h hb, fun _ => .inr ⟨hr, rfl⟩, hb2⟩

set_option maxRecDepth 100000 in
set_option maxHeartbeats 1600000 in
theorem samplePuts_walk (va : Value) (l : List Smp) (w : World) (ha : Ss w va l) :
    Calls Try.prog 3 #[va] w fun e w' => e = .returned (.bool true) ∧ Below w.heap.size w w' := by
  obtain ⟨n, hn⟩ : ∃ n, l.length = n := ⟨_, rfl⟩
  obtain ⟨a, ca, hv⟩ := ha.shape
  rw [hn] at hv
  subst hv
  have HN := Lib.hid hn
  clear hn
  by_cases hl : n ≤ 2100
  · have dl : decide ((2100 : Int) < n) = false := by simp; omega
    go_enter Try.func3, Try.ntmps3
    go_wp2_with fail
    refine (awake5 _).mono ?_
    rintro e w1 ⟨rfl, hb1⟩
    go_wp2_with fail
    refine (sput_any _ l _ (ha.below hb1)).mono ?_
    rintro e w2 h2
    obtain ⟨v2, f2, b2, rfl, hv2, hbb2, hx2, hy2, hb2⟩ := sput_cases h2
    have hw2 := hb1.trans (hb2.mono hb1.size)
    go_wp2_with fail
    refine (rsput_any _ l _ (ha.below hw2)).mono ?_
    rintro e w3 h3
    obtain ⟨v3, f3, b3, rfl, hv3, hbb3, hx3, hy3, hb3⟩ := sput_cases h3
    have hw3 := hw2.trans (hb3.mono hw2.size)
    have hff : f2 = f3 := by
      by_cases hbig : 2048 < l.length
      · rw [hx2 hbig, hx3 hbig]
      · rcases hy2 hbig with ⟨h, rfl⟩ | ⟨h, rfl⟩ <;> rcases hy3 hbig with ⟨h', rfl⟩ | ⟨h', rfl⟩ <;> first | rfl | exact absurd h h' | exact absurd h' h
    subst hff
    have hbe : b2 = b3 := by rw [hbb2, hbb3]
    subst hbe
    have hv2' := hv2.below hb3
    clear hbb2 hbb3 hx2 hx3 hy2 hy3 h2 h3
    go_wp2_with fail
    refine (same_any _ _ _ _ _ hv2' hv3).mono ?_
    rintro e w4 ⟨rfl, hb4⟩
    rw [beq_self_true]
    have hw4 := hw3.trans (hb4.mono hw3.size)
    obtain ⟨l2, M, hM, hY⟩ : ∃ (l2 : List Smp) (M : Int), (((n : Int) ≤ 20 ∧ M = n) ∨ ((20 : Int) < n ∧ M = 20)) ∧ ∃ Y, (∀ W : World, (Instr.sliceAt 22 (.slice a n ca) none (some (.int .i64 M)) none).run Try.prog W = .ok Y W) ∧ Ss w4 Y l2 := by
      rcases (show n ≤ 20 ∨ 20 < n by omega) with h | h
      · exact ⟨_, _, .inl ⟨by omega, rfl⟩, Ss.upto elS (ha.below hw4) n (by rw [HN.out]; omega)⟩
      · exact ⟨_, _, .inr ⟨by omega, rfl⟩, Ss.upto elS (ha.below hw4) 20 (by rw [HN.out]; omega)⟩
    obtain ⟨Y, hY, hYs⟩ := hY
    obtain ⟨n2, hn2⟩ : ∃ n, l2.length = n := ⟨_, rfl⟩
    obtain ⟨a5, c5, b5, o5, rfl, ha1, ha2, ha3, ha4, ha5⟩ := Ss.open_n elS hYs n2 hn2
    have HN2 := Lib.hid hn2
    have g4 := hw4.size
    clear hn2 hYs ha hv2' hv2 hv3
    rcases hM with ⟨hM1, rfl⟩ | ⟨hM1, rfl⟩
    all_goals
      go_wp2
      go_loopw [39] (fun i wr => ∃ k : Nat, k ≤ n2 ∧ i = .int .i64 k ∧ Below w4.heap.size w4 wr) (fun i _ => n2 - (intOf i).toNat)
      case atStart => exact ⟨0, by omega, rfl, Below.refl _ _⟩
      case round =>
        obtain ⟨k, hk, rfl, hw⟩ := hrel
        by_cases hlt : k < n2
        · obtain ⟨s, hs⟩ : ∃ s, l2[k]? = some s := ⟨_, List.getElem?_eq_getElem (by have := HN2.out; omega)⟩
          obtain ⟨p0, p1, p2⟩ := ha5 k s hs
          have hbb := ha4 k hlt
          rw [← hw.cell (by exact hbb)] at p0 p1 p2
          clear ha5 ha4 hs
          have e1 : (k : Int) < n2 := by omega
          have q0 : (wr.alloc (.cells #[.int .i64 s.t, .int .i64 s.x, .int .i64 s.y] 32)).cell? ⟨wr.heap.size, 0, none⟩ = some (.int .i64 s.t) := cell_of_row _ _ 0 _ _ _ (heap_alloc_new wr _)
          have q1 : (wr.alloc (.cells #[.int .i64 s.t, .int .i64 s.x, .int .i64 s.y] 32)).cell? ⟨wr.heap.size, 1, none⟩ = some (.int .i64 s.x) := cell_of_row _ _ 1 _ _ _ (heap_alloc_new wr _)
          have q2 : (wr.alloc (.cells #[.int .i64 s.t, .int .i64 s.x, .int .i64 s.y] 32)).cell? ⟨wr.heap.size, 2, none⟩ = some (.int .i64 s.y) := cell_of_row _ _ 2 _ _ _ (heap_alloc_new wr _)
          have r0 := fun d os => cell_regrown q0 d os
          have r1 := fun d os => cell_regrown q1 d os
          have r2 := fun d os => cell_regrown q2 d os
          have hbl : Below wr.heap.size wr (wr.alloc (.cells #[.int .i64 s.t, .int .i64 s.x, .int .i64 s.y] 32)) := (Below.refl _ _).alloc (Nat.le_refl _) _
          have gr := hw.size
          obtain ⟨b, hb⟩ : ∃ b, mayB s = b := ⟨_, rfl⟩
          have HB := Lib.hid hb
          clear hb
          go_wp2
          obtain ⟨wa, hwa⟩ : ∃ x, wr.alloc (.cells #[.int .i64 s.t, .int .i64 s.x, .int .i64 s.y] 32) = x := ⟨_, rfl⟩
          have ga : wr.heap.size ≤ wa.heap.size := by rw [← hwa]; simp
          rw [hwa] at r0 r1 r2 hbl ⊢
          clear q0 q1 q2 hwa
          refine wp_region_quiet_below (by kernel_rfl) (by kernel_rfl) ?_
          repeat (go_big_quiet_step ((first | (go_at_call 17; exact Calls.regrown_of (smay_is s b HB.out _)) | (go_at_call 18; exact Calls.regrown_of (rmay_is s b HB.out _)))))
          refine wpQuiet_nil ?_
          intro _ hw'
          obtain ⟨⟨dq, osq⟩, hw''⟩ := hw'
          subst hw''
          have hb6 := below_regrown wa dq osq
          obtain ⟨w6, hwq⟩ : ∃ x, x = grow (redrawn wa dq) osq := ⟨_, rfl⟩
          rw [← hwq] at hb6 ⊢
          clear hwq
          cases b
          all_goals
            go_wp2
            go_roundw
            case rel => exact ⟨k + 1, by omega, by go_num, (hw.trans (hbl.mono gr)).trans (hb6.mono (by omega))⟩
            case measure => simp [intOf]; omega
        · go_wp2
          go_ret
          exact ⟨rfl, hw4.trans (hw.mono g4)⟩
  · have dl : decide ((2100 : Int) < n) = true := by simp; omega
    go_enter Try.func3, Try.ntmps3
    go_wp2_with fail
    refine (awake5 _).mono ?_
    rintro e w1 ⟨rfl, hb1⟩
    go_wp2
    go_ret
    exact ⟨rfl, hb1⟩

end Go.Proofs.Yticpmkdlnjnfgaa
