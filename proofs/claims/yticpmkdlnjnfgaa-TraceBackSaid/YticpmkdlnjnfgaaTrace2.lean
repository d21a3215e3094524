/- Walks of layer 6 (trace) on lengths, gaps and stretches. -/
import Derived.Test.YticpmkdlnjnfgaaTrace0
namespace Go.Proofs.Yticpmkdlnjnfgaa
open Go.RowKit Go.Sort

theorem cell_two (w : World) (A B : Array Value) (t t' : TypeId) :
    (∀ i, ((w.alloc (.cells A t)).alloc (.cells B t')).cell? ⟨w.heap.size, i, none⟩ = A[i]?) ∧ (∀ i, ((w.alloc (.cells A t)).alloc (.cells B t')).cell? ⟨w.heap.size + 1, i, none⟩ = B[i]?) := by
  refine ⟨fun i => ?_, fun i => ?_⟩
  · rw [World.cell?_alloc_past _ _ _ (by simp), World.cell?_alloc_at _ _ _ _ rfl]
  · rw [World.cell?_alloc_at _ _ _ _ (by simp)]

set_option maxHeartbeats 800000 in
theorem length1_any (acc : Int) (s s' : Smp) (w : World) (hm : SMay s) (hm' : SMay s') (h0 : 0 ≤ acc) (h1 : acc ≤ 140737488355328) :
    Calls Try.prog 88 #[.int .i64 acc, .agg #[.int .i64 s.t, .int .i64 s.x, .int .i64 s.y], .agg #[.int .i64 s'.t, .int .i64 s'.x, .int .i64 s'.y]] w fun e w' => e = .returned (.int .i64 (acc + sfar s s')) ∧ Below w.heap.size w w' := by
  have hf := sfar_range s s' hm hm'
  unfold SMay at hm hm'
  obtain ⟨m1, m2, m3, m4, m5, m6⟩ := hm
  obtain ⟨n1, n2, n3, n4, n5, n6⟩ := hm'
  obtain ⟨f1, f2⟩ := cell_two w #[.int .i64 s.t, .int .i64 s.x, .int .i64 s.y] #[.int .i64 s'.t, .int .i64 s'.x, .int .i64 s'.y] 32 32
  have w2 : IntKind.i64.wrap (s'.x - s.x) = s'.x - s.x := IntWalk.i64_in _ (by constructor <;> omega)
  have w3 : IntKind.i64.wrap (s'.y - s.y) = s'.y - s.y := IntWalk.i64_in _ (by constructor <;> omega)
  have c1 : -9223372036854775807 ≤ s'.x - s.x ∧ s'.x - s.x ≤ 9223372036854775807 := by omega
  have c2 : -9223372036854775807 ≤ s'.y - s.y ∧ s'.y - s.y ≤ 9223372036854775807 := by omega
  have b1' := sabs_range (s'.x - s.x) (by omega)
  have b2' := sabs_range (s'.y - s.y) (by omega)
  have r1 := fun d os => cell_regrown (f1 1) d os
  have r2 := fun d os => cell_regrown (f1 2) d os
  have t1 := fun d os => cell_regrown (f2 1) d os
  have t2 := fun d os => cell_regrown (f2 2) d os
  have hfar : Hid (sfar s s' = max (sabs (s'.x - s.x)) (sabs (s'.y - s.y))) := rfl
  clear f1 f2
  go_enter Try.func88, Try.ntmps88
  go_wp2
  have hbW := ((Below.refl w.heap.size w).alloc (Nat.le_refl _) (.cells #[.int .i64 s.t, .int .i64 s.x, .int .i64 s.y] 32)).alloc (by simp) (.cells #[.int .i64 s'.t, .int .i64 s'.x, .int .i64 s'.y] 32)
  generalize hW : (w.alloc (.cells #[.int .i64 s.t, .int .i64 s.x, .int .i64 s.y] 32)).alloc (.cells #[.int .i64 s'.t, .int .i64 s'.x, .int .i64 s'.y] 32) = W at *
  clear hW
  refine wp_region_quiet_below (by kernel_rfl) (by kernel_rfl) ?_
  repeat (go_big_quiet_step (((first | (go_at_call_of 89 (s'.x - s.x); exact Calls.regrown_of (amount_any _ c1.1 c1.2 _)) | (go_at_call_of 89 (s'.y - s.y); exact Calls.regrown_of (amount_any _ c2.1 c2.2 _))))))
  refine wpQuiet_nil ?_
  intro _ hw'
  obtain ⟨⟨dq, osq⟩, hw''⟩ := hw'
  subst hw''
  have hb4 := below_regrown W dq osq
  obtain ⟨w4, hwq⟩ : ∃ x, x = grow (redrawn W dq) osq := ⟨_, rfl⟩
  rw [← hwq] at hb4 ⊢
  clear hwq
  go_wp2
  all_goals
    go_ret
    refine ⟨ret_int ?_, hbW.trans (hb4.mono hbW.size)⟩
    rw [hfar.out]
    omega

theorem gap1_any (acc : Int) (s s' : Smp) (w : World) (hm : SMay s) (hm' : SMay s') :
    Calls Try.prog 90 #[.int .i64 acc, .agg #[.int .i64 s.t, .int .i64 s.x, .int .i64 s.y], .agg #[.int .i64 s'.t, .int .i64 s'.x, .int .i64 s'.y]] w fun e w' => e = .returned (.int .i64 (max acc (s'.t - s.t))) ∧ Below w.heap.size w w' := by
  unfold SMay at hm hm'
  obtain ⟨m1, m2, m3, m4, m5, m6⟩ := hm
  obtain ⟨n1, n2, n3, n4, n5, n6⟩ := hm'
  go_enter Try.func90, Try.ntmps90
  go_wp2
  all_goals
    go_ret
    refine ⟨ret_int ?_, ((Below.refl _ _).alloc (Nat.le_refl _) _).alloc (by simp) _⟩
    omega

set_option maxHeartbeats 800000 in
theorem fold_len (va : Value) (l : List Smp) (w : World) (ha : Ss w va l) (hR : SRight l) (hn1 : l.length ≤ 1048576) :
    Calls Try.prog 87 #[va, .func (.func 88) #[] #[]] w fun e w' => e = .returned (.int .i64 (slen 0 l)) ∧ Below w.heap.size w w' := by
  obtain ⟨n, hn⟩ : ∃ n, l.length = n := ⟨_, rfl⟩
  obtain ⟨a, ca, b1, o1, rfl, ha1, ha2, ha3, ha4, ha5⟩ := Ss.open_n elS ha n hn
  clear ha
  have HN := Lib.hid hn
  rw [hn] at hn1
  clear hn
  have HR := Lib.hid hR
  clear hR
  go_enter Try.func87, Try.ntmps87
  go_wp2
  go_loopw [5, 6] (fun c i wr => ∃ (k : Nat) (acc : Int), k ≤ n ∧ i = .int .i64 ((k : Int) + 1) ∧ c = .int .i64 acc ∧ 0 ≤ acc ∧ acc ≤ k * 67108864 ∧ Hid (slen acc (l.drop k) = slen 0 l) ∧ Below w.heap.size w wr) (fun _ i _ => n + 1 - (intOf i).toNat)
  case atStart => exact ⟨0, 0, by omega, rfl, rfl, by omega, by omega, rfl, Below.refl _ _⟩
  case round =>
    obtain ⟨k, acc, hk, rfl, rfl, h0, h1, hA, hw⟩ := hrel
    have hsz := hw.size
    by_cases hlt : k + 1 < n
    · obtain ⟨s, hs⟩ : ∃ s, l[k]? = some s := ⟨_, List.getElem?_eq_getElem (by have := HN.out; omega)⟩
      obtain ⟨s', hs'⟩ : ∃ s', l[k + 1]? = some s' := ⟨_, List.getElem?_eq_getElem (by have := HN.out; omega)⟩
      obtain ⟨p0, p1, p2⟩ := ha5 k s hs
      obtain ⟨q0, q1, q2⟩ := ha5 (k + 1) s' hs'
      rw [← hw.cell (by exact ha4 k (by omega))] at p0 p1 p2 q0 q1 q2
      have hm := Lib.hid (HR.out k s hs).1
      have hm' := Lib.hid (HR.out (k + 1) s' hs').1
      have hf := sfar_range s s' hm.out hm'.out
      have hstep := slen_step l k s s' acc hs hs'
      have r0 := fun d os => cell_regrown p0 d os
      have r1 := fun d os => cell_regrown p1 d os
      have r2 := fun d os => cell_regrown p2 d os
      have t0 := fun d os => cell_regrown q0 d os
      have t1 := fun d os => cell_regrown q1 d os
      have t2 := fun d os => cell_regrown q2 d os
      have x0 := fun W => ha3 W (k : Int) (by omega) (by omega)
      have x1 := fun W => ha3 W ((k : Int) + 1) (by omega) (by omega)
      rw [show ((k : Int) + 1).toNat = k + 1 by omega] at x1
      have e1 : (k : Int) + 1 - 1 = k := by omega
      have w1 : IntKind.i64.wrap ((k : Int) + 1 - 1) = (k : Int) := by rw [e1]; exact IntWalk.i64_in _ (by constructor <;> omega)
      have HS := Lib.hid hstep
      clear hs hs' ha3 ha4 ha5 hstep e1
      go_wp2
      refine wp_region_quiet_below (by kernel_rfl) (by kernel_rfl) ?_
      repeat (go_big_quiet_step ((go_at_call 88; exact Calls.regrown_of (length1_any acc s s' _ hm.out hm'.out h0 (by omega)))))
      refine wpQuiet_nil ?_
      intro _ hw'
      obtain ⟨⟨dq, osq⟩, hw''⟩ := hw'
      subst hw''
      have hb4 := below_regrown wr dq osq
      obtain ⟨w4, hwq⟩ : ∃ x, x = grow (redrawn wr dq) osq := ⟨_, rfl⟩
      rw [← hwq] at hb4 ⊢
      clear hwq
      clear r0 r1 r2 t0 t1 t2 x0 x1 w1
      go_wp2
      go_roundw
      case rel =>
        exact ⟨k + 1, acc + sfar s s', by omega, by go_num, rfl, by omega, by omega, HS.out.symm.trans hA.out, hw.trans (hb4.mono hsz)⟩
      case measure => simp [intOf]; omega
    · have hend := slen_end l k acc (by have := HN.out; omega)
      have HE := Lib.hid hend
      clear hend
      go_wp2
      go_ret
      exact ⟨ret_int (HE.out.symm.trans hA.out), hw⟩

set_option maxHeartbeats 800000 in
theorem fold_gap (va : Value) (l : List Smp) (w : World) (ha : Ss w va l) (hR : SRight l) (hn1 : l.length ≤ 1048576) :
    Calls Try.prog 87 #[va, .func (.func 90) #[] #[]] w fun e w' => e = .returned (.int .i64 (sgap 0 l)) ∧ Below w.heap.size w w' := by
  obtain ⟨n, hn⟩ : ∃ n, l.length = n := ⟨_, rfl⟩
  obtain ⟨a, ca, b1, o1, rfl, ha1, ha2, ha3, ha4, ha5⟩ := Ss.open_n elS ha n hn
  clear ha
  have HN := Lib.hid hn
  rw [hn] at hn1
  clear hn
  have HR := Lib.hid hR
  clear hR
  go_enter Try.func87, Try.ntmps87
  go_wp2
  go_loopw [5, 6] (fun c i wr => ∃ (k : Nat) (acc : Int), k ≤ n ∧ i = .int .i64 ((k : Int) + 1) ∧ c = .int .i64 acc ∧ Hid (sgap acc (l.drop k) = sgap 0 l) ∧ Below w.heap.size w wr) (fun _ i _ => n + 1 - (intOf i).toNat)
  case atStart => exact ⟨0, 0, by omega, rfl, rfl, rfl, Below.refl _ _⟩
  case round =>
    obtain ⟨k, acc, hk, rfl, rfl, hA, hw⟩ := hrel
    have hsz := hw.size
    by_cases hlt : k + 1 < n
    · obtain ⟨s, hs⟩ : ∃ s, l[k]? = some s := ⟨_, List.getElem?_eq_getElem (by have := HN.out; omega)⟩
      obtain ⟨s', hs'⟩ : ∃ s', l[k + 1]? = some s' := ⟨_, List.getElem?_eq_getElem (by have := HN.out; omega)⟩
      obtain ⟨p0, p1, p2⟩ := ha5 k s hs
      obtain ⟨q0, q1, q2⟩ := ha5 (k + 1) s' hs'
      rw [← hw.cell (by exact ha4 k (by omega))] at p0 p1 p2 q0 q1 q2
      have hm := Lib.hid (HR.out k s hs).1
      have hm' := Lib.hid (HR.out (k + 1) s' hs').1
      have hstep := sgap_step l k s s' acc hs hs'
      have r0 := fun d os => cell_regrown p0 d os
      have r1 := fun d os => cell_regrown p1 d os
      have r2 := fun d os => cell_regrown p2 d os
      have t0 := fun d os => cell_regrown q0 d os
      have t1 := fun d os => cell_regrown q1 d os
      have t2 := fun d os => cell_regrown q2 d os
      have x0 := fun W => ha3 W (k : Int) (by omega) (by omega)
      have x1 := fun W => ha3 W ((k : Int) + 1) (by omega) (by omega)
      rw [show ((k : Int) + 1).toNat = k + 1 by omega] at x1
      have e1 : (k : Int) + 1 - 1 = k := by omega
      have w1 : IntKind.i64.wrap ((k : Int) + 1 - 1) = (k : Int) := by rw [e1]; exact IntWalk.i64_in _ (by constructor <;> omega)
      have HS := Lib.hid hstep
      clear hs hs' ha3 ha4 ha5 hstep e1
      go_wp2
      refine wp_region_quiet_below (by kernel_rfl) (by kernel_rfl) ?_
      repeat (go_big_quiet_step ((go_at_call 90; exact Calls.regrown_of (gap1_any acc s s' _ hm.out hm'.out))))
      refine wpQuiet_nil ?_
      intro _ hw'
      obtain ⟨⟨dq, osq⟩, hw''⟩ := hw'
      subst hw''
      have hb4 := below_regrown wr dq osq
      obtain ⟨w4, hwq⟩ : ∃ x, x = grow (redrawn wr dq) osq := ⟨_, rfl⟩
      rw [← hwq] at hb4 ⊢
      clear hwq
      clear r0 r1 r2 t0 t1 t2 x0 x1 w1
      go_wp2
      go_roundw
      case rel =>
        exact ⟨k + 1, max acc (s'.t - s.t), by omega, by go_num, rfl, HS.out.symm.trans hA.out, hw.trans (hb4.mono hsz)⟩
      case measure => simp [intOf]; omega
    · have hend := sgap_end l k acc (by have := HN.out; omega)
      have HE := Lib.hid hend
      clear hend
      go_wp2
      go_ret
      exact ⟨ret_int (HE.out.symm.trans hA.out), hw⟩

theorem length_any (va : Value) (l : List Smp) (w : World) (ha : Ss w va l) (hR : SRight l) (hn1 : l.length ≤ 1048576) :
    Calls Try.prog 50 #[va] w fun e w' => e = .returned (.int .i64 (slen 0 l)) ∧ Below w.heap.size w w' := by
  have hf := Lib.hid (fold_len va l w ha hR hn1)
  clear hR
  go_enter Try.func50, Try.ntmps50
  go_wp2_with fail
  refine hf.out.mono ?_
  rintro e w1 ⟨rfl, hb1⟩
  go_wp2
  go_ret
  exact ⟨rfl, hb1⟩

theorem gap_any (va : Value) (l : List Smp) (w : World) (ha : Ss w va l) (hR : SRight l) (hn1 : l.length ≤ 1048576) :
    Calls Try.prog 51 #[va] w fun e w' => e = .returned (.int .i64 (sgap 0 l)) ∧ Below w.heap.size w w' := by
  have hf := Lib.hid (fold_gap va l w ha hR hn1)
  clear hR
  go_enter Try.func51, Try.ntmps51
  go_wp2_with fail
  refine hf.out.mono ?_
  rintro e w1 ⟨rfl, hb1⟩
  go_wp2
  go_ret
  exact ⟨rfl, hb1⟩

end Go.Proofs.Yticpmkdlnjnfgaa
