/- Walks of the reference of layer 6 on lengths and gaps. -/
import Derived.Test.YtkgfcaoeldfbdaaTrace0
namespace Go.Proofs.Ytkgfcaoeldfbdaa
open Go.RowKit Go.Sort

set_option maxHeartbeats 800000 in
theorem rlength_any (va : Value) (l : List Smp) (w : World) (ha : Ss w va l) (hR : SRight l) (hn1 : l.length ≤ 1048576) :
    Calls Try.prog 35 #[va] w fun e w' => e = .returned (.int .i64 (slen 0 l)) ∧ Below w.heap.size w w' := by
  obtain ⟨n, hn⟩ : ∃ n, l.length = n := ⟨_, rfl⟩
  obtain ⟨a, ca, b1, o1, rfl, ha1, ha2, ha3, ha4, ha5⟩ := Ss.open_n elS ha n hn
  clear ha
  have HN := Lib.hid hn
  rw [hn] at hn1
  clear hn
  have HR := Lib.hid hR
  clear hR
  go_enter Try.func35, Try.ntmps35
  go_wp2
  go_loopw [3, 4] (fun c i wr => ∃ (k : Nat) (acc : Int), k ≤ n ∧ i = .int .i64 k ∧ c = .int .i64 acc ∧ 0 ≤ acc ∧ acc ≤ k * 67108864 ∧ Hid (slen acc (l.drop k) = slen 0 l) ∧ Below w.heap.size w wr) (fun _ i _ => n - (intOf i).toNat)
  case atStart => exact ⟨0, 0, by omega, rfl, rfl, by omega, by omega, rfl, Below.refl _ _⟩
  case round =>
    obtain ⟨k, acc, hk, rfl, rfl, h0, h1, hA, hw⟩ := hrel
    have hsz := hw.size
    by_cases hlt : k + 1 < n
    · obtain ⟨s, hs⟩ : ∃ s, l[k]? = some s := ⟨_, List.getElem?_eq_getElem (by have := HN.out; omega)⟩
      obtain ⟨s', hs'⟩ : ∃ s', l[k + 1]? = some s' := ⟨_, List.getElem?_eq_getElem (by have := HN.out; omega)⟩
      obtain ⟨p0, p1, p2⟩ := ha5 k s hs
      obtain ⟨q0, q1, q2⟩ := ha5 (k + 1) s' hs'
      rw [← hw.cell (by exact ha4 k (by omega))] at p1 p2 q1 q2
      have hm := (HR.out k s hs).1
      have hm' := (HR.out (k + 1) s' hs').1
      have hf := sfar_range s s' hm hm'
      have hstep := slen_step l k s s' acc hs hs'
      unfold SMay at hm hm'
      obtain ⟨m1, m2, m3, m4, m5, m6⟩ := hm
      obtain ⟨n1, n2, n3, n4, n5, n6⟩ := hm'
      have r1 := fun d os => cell_regrown p1 d os
      have r2 := fun d os => cell_regrown p2 d os
      have t1 := fun d os => cell_regrown q1 d os
      have t2 := fun d os => cell_regrown q2 d os
      have x0 := fun W => ha3 W (k : Int) (by omega) (by omega)
      have x1 := fun W => ha3 W ((k : Int) + 1) (by omega) (by omega)
      rw [show ((k : Int) + 1).toNat = k + 1 by omega] at x1
      have w1 : IntKind.i64.wrap ((k : Int) + 1) = (k : Int) + 1 := IntWalk.i64_in _ (by constructor <;> omega)
      have w2 : IntKind.i64.wrap (s'.x - s.x) = s'.x - s.x := IntWalk.i64_in _ (by constructor <;> omega)
      have w3 : IntKind.i64.wrap (s'.y - s.y) = s'.y - s.y := IntWalk.i64_in _ (by constructor <;> omega)
      have c1 : -9223372036854775807 ≤ s'.x - s.x ∧ s'.x - s.x ≤ 9223372036854775807 := by omega
      have c2 : -9223372036854775807 ≤ s'.y - s.y ∧ s'.y - s.y ≤ 9223372036854775807 := by omega
      have HS := Lib.hid hstep
      clear hs hs' ha3 ha4 ha5 hstep p0 q0
      go_wp2
      refine wp_region_quiet_below (by kernel_rfl) (by kernel_rfl) ?_
      repeat (go_big_quiet_step ((go_at_call 71; exact Calls.regrown_of (ramount_any _ c1.1 c1.2 _))))
      refine wpQuiet_nil ?_
      intro _ hw'
      obtain ⟨⟨dq, osq⟩, hw''⟩ := hw'
      subst hw''
      have hb4 := below_regrown wr dq osq
      obtain ⟨w4, hwq⟩ : ∃ x, x = grow (redrawn wr dq) osq := ⟨_, rfl⟩
      rw [← hwq] at hb4 ⊢
      clear hwq
      have r2' := fun d os => cell_regrown ((hb4.cell (block_lt_of_cell p2)).trans p2) d os
      have t2' := fun d os => cell_regrown ((hb4.cell (block_lt_of_cell q2)).trans q2) d os
      go_wp2
      refine wp_region_quiet_below (by kernel_rfl) (by kernel_rfl) ?_
      repeat (go_big_quiet_step ((go_at_call 71; exact Calls.regrown_of (ramount_any _ c2.1 c2.2 _))))
      refine wpQuiet_nil ?_
      intro _ hw'
      obtain ⟨⟨dq, osq⟩, hw''⟩ := hw'
      subst hw''
      have hb5 := below_regrown w4 dq osq
      obtain ⟨w5, hwq⟩ : ∃ x, x = grow (redrawn w4 dq) osq := ⟨_, rfl⟩
      rw [← hwq] at hb5 ⊢
      clear hwq
      have b1' := sabs_range (s'.x - s.x) (by omega)
      have b2' := sabs_range (s'.y - s.y) (by omega)
      have hfar : Hid (sfar s s' = max (sabs (s'.x - s.x)) (sabs (s'.y - s.y))) := rfl
      have hw5 := (hw.trans (hb4.mono hsz)).trans (hb5.mono (by have := hb4.size; omega))
      generalize sabs (s'.x - s.x) = dx at *
      generalize sabs (s'.y - s.y) = dy at *
      clear r1 r2 t1 t2 x0 x1 w1 w2 w3 r2' t2'
      go_wp2
      all_goals
        go_roundw
        case rel =>
          have e := hfar.out
          refine ⟨k + 1, acc + sfar s s', by omega, by go_num, ?_, by omega, by omega, HS.out.symm.trans hA.out, hw5⟩
          rw [e]
          congr 1
          omega
        case measure => simp [intOf]; omega
    · have hend := slen_end l k acc (by have := HN.out; omega)
      have HE := Lib.hid hend
      clear hend
      go_wp2
      go_ret
      exact ⟨ret_int (HE.out.symm.trans hA.out), hw⟩

set_option maxHeartbeats 800000 in
theorem rgap_any (va : Value) (l : List Smp) (w : World) (ha : Ss w va l) (hR : SRight l) (hn1 : l.length ≤ 1048576) :
    Calls Try.prog 37 #[va] w fun e w' => e = .returned (.int .i64 (sgap 0 l)) ∧ Below w.heap.size w w' := by
  obtain ⟨n, hn⟩ : ∃ n, l.length = n := ⟨_, rfl⟩
  obtain ⟨a, ca, b1, o1, rfl, ha1, ha2, ha3, ha4, ha5⟩ := Ss.open_n elS ha n hn
  clear ha
  have HN := Lib.hid hn
  rw [hn] at hn1
  clear hn
  have HR := Lib.hid hR
  clear hR
  go_enter Try.func37, Try.ntmps37
  go_wp2
  go_loopw [3, 4] (fun c i wr => ∃ (k : Nat) (acc : Int), k ≤ n ∧ i = .int .i64 k ∧ c = .int .i64 acc ∧ Hid (sgap acc (l.drop k) = sgap 0 l) ∧ Below w.heap.size w wr) (fun _ i _ => n - (intOf i).toNat)
  case atStart => exact ⟨0, 0, by omega, rfl, rfl, rfl, Below.refl _ _⟩
  case round =>
    obtain ⟨k, acc, hk, rfl, rfl, hA, hw⟩ := hrel
    have hsz := hw.size
    by_cases hlt : k + 1 < n
    · obtain ⟨s, hs⟩ : ∃ s, l[k]? = some s := ⟨_, List.getElem?_eq_getElem (by have := HN.out; omega)⟩
      obtain ⟨s', hs'⟩ : ∃ s', l[k + 1]? = some s' := ⟨_, List.getElem?_eq_getElem (by have := HN.out; omega)⟩
      obtain ⟨p0, p1, p2⟩ := ha5 k s hs
      obtain ⟨q0, q1, q2⟩ := ha5 (k + 1) s' hs'
      rw [← hw.cell (by exact ha4 k (by omega))] at p0 q0
      have hm := (HR.out k s hs).1
      have hm' := (HR.out (k + 1) s' hs').1
      have hstep := sgap_step l k s s' acc hs hs'
      unfold SMay at hm hm'
      obtain ⟨m1, m2, m3, m4, m5, m6⟩ := hm
      obtain ⟨n1, n2, n3, n4, n5, n6⟩ := hm'
      have x0 := fun W => ha3 W (k : Int) (by omega) (by omega)
      have x1 := fun W => ha3 W ((k : Int) + 1) (by omega) (by omega)
      rw [show ((k : Int) + 1).toNat = k + 1 by omega] at x1
      have w1 : IntKind.i64.wrap ((k : Int) + 1) = (k : Int) + 1 := IntWalk.i64_in _ (by constructor <;> omega)
      have w2 : IntKind.i64.wrap (s'.t - s.t) = s'.t - s.t := IntWalk.i64_in _ (by constructor <;> omega)
      have HS := Lib.hid hstep
      clear hs hs' ha3 ha4 ha5 hstep p1 q1 p2 q2
      by_cases hg : acc < s'.t - s.t
      · go_wp2
        go_quiet (fail)
        go_wp2
        go_quiet (fail)
        go_wp2
        go_roundw
        case rel =>
          refine ⟨k + 1, s'.t - s.t, by omega, by go_num, rfl, ?_, below_drewN hw _⟩
          have := HS.out.symm.trans hA.out
          rw [show max acc (s'.t - s.t) = s'.t - s.t by omega] at this
          exact this
        case measure => simp [intOf]; omega
      · go_wp2
        go_quiet (fail)
        go_wp2
        go_roundw
        case rel =>
          refine ⟨k + 1, acc, by omega, by go_num, rfl, ?_, below_drewN hw _⟩
          have := HS.out.symm.trans hA.out
          rw [show max acc (s'.t - s.t) = acc by omega] at this
          exact this
        case measure => simp [intOf]; omega
    · have hend := sgap_end l k acc (by have := HN.out; omega)
      have HE := Lib.hid hend
      clear hend
      go_wp2
      go_ret
      exact ⟨ret_int (HE.out.symm.trans hA.out), hw⟩

end Go.Proofs.Ytkgfcaoeldfbdaa
