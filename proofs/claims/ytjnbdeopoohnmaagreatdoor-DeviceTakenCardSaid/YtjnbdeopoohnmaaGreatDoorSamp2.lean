/- Walks of May and of the iterator of layer 5 (sample). -/
import Derived.Test.YtjnbdeopoohnmaaGreatDoorSmp0
import Derived.Test.YtjnbdeopoohnmaaGreatDoorBase
import Derived.RangeFuncNested
import Derived.RangeFuncBound
import Derived.RangeFuncCalls
import Derived.RangeFuncLeaves
import Derived.Shelf.Abstract
import Derived.Shelf.RegionOpen
import Derived.OwnWalkIn
import Derived.TacticsInMore
import Derived.LoopNIn
import Derived.LoopIn
namespace Go.Proofs.YtjnbdeopoohnmaaGreatDoor
open Go.RowKit Go.Shelf
attribute [local go_sem] Oper.semAt_some

def withinB (n m : Int) : Bool := decide (0 ≤ n) && decide (n ≤ m)

theorem swithin_any (n m : Int) (w : World) : Calls Tryz.prog 77 #[.int .i64 n, .int .i64 m] w fun e w' => e = .returned (.bool (withinB n m)) ∧ w = w' := by
  go_enter Tryz.func77, Tryz.ntmps77
  go_wp2
  all_goals
    go_ret
    refine ⟨ret_bool ?_, rfl⟩
    unfold withinB
    rw [Bool.eq_iff_iff]
    simp only [Bool.and_eq_true, decide_eq_true_eq, Bool.false_eq_true, false_iff]
    omega

theorem within_is (n m : Int) (b : Bool) (h : withinB n m = b) (w : World) : Calls Tryz.prog 77 #[.int .i64 n, .int .i64 m] w fun e w' => e = .returned (.bool b) ∧ w = w' := by
  subst h
  exact swithin_any n m w

theorem smay_any (s : Smp) (w : World) : Calls Tryz.prog 39 #[.agg #[.int .i64 s.t, .int .i64 s.x, .int .i64 s.y]] w fun e w' => e = .returned (.bool (mayB s)) ∧ Below w.heap.size w w' := by
  obtain ⟨t, x, y⟩ := s
  obtain ⟨b1, h1⟩ : ∃ b, withinB t 1099511627776 = b := ⟨_, rfl⟩
  obtain ⟨b2, h2⟩ : ∃ b, withinB x 67108863 = b := ⟨_, rfl⟩
  obtain ⟨b3, h3⟩ : ∃ b, withinB y 67108863 = b := ⟨_, rfl⟩
  have hm : mayB ⟨t, x, y⟩ = (b1 && b2 && b3) := by
    subst h1 h2 h3
    rw [Bool.eq_iff_iff, mayB_iff]
    unfold SMay withinB
    simp only [Bool.and_eq_true, decide_eq_true_eq]
    omega
  have HM := Lib.hid hm
  have H1 := Lib.hid h1
  have H2 := Lib.hid h2
  have H3 := Lib.hid h3
  clear hm h1 h2 h3
  cases b1
  · go_enter Tryz.func39, Tryz.ntmps39
    go_wp2_with fail
    refine (within_is _ _ _ H1.out _).mono ?_
    rintro e w1 ⟨rfl, rfl⟩
    go_wp2
    go_ret
    exact ⟨ret_bool (by rw [HM.out]; rfl), (Below.refl _ _).alloc (Nat.le_refl _) _⟩
  · cases b2
    · go_enter Tryz.func39, Tryz.ntmps39
      go_wp2_with fail
      refine (within_is _ _ _ H1.out _).mono ?_
      rintro e w1 ⟨rfl, rfl⟩
      go_wp2_with fail
      refine (within_is _ _ _ H2.out _).mono ?_
      rintro e w1 ⟨rfl, rfl⟩
      go_wp2
      go_ret
      exact ⟨ret_bool (by rw [HM.out]; rfl), (Below.refl _ _).alloc (Nat.le_refl _) _⟩
    · go_enter Tryz.func39, Tryz.ntmps39
      go_wp2_with fail
      refine (within_is _ _ _ H1.out _).mono ?_
      rintro e w1 ⟨rfl, rfl⟩
      go_wp2_with fail
      refine (within_is _ _ _ H2.out _).mono ?_
      rintro e w1 ⟨rfl, rfl⟩
      go_wp2_with fail
      refine (within_is _ _ _ H3.out _).mono ?_
      rintro e w1 ⟨rfl, rfl⟩
      go_wp2
      go_ret
      exact ⟨ret_bool (by rw [HM.out]; rfl), (Below.refl _ _).alloc (Nat.le_refl _) _⟩

theorem smay_is (s : Smp) (b : Bool) (h : mayB s = b) (w : World) : Calls Tryz.prog 39 #[.agg #[.int .i64 s.t, .int .i64 s.x, .int .i64 s.y]] w fun e w' => e = .returned (.bool b) ∧ Below w.heap.size w w' := by
  subst h
  exact smay_any s w

def Smp.agg (s : Smp) : Value := .agg #[.int .i64 s.t, .int .i64 s.x, .int .i64 s.y]

/-- steps: the slice is boxed; the function value captures the box -/
theorem steps_in (F : Fence) (n : Nat) (h5 : F.fn 98) (hro : F.round = none) (a : Option Addr) (len cap : Nat) (w : World) :
    CallsIn F n Tryz.prog 98 #[.slice a len cap] w fun e w' => e = .returned (.func (.func 116) #[] #[.pointer (some ⟨w.heap.size, 0, none⟩)]) ∧ w' = w.alloc (.cells #[.slice a len cap] 26) := by
  refine callsIn_of_wp Tryz.func98 rfl h5 ?_ hro
  simp only [Tryz.ntmps98, List.size_toArray, List.length_cons, List.length_nil, Nat.reduceAdd, Nat.reduceSub, Array.replicate_succ, Array.replicate_zero, List.push_toArray, List.append_toArray, List.nil_append, List.cons_append]
  gi_wp2
  go_ret
  exact ⟨rfl, rfl⟩

set_option maxRecDepth 100000 in
set_option maxHeartbeats 2000000 in
/-- the iterator: the sample ahead stands in a block A of its own; the caller's J abides stores into A and new blocks -/
theorem steps1_in (F : Fence) (n : Nat) (h7 : F.fn 116) (hro : F.round = none) (hn : 1 ≤ n) (lp Bx n₀ : Nat) (va : Value) (l : List Smp) (J Jx : Nat → Nat → World → Prop)
    (hJs : ∀ A k W i u, J A k W → J A k (W.setCell ⟨A, i, none⟩ u)) (hJa : ∀ A k W o, J A k W → J A k (W.alloc o))
    (hY : ∀ A k s W, l[k]? = some s → J A k W → n₀ ≤ A → YieldAt F (n - 1) Tryz.prog lp #[(slast szero (l.take k)).agg, s.agg] W fun e W' =>
      (e = .returned (.bool true) ∧ J A (k + 1) W' ∧ Below n₀ W W' ∧ ∀ (j : Nat) (cs : Array Value), W.heap[j]? = some (.cells cs 55 (0, 0)) → W'.heap[j]? = some (.cells cs 55 (0, 0))) ∨ (e = .returned (.bool false) ∧ Jx A k W'))
    (W : World) (hBx' : Bx < W.heap.size) (hn0 : n₀ ≤ W.heap.size) (hbox : W.cell? ⟨Bx, 0, none⟩ = some va) (hs : Ss W va l) (hsb : ∀ b, 0 < l.length → va.ownBlock = some b → b < n₀)
    (h0 : J W.heap.size 0 (W.alloc (.cells #[.int .i64 0, .int .i64 0, .int .i64 0] 55))) :
    CallsIn F n Tryz.prog 116 #[.func (.yield lp) #[] #[], .pointer (some ⟨Bx, 0, none⟩)] W fun e W' => (∃ v, e = .returned v) ∧ (J W.heap.size l.length W' ∨ ∃ k, Jx W.heap.size k W') := by
  obtain ⟨n1, hn1⟩ : ∃ n, l.length = n := ⟨_, rfl⟩
  obtain ⟨a, ca, b1, o1, rfl, ha1, ha2, ha3, ha4, ha5, ha6⟩ := Ss.open_b elS hs n1 hn1
  have hb1 : ∀ i, i < n1 → b1 < n₀ := fun i hi => hsb _ (by omega) (ha6 i hi)
  clear ha6 ha4
  rw [hn1]
  have HN := Lib.hid hn1
  clear hn1 hs
  refine callsIn_of_wp Tryz.func116 rfl h7 ?_ hro
  simp only [Tryz.ntmps116, List.size_toArray, List.length_cons, List.length_nil, Nat.reduceAdd, Nat.reduceSub, Array.replicate_succ, Array.replicate_zero, List.push_toArray, List.append_toArray, List.nil_append, List.cons_append]
  gi_wp2
  gi_loopw [8] (fun i wr => ∃ (k : Nat) (p : Smp), k ≤ n1 ∧ i = .int .i64 k ∧ Hid (p = slast szero (l.take k)) ∧ J W.heap.size k wr ∧ Below n₀ W wr ∧ Hid (wr.heap[W.heap.size]? = some (.cells #[.int .i64 p.t, .int .i64 p.x, .int .i64 p.y] 55 (0, 0)))) (fun i _ => n1 - (intOf i).toNat)
  case atStart => exact ⟨0, szero, by omega, rfl, rfl, h0, (Below.refl _ _).alloc hn0 _, heap_alloc_new W _⟩
  case round =>
    obtain ⟨k, p, hk, rfl, HP, hJ, hw, hblk⟩ := hrel
    have hsz := hw.size
    have hA : W.heap.size < wr.heap.size := (Array.getElem?_eq_some_iff.1 hblk.out).1
    have q0 : wr.cell? ⟨W.heap.size, 0, none⟩ = some (.int .i64 p.t) := cell_of_row wr _ 0 _ _ _ hblk.out
    have q1 : wr.cell? ⟨W.heap.size, 1, none⟩ = some (.int .i64 p.x) := cell_of_row wr _ 1 _ _ _ hblk.out
    have q2 : wr.cell? ⟨W.heap.size, 2, none⟩ = some (.int .i64 p.y) := cell_of_row wr _ 2 _ _ _ hblk.out
    by_cases hlt : k < n1
    · obtain ⟨s, hs⟩ : ∃ s, l[k]? = some s := ⟨_, List.getElem?_eq_getElem (by have := HN.out; omega)⟩
      obtain ⟨p0, p1, p2⟩ := ha5 k s hs
      have hbb := hb1 k hlt
      rw [← hw.cell (by exact hbb)] at p0 p1 p2
      have HS := Lib.hid hs
      clear hs ha5
      have e1 : (k : Int) < n1 := by omega
      have hy0 := hY W.heap.size k s (wr.alloc (.cells #[.int .i64 s.t, .int .i64 s.x, .int .i64 s.y] 55)) HS.out (hJa _ _ _ _ hJ) hn0
      rw [← HP.out] at hy0
      obtain ⟨fn, tmps, assign, body, hy, hR⟩ := hy0
      unfold Smp.agg at hy
      have HB := Lib.hid ((Below.heap_alloc wr (.cells #[.int .i64 s.t, .int .i64 s.x, .int .i64 s.y] 55) W.heap.size hA).trans hblk.out)
      have HB2 := Lib.hid (heap_alloc_new wr (.cells #[.int .i64 s.t, .int .i64 s.x, .int .i64 s.y] 55))
      have HW1 := Lib.hid (hw.alloc (by omega) (.cells #[.int .i64 s.t, .int .i64 s.x, .int .i64 s.y] 55))
      gi_wp2
      refine hR.mono ?_
      rintro e W3 (⟨rfl, hJ3, hk3, hkeep⟩ | ⟨rfl, hJx3⟩)
      · have B1 := hkeep _ _ HB.out
        have B2 := hkeep _ _ HB2.out
        have B1h := Lib.hid B1
        have B2h := Lib.hid B2
        have x0 : W3.cell? ⟨wr.heap.size, 0, none⟩ = some (.int .i64 s.t) := cell_of_row W3 _ 0 _ _ _ B2
        have x1 : W3.cell? ⟨wr.heap.size, 1, none⟩ = some (.int .i64 s.x) := cell_of_row W3 _ 1 _ _ _ B2
        have x2 : W3.cell? ⟨wr.heap.size, 2, none⟩ = some (.int .i64 s.y) := cell_of_row W3 _ 2 _ _ _ B2
        have y0 : W3.cell? ⟨W.heap.size, 0, none⟩ = some (.int .i64 p.t) := cell_of_row W3 _ 0 _ _ _ B1
        have y1 : W3.cell? ⟨W.heap.size, 1, none⟩ = some (.int .i64 p.x) := cell_of_row W3 _ 1 _ _ _ B1
        have y2 : W3.cell? ⟨W.heap.size, 2, none⟩ = some (.int .i64 p.y) := cell_of_row W3 _ 2 _ _ _ B1
        have z0 : W3.frozen? ⟨W.heap.size, 0, none⟩ = false := row_free B1 0
        have z1 : W3.frozen? ⟨W.heap.size, 1, none⟩ = false := row_free B1 1
        have z2 : W3.frozen? ⟨W.heap.size, 2, none⟩ = false := row_free B1 2
        clear B1 B2 p0 p1 p2 q0 q1 q2 hkeep
        gi_wp2
        go_roundw
        case rel =>
          refine ⟨k + 1, s, by omega, by go_num, ?_, hJs _ _ _ _ _ (hJs _ _ _ _ _ (hJs _ _ _ _ _ hJ3)), ?_, ?_⟩
          · show _ = _
            exact (slast_take l (k + 1) (by omega) s HS.out szero).symm
          · exact (((HW1.out.trans hk3).setCell hn0 _).setCell hn0 _).setCell hn0 _
          · have c1 := row_setCell B1h.out 0 (.int .i64 s.t)
            have c2 := row_setCell c1 1 (.int .i64 s.x)
            exact row_setCell c2 2 (.int .i64 s.y)
        case measure => simp [intOf]; omega
      · gi_wp2
        refine bodyPost_ret (results_none rfl _ _ _) rfl ?_
        exact ⟨⟨_, rfl⟩, .inr ⟨_, hJx3⟩⟩
    · obtain rfl : k = n1 := by omega
      gi_wp2
      go_end0
      exact ⟨⟨_, rfl⟩, .inl hJ⟩

end Go.Proofs.YtjnbdeopoohnmaaGreatDoor
