/- Samples that are read: the walk of the reference's Same, May. -/
import Derived.Test.YtbonapdainlpjaaVarint
import Derived.Test.YtbonapdainlpjaaBase
import Derived.Deep.RegionHeld3
import Derived.Lib.QuietBelow
namespace Go.Proofs.Ytbonapdainlpjaa
open Go.RowKit Go.Sort

theorem info_smp : (Try.prog.info? 30).map (fun i => (i.zero, i.size, i.bytes)) = some (some (.agg #[.int .i64 0, .int .i64 0, .int .i64 0]), 3, 24) := by kernel_rfl
theorem elS : ElTy Try.prog 22 30 (.agg #[.int .i64 0, .int .i64 0, .int .i64 0]) 3 24 := ⟨Try.underlying22, info_parts info_smp, rfl, by decide⟩

/-- one list, read twice: they are the same -/
theorem ssame_any (va vb : Value) (l : List Smp) (w : World) (ha : Ss w va l) (hb : Ss w vb l) :
    Calls Try.prog 21 #[va, vb] w fun e w' => e = .returned (.bool true) ∧ Below w.heap.size w w' := by
  obtain ⟨n, hn⟩ : ∃ n, l.length = n := ⟨_, rfl⟩
  obtain ⟨a, ca, b1, o1, rfl, ha1, ha2, ha3, ha4, ha5⟩ := Ss.open_n elS ha n hn
  obtain ⟨b, cb, b2, o2, rfl, hb1, hb2, hb3, hb4, hb5⟩ := Ss.open_n elS hb n hn
  clear ha hb
  have HN := Lib.hid hn
  clear hn
  go_enter Try.func21, Try.ntmps21
  go_wp2
  go_loopw [5] (fun i wr => ∃ k : Nat, k ≤ n ∧ i = .int .i64 k ∧ Below w.heap.size w wr) (fun i _ => n - (intOf i).toNat)
  case atStart => exact ⟨0, by omega, rfl, Below.refl _ _⟩
  case round =>
    obtain ⟨k, hk, rfl, hw⟩ := hrel
    by_cases hlt : k < n
    · obtain ⟨s, hs⟩ : ∃ s, l[k]? = some s := ⟨_, List.getElem?_eq_getElem (by have := HN.out; omega)⟩
      obtain ⟨p0, p1, p2⟩ := ha5 k s hs
      obtain ⟨q0, q1, q2⟩ := hb5 k s hs
      rw [← hw.cell (ha4 k hlt)] at p0
      rw [← hw.cell (by exact ha4 k hlt)] at p1
      rw [← hw.cell (by exact ha4 k hlt)] at p2
      rw [← hw.cell (hb4 k hlt)] at q0
      rw [← hw.cell (by exact hb4 k hlt)] at q1
      rw [← hw.cell (by exact hb4 k hlt)] at q2
      clear ha4 ha5 hb4 hb5 hs
      have e1 : (k : Int) < n := by omega
      go_wp2
      go_quiet (fail)
      go_wp2
      go_roundw
      case rel => exact ⟨k + 1, by omega, by go_num, below_drewN hw _⟩
      case measure => simp [intOf]; omega
    · go_wp2
      go_ret
      exact ⟨rfl, hw⟩


def mayB (s : Smp) : Bool := decide (0 ≤ s.t) && decide (s.t ≤ 1099511627776) && decide (0 ≤ s.x) && decide (s.x < 67108864) && decide (0 ≤ s.y) && decide (s.y < 67108864)
theorem mayB_iff (s : Smp) : mayB s = true ↔ SMay s := by
  unfold mayB SMay
  simp only [Bool.and_eq_true, decide_eq_true_eq]
  constructor
  · rintro ⟨⟨⟨⟨⟨h1, h2⟩, h3⟩, h4⟩, h5⟩, h6⟩; exact ⟨h1, h2, h3, h4, h5, h6⟩
  · rintro ⟨h1, h2, h3, h4, h5, h6⟩; exact ⟨⟨⟨⟨⟨h1, h2⟩, h3⟩, h4⟩, h5⟩, h6⟩

set_option maxHeartbeats 400000 in
theorem rmay_any (s : Smp) (w : World) : Calls Try.prog 85 #[.agg #[.int .i64 s.t, .int .i64 s.x, .int .i64 s.y]] w fun e w' => e = .returned (.bool (mayB s)) ∧ Below w.heap.size w w' := by
  obtain ⟨t, x, y⟩ := s
  go_enter Try.func85, Try.ntmps85
  go_wp2
  all_goals
    go_ret
    refine ⟨ret_bool ?_, (Below.refl _ _).alloc (Nat.le_refl _) _⟩
    rw [Bool.eq_iff_iff, mayB_iff]
    unfold SMay
    simp only [decide_eq_true_eq, Bool.false_eq_true, false_iff]
    omega

theorem rmay_is (s : Smp) (b : Bool) (h : mayB s = b) (w : World) : Calls Try.prog 85 #[.agg #[.int .i64 s.t, .int .i64 s.x, .int .i64 s.y]] w fun e w' => e = .returned (.bool b) ∧ Below w.heap.size w w' := by
  subst h
  exact rmay_any s w

end Go.Proofs.Ytbonapdainlpjaa
