/- Walks of layer 6 (trace) on stretches. -/
import Derived.Test.YticpmkdlnjnfgaaTrace2
namespace Go.Proofs.Yticpmkdlnjnfgaa
open Go.RowKit Go.Sort

def sel (f t : Int) (s : Smp) : Bool := decide (f ≤ s.t) && decide (s.t ≤ t)

theorem between1_any (s : Smp) (p q : Addr) (f t : Int) (w : World) (hp : w.cell? p = some (.int .i64 f)) (hq : w.cell? q = some (.int .i64 t)) :
    Calls Try.prog 92 #[.agg #[.int .i64 s.t, .int .i64 s.x, .int .i64 s.y], .pointer (some p), .pointer (some q)] w fun e w' => e = .returned (.bool (sel f t s)) ∧ Below w.heap.size w w' := by
  have hp' : (w.alloc (.cells #[.int .i64 s.t, .int .i64 s.x, .int .i64 s.y] 32)).cell? p = some (.int .i64 f) := by
    rw [((Below.refl w.heap.size w).alloc (Nat.le_refl _) _).cell (block_lt_of_cell hp)]; exact hp
  have hq' : (w.alloc (.cells #[.int .i64 s.t, .int .i64 s.x, .int .i64 s.y] 32)).cell? q = some (.int .i64 t) := by
    rw [((Below.refl w.heap.size w).alloc (Nat.le_refl _) _).cell (block_lt_of_cell hq)]; exact hq
  clear hp hq
  go_enter Try.func92, Try.ntmps92
  go_wp2
  all_goals
    go_ret
    refine ⟨ret_bool ?_, (Below.refl _ _).alloc (Nat.le_refl _) _⟩
    unfold sel
    rw [Bool.eq_iff_iff]
    simp only [Bool.and_eq_true, decide_eq_true_eq, Bool.false_eq_true, false_iff]
    omega

theorem new_cells {w w' : World} {A : Array Value} {t : TypeId} (hb : Below (w.alloc (.cells A t)).heap.size (w.alloc (.cells A t)) w') (i : Nat) : w'.cell? ⟨w.heap.size, i, none⟩ = A[i]? := by
  rw [hb.cell (by simp), World.cell?_alloc_at _ _ _ _ rfl]

theorem between1_is (s : Smp) (p q : Addr) (f t : Int) (b : Bool) (hb : sel f t s = b) (w : World) (hp : w.cell? p = some (.int .i64 f)) (hq : w.cell? q = some (.int .i64 t)) :
    Calls Try.prog 92 #[.agg #[.int .i64 s.t, .int .i64 s.x, .int .i64 s.y], .pointer (some p), .pointer (some q)] w fun e w' => e = .returned (.bool b) ∧ Below w.heap.size w w' := by
  subst hb
  exact between1_any s p q f t w hp hq

set_option maxHeartbeats 800000 in
theorem pick_any (va : Value) (l : List Smp) (p q : Addr) (f t : Int) (w : World) (ha : Ss w va l) (hp : w.cell? p = some (.int .i64 f)) (hq : w.cell? q = some (.int .i64 t)) (hn1 : l.length ≤ 1048576) :
    Calls Try.prog 91 #[va, .func (.func 92) #[] #[.pointer (some p), .pointer (some q)]] w fun e w' => ∃ v, e = .returned v ∧ Os w' w.heap.size 32 v (l.filter (sel f t)) ∧ Below w.heap.size w w' := by
  obtain ⟨n, hn⟩ : ∃ n, l.length = n := ⟨_, rfl⟩
  obtain ⟨a, ca, b1, o1, rfl, ha1, ha2, ha3, ha4, ha5⟩ := Ss.open_n elS ha n hn
  clear ha
  have HN := Lib.hid hn
  rw [hn] at hn1
  clear hn
  have hpl := block_lt_of_cell hp
  have hql := block_lt_of_cell hq
  have HP := Lib.hid hp
  have HQ := Lib.hid hq
  clear hp hq
  go_enter Try.func91, Try.ntmps91
  go_wp2
  go_loopw [5, 10] (fun v i wr => ∃ k : Nat, k ≤ n ∧ i = .int .i64 k ∧ Os wr w.heap.size 32 v ((l.take k).filter (sel f t)) ∧ Below w.heap.size w wr) (fun _ i _ => n - (intOf i).toNat)
  case atStart => exact ⟨0, by omega, rfl, Os.nil _ _ _, Below.refl _ _⟩
  case round =>
    obtain ⟨k, hk, rfl, ho, hw⟩ := hrel
    have hsz := hw.size
    by_cases hlt : k < n
    · obtain ⟨s, hs⟩ : ∃ s, l[k]? = some s := ⟨_, List.getElem?_eq_getElem (by have := HN.out; omega)⟩
      obtain ⟨p0, p1, p2⟩ := ha5 k s hs
      rw [← hw.cell (by exact ha4 k hlt)] at p0 p1 p2
      have hlen : ((l.take k).filter (sel f t)).length ≤ 1048576 := by
        have h1 := List.length_filter_le (sel f t) (l.take k)
        rw [List.length_take] at h1
        have := HN.out
        omega
      have htake : l.take (k + 1) = l.take k ++ [s] := by rw [List.take_add_one, hs]; rfl
      have HT := Lib.hid htake
      clear hs ha5 ha4 htake
      have HW1 : Below wr.heap.size wr (wr.alloc (.cells #[.int .i64 s.t, .int .i64 s.x, .int .i64 s.y] 32)) := (Below.refl _ _).alloc (Nat.le_refl _) _
      have hwp := ((hw.trans (HW1.mono hsz)).cell hpl).trans HP.out
      have hwq := ((hw.trans (HW1.mono hsz)).cell hql).trans HQ.out
      have HWP := Lib.hid hwp
      have HWQ := Lib.hid hwq
      clear hwp hwq
      by_cases hse : sel f t s = true
      · go_wp2_with (first | (go_at_call 92; refine (between1_is s p q f t true hse _ HWP.out HWQ.out).mono ?_; rintro e w2 ⟨rfl, hb2⟩; have g0 : w2.cell? ⟨wr.heap.size, 0, none⟩ = some (.int .i64 s.t) := new_cells hb2 0; have g1 : w2.cell? ⟨wr.heap.size, 1, none⟩ = some (.int .i64 s.x) := new_cells hb2 1; have g2 : w2.cell? ⟨wr.heap.size, 2, none⟩ = some (.int .i64 s.y) := new_cells hb2 2; have ho2 := ho.below (HW1.trans (hb2.mono HW1.size)); have hs2 := hb2.size) | (at_builtin; go_must (refine wpList_append_smp ho2 s elS (by omega) (by omega) (by simp at hs2; omega) ?_ _ _ rfl rfl _ _ _ rfl rfl rfl rfl rfl); intro v3 w3 ho3 hg3 hb3; have HO3 := Lib.hid ho3; clear ho3))
        go_roundw
        case rel =>
          have hw2 := hw.trans ((HW1.trans (hb2.mono HW1.size)).mono hsz)
          refine ⟨k + 1, by omega, by go_num, ?_, hw2.trans hb3⟩
          rw [HT.out, List.filter_append]
          simp only [List.filter_cons, hse, if_true, List.filter_nil]
          exact HO3.out
        case measure => simp [intOf]; omega
      · have hse' : sel f t s = false := by simpa using hse
        go_wp2_with (go_at_call 92; refine (between1_is s p q f t false hse' _ HWP.out HWQ.out).mono ?_; rintro e w2 ⟨rfl, hb2⟩)
        go_roundw
        case rel =>
          refine ⟨k + 1, by omega, by go_num, ?_, hw.trans ((HW1.trans (hb2.mono HW1.size)).mono hsz)⟩
          rw [HT.out, List.filter_append]
          simp only [List.filter_cons, hse', Bool.false_eq_true, if_false, List.filter_nil, List.append_nil]
          exact ho.below (HW1.trans (hb2.mono HW1.size))
        case measure => simp [intOf]; omega
    · have htake : l.take k = l := List.take_of_length_le (by have := HN.out; omega)
      rw [htake] at ho
      clear htake
      go_wp2
      go_ret
      exact ⟨_, rfl, ho, hw⟩


theorem between_any (va : Value) (l : List Smp) (f t : Int) (w : World) (ha : Ss w va l) (hn1 : l.length ≤ 1048576) :
    Calls Try.prog 52 #[va, .int .i64 f, .int .i64 t] w fun e w' => ∃ v, e = .returned v ∧ Os w' w.heap.size 32 v (l.filter (sel f t)) ∧ Below w.heap.size w w' := by
  have hmf : ∀ (fn : Fn) (first cap : Array Value) (w : World), (Instr.makeFunc fn first cap).run Try.prog w = .ok (.func fn first cap) w := fun _ _ _ _ => rfl
  obtain ⟨f1, f2⟩ := cell_two w #[.int .i64 f] #[.int .i64 t] 3 3
  have hpk := Lib.hid (pick_any va l ⟨w.heap.size, 0, none⟩ ⟨w.heap.size + 1, 0, none⟩ f t _ ((ha.alloc (.cells #[.int .i64 f] 3)).alloc (.cells #[.int .i64 t] 3)) (f1 0) (f2 0) hn1)
  clear f1 f2
  go_enter Try.func52, Try.ntmps52
  go_wp2_with fail
  refine hpk.out.mono ?_
  rintro e w1 ⟨v, rfl, ho, hb⟩
  go_wp2
  go_ret
  refine ⟨_, rfl, ?_, (((Below.refl _ _).alloc (Nat.le_refl _) _).alloc (by simp) _).trans (hb.mono (by simp; omega))⟩
  rcases ho.2 with h2 | ⟨g, c, cur, h1, h2, r⟩
  · exact ⟨ho.1, .inl h2⟩
  · exact ⟨ho.1, .inr ⟨g, c, cur, h1, by simp at h2; omega, r⟩⟩

end Go.Proofs.Yticpmkdlnjnfgaa
