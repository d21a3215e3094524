/- Smp0: Samp0, Smp0 as one text. -/
import Derived.Test.YtjnbdeopoohnmaaGreatDoorVarint
import Derived.Test.YtjnbdeopoohnmaaGreatDoorVBspec
import Derived.Test.YtjnbdeopoohnmaaGreatDoorBase
import Derived.Deep.RegionHeld3
import Derived.Lib.QuietBelow
/- The plain law of samples as bytes: no program stands here. -/
namespace Go.Proofs.YtjnbdeopoohnmaaGreatDoor

def szero : Smp := ⟨0, 0, 0⟩
/-- a sample's bytes behind another one -/
def sput1 (a s : Smp) : List UInt8 := vput (s.t - a.t).toNat ++ vput (vturn (s.x - a.x)).toNat ++ vput (vturn (s.y - a.y)).toNat
def sputs : Smp → List Smp → List UInt8
  | _, [] => []
  | a, s :: r => sput1 a s ++ sputs s r
def slast (a : Smp) (l : List Smp) : Smp := l.getLast?.getD a

theorem sputs_snoc (l : List Smp) (s : Smp) : ∀ a, sputs a (l ++ [s]) = sputs a l ++ sput1 (slast a l) s := by
  induction l with
  | nil => intro a; simp [sputs, slast]
  | cons x r ih =>
    intro a
    rw [List.cons_append, sputs, ih, sputs, List.append_assoc]
    congr 2
    unfold slast
    cases r <;> simp [List.getLast?_cons]

theorem slast_snoc (l : List Smp) (s a : Smp) : slast a (l ++ [s]) = s := by simp [slast]
theorem slast_nil (a : Smp) : slast a [] = a := rfl
theorem slast_take (l : List Smp) (k : Nat) (hk : 0 < k) (p : Smp) (h : l[k - 1]? = some p) (a : Smp) : slast a (l.take k) = p := by
  obtain ⟨j, rfl⟩ : ∃ j, k = j + 1 := ⟨k - 1, by omega⟩
  rw [List.take_add_one, show l[j]? = some p from h]
  exact slast_snoc _ _ _

theorem vput_len9 (n : Nat) (h : n < 9223372036854775808) : (vput n).length ≤ 9 := vput_len 8 n (by omega)
theorem sput1_len (a s : Smp) (ha : -9223372036854775808 ≤ s.t - a.t ∧ s.t - a.t ≤ 9223372036854775807) (hx : -9223372036854775808 ≤ s.x - a.x ∧ s.x - a.x ≤ 9223372036854775807) (hy : -9223372036854775808 ≤ s.y - a.y ∧ s.y - a.y ≤ 9223372036854775807) :
    (sput1 a s).length ≤ 30 := by
  have h1 := vput_len10 (s.t - a.t).toNat (by omega)
  have h2 := vput_len10 (vturn (s.x - a.x)).toNat (vturn_bound _ hx.1 hx.2)
  have h3 := vput_len10 (vturn (s.y - a.y)).toNat (vturn_bound _ hy.1 hy.2)
  simp only [sput1, List.length_append]
  omega

theorem sputs_len (l : List Smp) : ∀ a, (a = szero ∨ SMay a) → (∀ s ∈ l, SMay s) → (sputs a l).length ≤ l.length * 30 := by
  induction l with
  | nil => intro a _ _; simp [sputs]
  | cons s r ih =>
    intro a ha h
    have hs := h s (by simp)
    have h1 := sput1_len a s (by rcases ha with rfl | ha; (simp [szero]; unfold SMay at hs; omega); (unfold SMay at *; omega)) (by rcases ha with rfl | ha; (simp [szero]; unfold SMay at hs; omega); (unfold SMay at *; omega)) (by rcases ha with rfl | ha; (simp [szero]; unfold SMay at hs; omega); (unfold SMay at *; omega))
    have h2 := ih s (.inr hs) fun x hx => h x (by simp [hx])
    simp only [sputs, List.length_append, List.length_cons]
    omega

/-- the bytes of samples, or the error's number -/
theorem sright_take (l : List Smp) (k : Nat) (s : Smp) (hs : l[k]? = some s) (h : SRight (l.take k)) (hm : SMay s) (hlt : 0 < k → (slast szero (l.take k)).t < s.t) : SRight (l.take (k + 1)) := by
  intro i x hi
  rw [List.getElem?_take] at hi
  split at hi
  · by_cases hik : i = k
    · subst hik
      rw [hs] at hi
      cases hi
      refine ⟨hm, fun h0 p hp => ?_⟩
      rw [List.getElem?_take, if_pos (by omega)] at hp
      have := hlt h0
      rwa [slast_take l i h0 p hp] at this
    · have := h i x (by rw [List.getElem?_take, if_pos (by omega)]; exact hi)
      refine ⟨this.1, fun h0 p hp => this.2 h0 p ?_⟩
      rw [List.getElem?_take, if_pos (by omega)] at hp ⊢
      exact hp
  · cases hi

theorem sright_last (l : List Smp) (k : Nat) (h : SRight (l.take k)) : slast szero (l.take k) = szero ∨ SMay (slast szero (l.take k)) := by
  cases hg : (l.take k).getLast? with
  | none => left; simp [slast, hg]
  | some p =>
    right
    have he : slast szero (l.take k) = p := by simp [slast, hg]
    rw [he, List.getLast?_eq_getElem?] at *
    exact (h _ _ hg).1

theorem sright_no (l : List Smp) (k : Nat) (s : Smp) (hs : l[k]? = some s) (h : ¬ SMay s ∨ (0 < k ∧ s.t ≤ (slast szero (l.take k)).t)) : ¬ SRight l := by
  intro hR
  have h1 := hR k s hs
  rcases h with h | ⟨h0, hle⟩
  · exact h h1.1
  · have hk : k - 1 < l.length := by have := (List.getElem?_eq_some_iff.1 hs).1; omega
    have hp : l[k - 1]? = some l[k - 1] := List.getElem?_eq_getElem hk
    rw [slast_take l k h0 _ hp] at hle
    have := h1.2 h0 _ hp
    omega

end Go.Proofs.YtjnbdeopoohnmaaGreatDoor
/- Samples that are read: the walk of the reference's Same, May. -/
namespace Go.Proofs.YtjnbdeopoohnmaaGreatDoor
open Go.RowKit Go.Sort

theorem info_smp : (Tryz.prog.info? 55).map (fun i => (i.zero, i.size, i.bytes)) = some (some (.agg #[.int .i64 0, .int .i64 0, .int .i64 0]), 3, 24) := by kernel_rfl
theorem elS : ElTy Tryz.prog 26 55 (.agg #[.int .i64 0, .int .i64 0, .int .i64 0]) 3 24 := ⟨Tryz.underlying26, info_parts info_smp, rfl, by decide⟩

/-- one list, read twice: they are the same -/
theorem ssame_any (va vb : Value) (l : List Smp) (w : World) (ha : Ss w va l) (hb : Ss w vb l) :
    Calls Tryz.prog 20 #[va, vb] w fun e w' => e = .returned (.bool true) ∧ Below w.heap.size w w' := by
  obtain ⟨n, hn⟩ : ∃ n, l.length = n := ⟨_, rfl⟩
  obtain ⟨a, ca, b1, o1, rfl, ha1, ha2, ha3, ha4, ha5⟩ := Ss.open_n elS ha n hn
  obtain ⟨b, cb, b2, o2, rfl, hb1, hb2, hb3, hb4, hb5⟩ := Ss.open_n elS hb n hn
  clear ha hb
  have HN := Lib.hid hn
  clear hn
  go_enter Tryz.func20, Tryz.ntmps20
  go_wp2
  go_loopw [5] (fun i wr => ∃ k : Nat, k ≤ n ∧ i = .int .i64 k ∧ Below w.heap.size w wr) (fun i _ => n - (intOf i).toNat)
  case atStart => exact ⟨0, by omega, rfl, Below.refl _ _⟩
  case round =>
    obtain ⟨k, hk, rfl, hw⟩ := hrel
    by_cases hlt : k < n
    · obtain ⟨s, hs⟩ : ∃ s, l[k]? = some s := ⟨_, List.getElem?_eq_getElem (by have := HN.out; omega)⟩
      obtain ⟨p0, p1, p2⟩ := ha5 k s hs
      obtain ⟨q0, q1, q2⟩ := hb5 k s hs
      rw [← hw.cell (ha4 k hlt)] at p0
      rw [← hw.cell (by exact ha4 k hlt)] at p1
      rw [← hw.cell (by exact ha4 k hlt)] at p2
      rw [← hw.cell (hb4 k hlt)] at q0
      rw [← hw.cell (by exact hb4 k hlt)] at q1
      rw [← hw.cell (by exact hb4 k hlt)] at q2
      clear ha4 ha5 hb4 hb5 hs
      have e1 : (k : Int) < n := by omega
      go_wp2
      go_quiet (fail)
      go_wp2
      go_roundw
      case rel => exact ⟨k + 1, by omega, by go_num, below_drewN hw _⟩
      case measure => simp [intOf]; omega
    · go_wp2
      go_ret
      exact ⟨rfl, hw⟩


def mayB (s : Smp) : Bool := decide (0 ≤ s.t) && decide (s.t ≤ 1099511627776) && decide (0 ≤ s.x) && decide (s.x < 67108864) && decide (0 ≤ s.y) && decide (s.y < 67108864)
theorem mayB_iff (s : Smp) : mayB s = true ↔ SMay s := by
  unfold mayB SMay
  simp only [Bool.and_eq_true, decide_eq_true_eq]
  constructor
  · rintro ⟨⟨⟨⟨⟨h1, h2⟩, h3⟩, h4⟩, h5⟩, h6⟩; exact ⟨h1, h2, h3, h4, h5, h6⟩
  · rintro ⟨h1, h2, h3, h4, h5, h6⟩; exact ⟨⟨⟨⟨⟨h1, h2⟩, h3⟩, h4⟩, h5⟩, h6⟩

set_option maxHeartbeats 400000 in
theorem rmay_any (s : Smp) (w : World) : Calls Tryz.prog 72 #[.agg #[.int .i64 s.t, .int .i64 s.x, .int .i64 s.y]] w fun e w' => e = .returned (.bool (mayB s)) ∧ Below w.heap.size w w' := by
  obtain ⟨t, x, y⟩ := s
  go_enter Tryz.func72, Tryz.ntmps72
  go_wp2
  all_goals
    go_ret
    refine ⟨ret_bool ?_, (Below.refl _ _).alloc (Nat.le_refl _) _⟩
    rw [Bool.eq_iff_iff, mayB_iff]
    unfold SMay
    simp only [decide_eq_true_eq, Bool.false_eq_true, false_iff]
    omega

theorem rmay_is (s : Smp) (b : Bool) (h : mayB s = b) (w : World) : Calls Tryz.prog 72 #[.agg #[.int .i64 s.t, .int .i64 s.x, .int .i64 s.y]] w fun e w' => e = .returned (.bool b) ∧ Below w.heap.size w w' := by
  subst h
  exact rmay_any s w

end Go.Proofs.YtjnbdeopoohnmaaGreatDoor
