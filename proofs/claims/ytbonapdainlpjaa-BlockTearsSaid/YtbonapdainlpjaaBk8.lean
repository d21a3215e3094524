/- Layer 34 (block): the reference's store. -/
import Derived.Test.YtbonapdainlpjaaBk5
import Derived.Deep.DeepCutAuto
import Derived.Deep.RegionLaw
set_option linter.unusedSimpArgs false
namespace Go.Proofs.Ytbonapdainlpjaa
open Go.RowKit Go.Sort

def fuI : Option (Int × Int) → Int
  | some (a, _) => a
  | none => -1

structure RfAt (w : World) (B r rb : Nat) (p : Int) (s : BSt) : Prop where
  low : B ≤ r
  lowb : B ≤ rb
  n1 : 1 ≤ s.n
  n2 : s.n ≤ 32768
  row : w.heap[r]? = some (.cells #[.slice (some ⟨rb, 0, none⟩) (s.n * 64) (s.n * 64), .bool s.off, .int .i64 (fuI s.fu), .int .i64 p, .int .i64 s.cnt] 51 (0, 0))
  blk : w.heap[rb]? = some (.cells (rowb (s.n * 64) s.f) 5 (0, 0))
  fup : ∀ a b, s.fu = some (a, b) → p = b
  fur : ∀ a b, s.fu = some (a, b) → 0 ≤ a ∧ a ≤ 9223372036854775807 ∧ 0 ≤ b ∧ b ≤ 9223372036854775807

def rfF (r rb : Nat) (k : Nat) : Prop := k = r ∨ k = rb
def RfPost (w : World) (B r rb : Nat) (s' : BSt) (w' : World) : Prop := ∃ p', RfAt w' B r rb p' s' ∧ Only (rfF r rb) w w'

theorem RfAt.ne {w : World} {B r rb : Nat} {p : Int} {s : BSt} (h : RfAt w B r rb p s) : r ≠ rb := by
  intro e
  have h1 := h.row
  have h2 := h.blk
  rw [e, h2] at h1
  simp at h1
theorem RfAt.only {F : Nat → Prop} {w w' : World} {B r rb : Nat} {p : Int} {s : BSt} (h : RfAt w B r rb p s) (ho : Only F w w') (hd : ∀ k, rfF r rb k → ¬ F k) : RfAt w' B r rb p s :=
  ⟨h.low, h.lowb, h.n1, h.n2, by rw [ho.block r (heap_lt h.row) (hd r (.inl rfl))]; exact h.row, by rw [ho.block rb (heap_lt h.blk) (hd rb (.inr rfl))]; exact h.blk, h.fup, h.fur⟩
theorem RfAt.below {w w' : World} {B r rb : Nat} {p : Int} {s : BSt} (h : RfAt w B r rb p s) (hb : Below w.heap.size w w') : RfAt w' B r rb p s :=
  h.only (F := fun _ => False) (.of_below hb) fun _ _ h => h
theorem RfAt.foot {w : World} {B r rb : Nat} {p : Int} {s : BSt} (h : RfAt w B r rb p s) : ∀ k, rfF r rb k → B ≤ k ∧ k < w.heap.size := by
  rintro k (rfl | rfl)
  · exact ⟨h.low, heap_lt h.row⟩
  · exact ⟨h.lowb, heap_lt h.blk⟩
theorem RfPost.refl {w : World} {B r rb : Nat} {p : Int} {s : BSt} (h : RfAt w B r rb p s) : RfPost w B r rb s w := ⟨p, h, .refl _ _⟩

/-- the row is set anew -/
theorem RfAt.upd {w W : World} {B r rb : Nat} {p : Int} {s : BSt} (h : RfAt w B r rb p s) {off : Bool} {fu : Option (Int × Int)} {cnt p' : Int} (ho : Only (fun k => k = r) w W)
    (hr : W.heap[r]? = some (.cells #[.slice (some ⟨rb, 0, none⟩) (s.n * 64) (s.n * 64), .bool off, .int .i64 (fuI fu), .int .i64 p', .int .i64 cnt] 51 (0, 0)))
    (h1 : ∀ a b, fu = some (a, b) → p' = b) (h2 : ∀ a b, fu = some (a, b) → 0 ≤ a ∧ a ≤ 9223372036854775807 ∧ 0 ≤ b ∧ b ≤ 9223372036854775807) : RfAt W B r rb p' ⟨s.n, s.f, off, fu, cnt⟩ :=
  ⟨h.low, h.lowb, h.n1, h.n2, hr, by rw [ho.block rb (heap_lt h.blk) (fun e => h.ne e.symm)]; exact h.blk, h1, h2⟩

set_option maxRecDepth 100000 in
theorem rbNew_any (n : Nat) (h1 : 1 ≤ n) (h2 : n ≤ 32768) (w : World) : Calls Try.prog 26 #[.int .i64 (n : Int)] w fun e w' =>
    e = .returned (.pointer (some ⟨w.heap.size + 1, 0, none⟩)) ∧ Below w.heap.size w w' ∧ RfAt w' w.heap.size (w.heap.size + 1) w.heap.size 0 (bzero n) := by
  have hmk : ∀ W : World, (Instr.makeSlice 43 (.int .i64 (64 * (n : Int))) (.int .i64 (64 * (n : Int)))).run Try.prog W = .ok (.slice (some ⟨W.heap.size, 0, none⟩) (n * 64) (n * 64)) (W.alloc (.cells (rowb (n * 64) fun _ => 0) 5)) := by
    intro W
    obtain ⟨h1, ⟨i, hi, hz, hs, hb⟩, _⟩ := elB
    have hrun := run_make (P := Try.prog) W 43 5 i _ h1 hi hz .i64 .i64 ((n * 64 : Nat) : Int) ((n * 64 : Nat) : Int) (by omega) (by omega) (by rw [hb]; omega) (by omega)
    rw [hs] at hrun
    simp only [Int.toNat_natCast, madeCells_rowb] at hrun
    rw [show (64 * (n : Int)) = ((n * 64 : Nat) : Int) by omega]
    exact hrun
  have fin : Below w.heap.size w ((w.alloc (.cells (rowb (n * 64) fun _ => 0) 5)).alloc (.cells #[.slice (some ⟨w.heap.size, 0, none⟩) (n * 64) (n * 64), .bool false, .int .i64 (-1), .int .i64 0, .int .i64 0] 51)) ∧
      RfAt ((w.alloc (.cells (rowb (n * 64) fun _ => 0) 5)).alloc (.cells #[.slice (some ⟨w.heap.size, 0, none⟩) (n * 64) (n * 64), .bool false, .int .i64 (-1), .int .i64 0, .int .i64 0] 51)) w.heap.size (w.heap.size + 1) w.heap.size 0 (bzero n) := by
    refine ⟨bel_a (bel_a (Below.refl _ _) _) _, Nat.le_succ _, Nat.le_refl _, h1, h2, ?_, ?_, fun a b h => (by cases h), fun a b h => (by cases h)⟩
    · rw [alloc_get, if_pos (by simp)]; rfl
    · rw [alloc_get, if_neg (by simp)]; exact heap_alloc_new _ _
  have FIN := Lib.hid fin
  clear fin
  go_enter Try.func26, Try.ntmps26
  go_wp2
  go_ret
  exact ⟨rfl, FIN.out⟩

theorem rbMay_any (r rb : Nat) (p : Int) (s : BSt) (i : Int) (B : Nat) (w : World) (h : RfAt w B r rb p s) :
    Calls Try.prog 29 #[.pointer (some ⟨r, 0, none⟩), .int .i64 i] w fun e w' => e = .returned (.int .i64 (bmayE s i)) ∧ w' = w := by
  have c0 : w.cell? ⟨r, 0, none⟩ = some (.slice (some ⟨rb, 0, none⟩) (s.n * 64) (s.n * 64)) := by rw [cell_of_row w r 0 _ _ _ h.row]; rfl
  have c1 : w.cell? ⟨r, 1, none⟩ = some (.bool s.off) := by rw [cell_of_row w r 1 _ _ _ h.row]; rfl
  have n1 := h.n1
  have n2 := h.n2
  obtain ⟨n, hn⟩ : ∃ n, s.n = n := ⟨_, rfl⟩
  obtain ⟨b, hb⟩ : ∃ b, s.off = b := ⟨_, rfl⟩
  unfold bmayE
  rw [hn] at c0 n1 n2 ⊢
  rw [hb] at c1 ⊢
  obtain ⟨m, hm⟩ : ∃ m, n * 64 = m := ⟨_, rfl⟩
  have hq : (m : Int).tdiv 64 = n := by rw [Int.tdiv_eq_ediv_of_nonneg (by omega)]; omega
  rw [hm] at c0
  have hm2 : m ≤ 2097152 := by omega
  clear h hn hb hm
  go_enter Try.func29, Try.ntmps29
  cases b with
  | true =>
    go_wp2
    go_ret
    exact ⟨rfl, rfl⟩
  | false =>
    by_cases h1 : i < 0
    · go_wp2
      go_ret
      exact ⟨rfl, rfl⟩
    · by_cases h2 : i < n
      · have h3 : ¬ (n : Int) ≤ i := by omega
        go_wp2
        go_ret
        exact ⟨rfl, rfl⟩
      · have h3 : (n : Int) ≤ i := by omega
        go_wp2
        go_ret
        exact ⟨rfl, rfl⟩

theorem rbPower_any (r rb : Nat) (p : Int) (s : BSt) (B : Nat) (w : World) (h : RfAt w B r rb p s) :
    Calls Try.prog 36 #[.pointer (some ⟨r, 0, none⟩)] w fun e w' => e = .returned (.tuple #[]) ∧ RfPost w B r rb (bpow s) w' := by
  have c1 : w.cell? ⟨r, 1, none⟩ = some (.bool s.off) := by rw [cell_of_row w r 1 _ _ _ h.row]; rfl
  have c2 : w.cell? ⟨r, 2, none⟩ = some (.int .i64 (fuI s.fu)) := by rw [cell_of_row w r 2 _ _ _ h.row]; rfl
  have f1 := row_free h.row 1
  have f2 := row_free h.row 2
  unfold bpow
  have HP := Lib.hid (RfPost.refl h)
  obtain ⟨b, hb⟩ : ∃ b, s.off = b := ⟨_, rfl⟩
  have fin : RfPost w B r rb ⟨s.n, s.f, false, none, s.cnt⟩ ((w.setCell ⟨r, 1, none⟩ (.bool false)).setCell ⟨r, 2, none⟩ (.int .i64 (-1))) := by
    have o1 : Only (fun k => k = r) w ((w.setCell ⟨r, 1, none⟩ (.bool false)).setCell ⟨r, 2, none⟩ (.int .i64 (-1))) := (set_only w r 1 _).trans (set_only _ r 2 _)
    exact ⟨p, h.upd o1 (row_setCell (row_setCell h.row 1 _) 2 _) (fun a b h => by cases h) (fun a b h => by cases h), o1.mono fun k _ hk => .inl hk⟩
  rw [hb] at c1 ⊢
  have FIN := Lib.hid fin
  clear h hb fin
  go_enter Try.func36, Try.ntmps36
  cases b with
  | true =>
    go_wp2
    go_end0
    exact ⟨rfl, FIN.out⟩
  | false =>
    go_wp2
    go_end0
    exact ⟨rfl, HP.out⟩

theorem rbSet_any (r rb : Nat) (p : Int) (s : BSt) (x y : Int) (hx : x ≤ 9223372036854775807) (hy : y ≤ 9223372036854775807) (B : Nat) (w : World) (h : RfAt w B r rb p s) :
    Calls Try.prog 34 #[.pointer (some ⟨r, 0, none⟩), .int .i64 x, .int .i64 y] w fun e w' => e = .returned (.int .i64 (bsetE x y)) ∧ RfPost w B r rb (bset s x y) w' := by
  have c2 : w.cell? ⟨r, 2, none⟩ = some (.int .i64 (fuI s.fu)) := by rw [cell_of_row w r 2 _ _ _ h.row]; rfl
  have c3 : w.cell? ⟨r, 3, none⟩ = some (.int .i64 p) := by rw [cell_of_row w r 3 _ _ _ h.row]; rfl
  have f2 := row_free h.row 2
  have f3 := row_free h.row 3
  unfold bset bsetE
  have HP := Lib.hid (RfPost.refl h)
  have fin : 0 ≤ x → 0 ≤ y → RfPost w B r rb ⟨s.n, s.f, s.off, some (x, y), s.cnt⟩ ((w.setCell ⟨r, 2, none⟩ (.int .i64 x)).setCell ⟨r, 3, none⟩ (.int .i64 y)) := fun h1 h2 => by
    have o1 : Only (fun k => k = r) w ((w.setCell ⟨r, 2, none⟩ (.int .i64 x)).setCell ⟨r, 3, none⟩ (.int .i64 y)) := (set_only w r 2 _).trans (set_only _ r 3 _)
    exact ⟨y, h.upd o1 (row_setCell (row_setCell h.row 2 _) 3 _) (fun a b h => by cases h; rfl) (fun a b h => by cases h; exact ⟨h1, hx, h2, hy⟩), o1.mono fun k _ hk => .inl hk⟩
  have FIN := Lib.hid fin
  clear h fin
  go_enter Try.func34, Try.ntmps34
  by_cases h1 : x < 0
  · rw [if_neg (by omega), if_neg (by omega)]
    go_wp2
    go_ret
    exact ⟨rfl, HP.out⟩
  · by_cases h2 : y < 0
    · rw [if_neg (by omega), if_neg (by omega)]
      go_wp2
      go_ret
      exact ⟨rfl, HP.out⟩
    · rw [if_pos (by omega), if_pos (by omega)]
      go_wp2
      go_ret
      exact ⟨rfl, FIN.out (by omega) (by omega)⟩

end Go.Proofs.Ytbonapdainlpjaa
