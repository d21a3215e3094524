/- Layer 34 (block): Power, Fuse, New, Read. -/
import Derived.Test.YtbonapdainlpjaaBk1
set_option linter.unusedSimpArgs false
namespace Go.Proofs.Ytbonapdainlpjaa
open Go.RowKit Go.Sort

theorem ne_tag {w : World} {g h t u : Nat} {A C : Array Value} (hg : w.heap[g]? = some (.cells A t (0, 0))) (hh : w.heap[h]? = some (.cells C u (0, 0))) (hne : t ≠ u) : g ≠ h := by
  rintro rfl
  rw [hg] at hh
  simp at hh
  exact hne hh.2

theorem FuAt.only {F : Nat → Prop} {w w' : World} {B : Nat} {fo : Option Nat} {fu : Option (Int × Int)} (h : FuAt w B fo fu) (ho : Only F w w') (hd : ∀ k, fo = some k → ¬ F k) : FuAt w' B fo fu := by
  rcases h with h | ⟨k, a, b, h1, h2, h3, h4, h5, h6, h7, h8⟩
  · exact .inl h
  · exact .inr ⟨k, a, b, h1, h2, h3, h4, h5, h6, h7, by rw [ho.block k (heap_lt h8) (hd k h1)]; exact h8⟩
theorem StAt.only {F : Nat → Prop} {w w' : World} {B g gb : Nat} {fo : Option Nat} {s : BSt} (h : StAt w B g gb fo s) (ho : Only F w w') (hd : ∀ k, stF g gb fo k → ¬ F k) : StAt w' B g gb fo s :=
  ⟨h.low, h.lowb, h.n1, h.n2, by rw [ho.block g (heap_lt h.row) (hd g (.inl rfl))]; exact h.row, by rw [ho.block gb (heap_lt h.blk) (hd gb (.inr (.inl rfl)))]; exact h.blk,
    h.fus.only ho fun k hk => hd k (.inr (.inr hk))⟩
theorem StAt.below {w w' : World} {B g gb : Nat} {fo : Option Nat} {s : BSt} (h : StAt w B g gb fo s) (hb : Below w.heap.size w w') : StAt w' B g gb fo s :=
  h.only (F := fun _ => False) (.of_below hb) fun _ _ h => h
theorem StAt.foot {w : World} {B g gb : Nat} {fo : Option Nat} {s : BSt} (h : StAt w B g gb fo s) : ∀ k, stF g gb fo k → B ≤ k ∧ k < w.heap.size := by
  rintro k (rfl | rfl | hk)
  · exact ⟨h.low, heap_lt h.row⟩
  · exact ⟨h.lowb, heap_lt h.blk⟩
  · rcases h.fus with ⟨h1, _⟩ | ⟨k', a, b, h1, h2, h3, h4, h5, h6, h7, h8⟩
    · rw [h1] at hk; cases hk
    · rw [h1] at hk
      cases hk
      exact ⟨h3, heap_lt h8⟩
/-- the store's row is set anew -/
theorem StAt.upd {w W : World} {B g gb : Nat} {fo fo' : Option Nat} {s : BSt} (h : StAt w B g gb fo s) {off : Bool} {fu : Option (Int × Int)} {cnt : Int} (ho : Only (fun k => k = g) w W)
    (hr : W.heap[g]? = some (.cells #[.slice (some ⟨gb, 0, none⟩) s.n s.n, .bool off, fptr fo', .int .i64 cnt] 121 (0, 0))) (hf : FuAt W B fo' fu) : StAt W B g gb fo' ⟨s.n, s.f, off, fu, cnt⟩ :=
  ⟨h.low, h.lowb, h.n1, h.n2, hr, by rw [ho.block gb (heap_lt h.blk) (fun e => ne_tag h.blk h.row (by decide) e)]; exact h.blk, hf⟩

/-- what a method leaves -/
def StPost (w : World) (B g gb : Nat) (fo : Option Nat) (s' : BSt) (w' : World) : Prop :=
  ∃ fo', StAt w' B g gb fo' s' ∧ Only (stF g gb fo) w w' ∧ ∀ k, fo' = some k → fo = some k ∨ w.heap.size ≤ k

def bpow (s : BSt) : BSt := if s.off then ⟨s.n, s.f, false, none, s.cnt⟩ else s

theorem bPower_any (g gb : Nat) (fo : Option Nat) (s : BSt) (B : Nat) (w : World) (h : StAt w B g gb fo s) :
    Calls Try.prog 35 #[.pointer (some ⟨g, 0, none⟩)] w fun e w' => e = .returned (.tuple #[]) ∧ StPost w B g gb fo (bpow s) w' := by
  have c1 : w.cell? ⟨g, 1, none⟩ = some (.bool s.off) := by rw [cell_of_row w g 1 _ _ _ h.row]; rfl
  have c2 : w.cell? ⟨g, 2, none⟩ = some (fptr fo) := by rw [cell_of_row w g 2 _ _ _ h.row]; rfl
  have f1 := row_free h.row 1
  have f2 := row_free h.row 2
  unfold bpow
  have H := Lib.hid h
  obtain ⟨b, hb⟩ : ∃ b, s.off = b := ⟨_, rfl⟩
  have fin : b = true → StPost w B g gb fo ⟨s.n, s.f, false, none, s.cnt⟩ ((w.setCell ⟨g, 1, none⟩ (.bool false)).setCell ⟨g, 2, none⟩ (.pointer none)) := fun _ =>
    have o1 : Only (fun k => k = g) w ((w.setCell ⟨g, 1, none⟩ (.bool false)).setCell ⟨g, 2, none⟩ (.pointer none)) := (set_only w g 1 _).trans (set_only _ g 2 _)
    ⟨none, h.upd o1 (row_setCell (row_setCell h.row 1 _) 2 _) (.inl ⟨rfl, rfl⟩), o1.mono fun k _ hk => .inl hk, by simp⟩
  rw [hb] at c1 ⊢
  have FIN := Lib.hid fin
  clear h hb fin
  go_enter Try.func35, Try.ntmps35
  cases b with
  | true =>
    go_wp2
    go_end0
    exact ⟨rfl, FIN.out (by simp)⟩
  | false =>
    go_wp2
    go_end0
    exact ⟨rfl, fo, H.out, .refl _ _, fun k hk => .inl hk⟩

def bset (s : BSt) (a b : Int) : BSt := if 0 ≤ a ∧ 0 ≤ b then ⟨s.n, s.f, s.off, some (a, b), s.cnt⟩ else s
def bsetE (a b : Int) : Int := if 0 ≤ a ∧ 0 ≤ b then 0 else 2

theorem bFuse_any (g gb : Nat) (fo : Option Nat) (s : BSt) (x y : Int) (hx : x ≤ 9223372036854775807) (hy : y ≤ 9223372036854775807) (B : Nat) (w : World) (h : StAt w B g gb fo s) (hB : B ≤ w.heap.size) :
    Calls Try.prog 33 #[.pointer (some ⟨g, 0, none⟩), .int .i64 x, .int .i64 y] w fun e w' => e = .returned (.int .i64 (bsetE x y)) ∧ StPost w B g gb fo (bset s x y) w' := by
  have c0 : w.cell? ⟨g, 0, none⟩ = some (.slice (some ⟨gb, 0, none⟩) s.n s.n) := by rw [cell_of_row w g 0 _ _ _ h.row]; rfl
  have c2 : w.cell? ⟨g, 2, none⟩ = some (fptr fo) := by rw [cell_of_row w g 2 _ _ _ h.row]; rfl
  have f2 := row_free h.row 2
  have n1 := h.n1
  have hg := heap_lt h.row
  unfold bset bsetE
  have H := Lib.hid h
  obtain ⟨n, hn⟩ : ∃ n, s.n = n := ⟨_, rfl⟩
  have fin : 0 ≤ x → 0 ≤ y → StPost w B g gb fo ⟨s.n, s.f, s.off, some (x, y), s.cnt⟩ ((w.alloc (.cells #[.int .i64 x, .int .i64 y] 126)).setCell ⟨g, 2, none⟩ (.pointer (some ⟨w.heap.size, 0, none⟩))) := fun h1 h2 => by
    have ha := h.below ((Below.refl w.heap.size w).alloc (Nat.le_refl _) (.cells #[.int .i64 x, .int .i64 y] 126))
    have o1 := set_only (w.alloc (.cells #[.int .i64 x, .int .i64 y] 126)) g 2 (.pointer (some ⟨w.heap.size, 0, none⟩))
    refine ⟨some w.heap.size, ha.upd o1 (row_setCell ha.row 2 _) (.inr ⟨w.heap.size, x, y, rfl, rfl, hB, h1, hx, h2, hy, ?_⟩), ((Only.alloc _ w _).trans (o1.mono fun k _ hk => .inl hk)), ?_⟩
    · rw [o1.block _ (by simp) (by show ¬ w.heap.size = g; omega)]
      exact heap_alloc_new _ _
    · intro k hk
      cases hk
      exact .inr (Nat.le_refl _)
  rw [hn] at c0 n1
  rw [World.setCell_alloc_past _ _ _ _ hg] at fin
  have FIN := Lib.hid fin
  have e0 : ((n : Int) == 0) = false := by simp; omega
  clear h hn fin
  go_enter Try.func33, Try.ntmps33
  by_cases h1 : x < 0
  · rw [if_neg (by omega), if_neg (by omega)]
    go_wp2
    go_ret
    exact ⟨rfl, fo, H.out, .refl _ _, fun k hk => .inl hk⟩
  · by_cases h2 : y < 0
    · rw [if_neg (by omega), if_neg (by omega)]
      go_wp2
      go_ret
      exact ⟨rfl, fo, H.out, .refl _ _, fun k hk => .inl hk⟩
    · rw [if_pos (by omega), if_pos (by omega)]
      go_wp2
      go_ret
      exact ⟨rfl, FIN.out (by omega) (by omega)⟩

end Go.Proofs.Ytbonapdainlpjaa
