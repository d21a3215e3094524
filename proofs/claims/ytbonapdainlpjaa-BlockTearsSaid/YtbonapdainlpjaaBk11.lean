/- Layer 34 (block): both stores side by side, and the operation in hand; the contracts of the calls at such a world. -/
import Derived.Test.YtbonapdainlpjaaBk10
set_option linter.unusedSimpArgs false
namespace Go.Proofs.Ytbonapdainlpjaa
open Go.RowKit Go.Sort

theorem Bs.own_lt {w : World} {v : Value} {l : List UInt8} (h : Bs w v l) (h0 : 0 < l.length) : ∀ k, v.ownBlock = some k → k < w.heap.size := by
  obtain ⟨_, a', c', rfl, _, _, _, h5⟩ := h
  intro k hk
  rcases h5 with h5 | ⟨b, off, rfl, hlt, hc⟩
  · omega
  · have h2 : b = k := by simpa [Value.ownBlock] using hk
    omega

structure Duo (w : World) (g gb r rb : Nat) (s t : BSt) (W : World) : Prop where
  st : ∃ fo, StAt W w.heap.size g gb fo s
  rf : ∃ p, RfAt W w.heap.size r rb p t
  bel : Below w.heap.size w W

theorem StAt.apart {W : World} {B C g gb r rb : Nat} {fo : Option Nat} {p : Int} {s t : BSt} (h : StAt W B g gb fo s) (k : RfAt W C r rb p t) : ∀ x, stF g gb fo x → ¬ rfF r rb x := by
  have hx : ∀ x T (A : Array Value), W.heap[x]? = some (.cells A T (0, 0)) → T ≠ 51 → T ≠ 5 → ¬ rfF r rb x := by
    intro x T A h1 h2 h3 h4
    rcases h4 with rfl | rfl
    · exact ne_tag h1 k.row h2 rfl
    · exact ne_tag h1 k.blk h3 rfl
  rintro x (rfl | rfl | hf)
  · exact hx _ _ _ h.row (by decide) (by decide)
  · exact hx _ _ _ h.blk (by decide) (by decide)
  · rcases h.fus with ⟨h1, _⟩ | ⟨y, a, b, h1, -, -, -, -, -, -, h8⟩
    · rw [h1] at hf; cases hf
    · rw [h1] at hf; cases hf; exact hx _ _ _ h8 (by decide) (by decide)

theorem Duo.below {w W W' : World} {g gb r rb : Nat} {s t : BSt} (h : Duo w g gb r rb s t W) (hb : Below W.heap.size W W') : Duo w g gb r rb s t W' := by
  obtain ⟨⟨fo, h1⟩, ⟨p, h2⟩, h3⟩ := h
  exact ⟨⟨fo, h1.below hb⟩, ⟨p, h2.below hb⟩, h3.trans (hb.mono h3.size)⟩
theorem Duo.stp {w W W' : World} {g gb r rb : Nat} {s t s' : BSt} {fo : Option Nat} (h : Duo w g gb r rb s t W) (h1 : StAt W w.heap.size g gb fo s) (hp : StPost W w.heap.size g gb fo s' W') : Duo w g gb r rb s' t W' := by
  obtain ⟨_, ⟨p, h2⟩, h3⟩ := h
  obtain ⟨fo', k1, k2, k3⟩ := hp
  exact ⟨⟨fo', k1⟩, ⟨p, h2.only k2 fun x hx hs => h1.apart h2 x hs hx⟩, h3.trans (k2.below (fun k hk => (h1.foot k hk).1) h3.size)⟩
theorem Duo.rfp {w W W' : World} {g gb r rb : Nat} {s t t' : BSt} {p : Int} (h : Duo w g gb r rb s t W) (h2 : RfAt W w.heap.size r rb p t) (hp : RfPost W w.heap.size r rb t' W') : Duo w g gb r rb s t' W' := by
  obtain ⟨⟨fo, h1⟩, _, h3⟩ := h
  obtain ⟨p', k1, k2⟩ := hp
  exact ⟨⟨fo, h1.only k2 fun x hx hs => h1.apart h2 x hx hs⟩, ⟨p', k1⟩, h3.trans (k2.below (fun k hk => (h2.foot k hk).1) h3.size)⟩

/-- the same, and the operation's own block -/
structure Mid (w : World) (g gb r rb q : Nat) (c i m : Int) (v : Value) (s t : BSt) (W : World) : Prop where
  duo : Duo w g gb r rb s t W
  row : W.heap[q]? = some (.cells #[.int .i64 c, .int .i64 i, .int .i64 m, v] 45 (0, 0))

section
variable {w W : World} {g gb r rb q : Nat} {c i m : Int} {v : Value} {s t : BSt}
theorem Mid.c0 (h : Mid w g gb r rb q c i m v s t W) : W.cell? ⟨q, 0, none⟩ = some (.int .i64 c) := by rw [cell_of_row W q 0 _ _ _ h.row]; rfl
theorem Mid.c1 (h : Mid w g gb r rb q c i m v s t W) : W.cell? ⟨q, 1, none⟩ = some (.int .i64 i) := by rw [cell_of_row W q 1 _ _ _ h.row]; rfl
theorem Mid.c2 (h : Mid w g gb r rb q c i m v s t W) : W.cell? ⟨q, 2, none⟩ = some (.int .i64 m) := by rw [cell_of_row W q 2 _ _ _ h.row]; rfl
theorem Mid.c3 (h : Mid w g gb r rb q c i m v s t W) : W.cell? ⟨q, 3, none⟩ = some v := by rw [cell_of_row W q 3 _ _ _ h.row]; rfl
theorem Mid.below {W' : World} (h : Mid w g gb r rb q c i m v s t W) (hb : Below W.heap.size W W') : Mid w g gb r rb q c i m v s t W' :=
  ⟨h.duo.below hb, by rw [hb.block q (heap_lt h.row)]; exact h.row⟩
theorem Mid.drew (h : Mid w g gb r rb q c i m v s t W) : Mid w g gb r rb q c i m v s t W.drew := h.below (Below.refl _ _).drew
theorem Mid.stq {fo : Option Nat} (h : Mid w g gb r rb q c i m v s t W) (k : StAt W w.heap.size g gb fo s) : ¬ stF g gb fo q := by
  rintro (rfl | rfl | hf)
  · exact ne_tag h.row k.row (by decide) rfl
  · exact ne_tag h.row k.blk (by decide) rfl
  · rcases k.fus with ⟨h1, _⟩ | ⟨y, a, b, h1, -, -, -, -, -, -, h8⟩
    · rw [h1] at hf; cases hf
    · rw [h1] at hf; cases hf; exact ne_tag h.row h8 (by decide) rfl
theorem Mid.rfq {p : Int} (h : Mid w g gb r rb q c i m v s t W) (k : RfAt W w.heap.size r rb p t) : ¬ rfF r rb q := by
  rintro (rfl | rfl)
  · exact ne_tag h.row k.row (by decide) rfl
  · exact ne_tag h.row k.blk (by decide) rfl
theorem Mid.stp {W' : World} {s' : BSt} {fo : Option Nat} (h : Mid w g gb r rb q c i m v s t W) (h1 : StAt W w.heap.size g gb fo s) (hp : StPost W w.heap.size g gb fo s' W') : Mid w g gb r rb q c i m v s' t W' :=
  ⟨h.duo.stp h1 hp, by obtain ⟨fo', k1, k2, k3⟩ := hp; rw [k2.block q (heap_lt h.row) (h.stq h1)]; exact h.row⟩
theorem Mid.rfp {W' : World} {t' : BSt} {p : Int} (h : Mid w g gb r rb q c i m v s t W) (h2 : RfAt W w.heap.size r rb p t) (hp : RfPost W w.heap.size r rb t' W') : Mid w g gb r rb q c i m v s t' W' :=
  ⟨h.duo.rfp h2 hp, by obtain ⟨p', k1, k2⟩ := hp; rw [k2.block q (heap_lt h.row) (h.rfq h2)]; exact h.row⟩

/-! the calls -/
theorem Mid.wr1 {l : List UInt8} (h : Mid w g gb r rb q c i m v s t W) (hl : Bs w v l) (hc0 : 0 ≤ s.cnt) (hc : s.cnt ≤ 4611686018427387904) :
    Calls Try.prog 31 #[.pointer (some ⟨g, 0, none⟩), .int .i64 i, v] W fun e w' => e = .returned (.int .i64 (bwrE s i l)) ∧ Hid (Mid w g gb r rb q c i m v (bwrS s i l) t w') := by
  obtain ⟨fo, h1⟩ := h.duo.st
  have hl' := hl.below h.duo.bel
  have key : Calls Try.prog 31 #[.pointer (some ⟨g, 0, none⟩), .int .i64 i, v] W (WritePost W w.heap.size g gb fo s i l) := by
    by_cases h64 : l.length = 64
    · exact bWrite_any g gb fo s i v l _ W h1 hl' (fun k hk hs => by have := hl.own_lt (by omega) k hk; have := (h1.foot k hs).1; omega) hc0 hc
    · exact bWrite_no g gb fo s i v l _ W h1 hl' (.inr h64)
  refine key.mono ?_
  rintro e w' ⟨h2, h3⟩
  exact ⟨h2, h.stp h1 h3⟩
theorem Mid.wr2 {l : List UInt8} (h : Mid w g gb r rb q c i m v s t W) (hl : Bs w v l) (hc0 : 0 ≤ t.cnt) (hc : t.cnt ≤ 4611686018427387904) :
    Calls Try.prog 32 #[.pointer (some ⟨r, 0, none⟩), .int .i64 i, v] W fun e w' => e = .returned (.int .i64 (bwrE t i l)) ∧ Hid (Mid w g gb r rb q c i m v s (bwrS t i l) w') := by
  obtain ⟨p, h1⟩ := h.duo.rf
  have hl' := hl.below h.duo.bel
  have key : Calls Try.prog 32 #[.pointer (some ⟨r, 0, none⟩), .int .i64 i, v] W (RWritePost W w.heap.size r rb t i l) := by
    by_cases h64 : l.length = 64
    · exact rbWrite_any r rb p t i v l _ W h1 hl' (fun k hk hs => by have := hl.own_lt (by omega) k hk; have := (h1.foot k hs).1; omega) hc0 hc
    · exact rbWrite_no r rb p t i v l _ W h1 hl' (.inr h64)
  refine key.mono ?_
  rintro e w' ⟨h2, h3⟩
  exact ⟨h2, h.rfp h1 h3⟩
theorem Mid.set1 (h : Mid w g gb r rb q c i m v s t W) (hi : i ≤ 9223372036854775807) (hm : m ≤ 9223372036854775807) :
    Calls Try.prog 33 #[.pointer (some ⟨g, 0, none⟩), .int .i64 i, .int .i64 m] W fun e w' => e = .returned (.int .i64 (bsetE i m)) ∧ Hid (Mid w g gb r rb q c i m v (bset s i m) t w') := by
  obtain ⟨fo, h1⟩ := h.duo.st
  refine (bFuse_any g gb fo s i m hi hm _ W h1 h.duo.bel.size).mono ?_
  rintro e w' ⟨h2, h3⟩
  exact ⟨h2, h.stp h1 h3⟩
theorem Mid.set2 (h : Mid w g gb r rb q c i m v s t W) (hi : i ≤ 9223372036854775807) (hm : m ≤ 9223372036854775807) :
    Calls Try.prog 34 #[.pointer (some ⟨r, 0, none⟩), .int .i64 i, .int .i64 m] W fun e w' => e = .returned (.int .i64 (bsetE i m)) ∧ Hid (Mid w g gb r rb q c i m v s (bset t i m) w') := by
  obtain ⟨p, h1⟩ := h.duo.rf
  refine (rbSet_any r rb p t i m hi hm _ W h1).mono ?_
  rintro e w' ⟨h2, h3⟩
  exact ⟨h2, h.rfp h1 h3⟩
theorem Mid.pw1 (h : Mid w g gb r rb q c i m v s t W) :
    Calls Try.prog 35 #[.pointer (some ⟨g, 0, none⟩)] W fun e w' => e = .returned (.tuple #[]) ∧ Hid (Mid w g gb r rb q c i m v (bpow s) t w') := by
  obtain ⟨fo, h1⟩ := h.duo.st
  refine (bPower_any g gb fo s _ W h1).mono ?_
  rintro e w' ⟨h2, h3⟩
  exact ⟨h2, h.stp h1 h3⟩
theorem Mid.pw2 (h : Mid w g gb r rb q c i m v s t W) :
    Calls Try.prog 36 #[.pointer (some ⟨r, 0, none⟩)] W fun e w' => e = .returned (.tuple #[]) ∧ Hid (Mid w g gb r rb q c i m v s (bpow t) w') := by
  obtain ⟨p, h1⟩ := h.duo.rf
  refine (rbPower_any r rb p t _ W h1).mono ?_
  rintro e w' ⟨h2, h3⟩
  exact ⟨h2, h.rfp h1 h3⟩
theorem Mid.read (h : Mid w g gb r rb q c i m v s t W) :
    Calls Try.prog 28 #[.pointer (some ⟨g, 0, none⟩), .int .i64 i] W fun e w' => ∃ v', e = .returned (.tuple #[v', .int .i64 (bmayE s i)]) ∧ Bs w' v' (bread s i) ∧ Hid (Mid w g gb r rb q c i m v s t w') := by
  obtain ⟨fo, h1⟩ := h.duo.st
  refine (bRead_any g gb fo s i _ W h1).mono ?_
  rintro e w' ⟨v', h2, h3, h4⟩
  exact ⟨v', h2, h3.bs, h.below h4⟩
theorem Mid.may (h : Mid w g gb r rb q c i m v s t W) :
    Calls Try.prog 29 #[.pointer (some ⟨r, 0, none⟩), .int .i64 i] W fun e w' => e = .returned (.int .i64 (bmayE t i)) ∧ w' = W := by
  obtain ⟨p, h1⟩ := h.duo.rf
  exact rbMay_any r rb p t i _ W h1
end

theorem piece_rows (f : Nat → UInt8) (N lo : Nat) (h : lo + 64 ≤ N) : (((List.range N).map f).drop lo).take 64 = (List.range 64).map fun j => f (lo + j) := by
  apply List.ext_getElem?
  intro j
  rw [List.getElem?_take]
  by_cases hj : j < 64
  · rw [if_pos hj, List.getElem?_drop, List.getElem?_map, List.getElem?_map, List.getElem?_range (by omega), List.getElem?_range hj]
    rfl
  · rw [if_neg hj, List.getElem?_eq_none (by simp; omega)]

theorem rb_piece {W : World} {B r rb : Nat} {p : Int} {s : BSt} (h : RfAt W B r rb p s) (i : Nat) (hi : i < s.n) :
    ∃ Y, (∀ W' : World, (Instr.sliceAt 43 (.slice (some ⟨rb, 0, none⟩) (s.n * 64) (s.n * 64)) (some (.int .i64 (64 * (i : Int)))) (some (.int .i64 (64 * (i : Int) + 64))) none).run Try.prog W' = .ok Y W') ∧ Bs W Y (bblk s i) := by
  have n2 := h.n2
  have hw := bs_rowc h.blk 0 (s.n * 64) (s.n * 64) (by omega) (by omega) (by simp [maxLen]; omega)
  obtain ⟨Y, h1, h2⟩ := hw.piece elB (i * 64) (i * 64 + 64) (by omega) (by simp; omega)
  refine ⟨Y, fun W' => ?_, ?_⟩
  · rw [show (64 * (i : Int)) = ((i * 64 : Nat) : Int) by omega, show ((i * 64 : Nat) : Int) + 64 = ((i * 64 + 64 : Nat) : Int) by omega]
    exact h1 W'
  · rw [show i * 64 + 64 - i * 64 = 64 by omega, piece_rows _ _ _ (by omega)] at h2
    unfold bblk
    simpa using h2

end Go.Proofs.Ytbonapdainlpjaa
