/- Layer 10 (token): plain; the walks of May, Fields, tag, of both sides. -/
import Derived.Test.YtjnbdeopoohnmaaGreatDoorWriter
import Derived.Test.YtjnbdeopoohnmaaGreatDoorRfield
import Derived.Test.YtjnbdeopoohnmaaGreatDoorRingS
import Derived.Test.YtjnbdeopoohnmaaGreatDoorHmR
import Derived.Deep.CutBlock
import Derived.Deep.DeepCutAuto
set_option linter.unusedSimpArgs false
namespace Go.Proofs.YtjnbdeopoohnmaaGreatDoor
open Go.RowKit Go.Sort

/-- a token -/
structure Tok where
  trip : Int
  acct : Int
  stop : Int
  iss : Int
  til : Int
  ep : Int
def Tok.row (t : Tok) : Array Value := #[.int .i64 t.trip, .int .i64 t.acct, .int .i64 t.stop, .int .i64 t.iss, .int .i64 t.til, .int .i64 t.ep]
def W64 (n : Int) : Prop := -9223372036854775808 ≤ n ∧ n ≤ 9223372036854775807
def Tok.Wf (t : Tok) : Prop := W64 t.trip ∧ W64 t.acct ∧ W64 t.stop ∧ W64 t.iss ∧ W64 t.til ∧ W64 t.ep
def Tok.at (t : Tok) (e : Int) : Tok := { t with ep := e }
def win (n lo hi : Int) : Bool := decide (lo ≤ n) && decide (n ≤ hi)
def tmay (t : Tok) : Bool := win t.trip 1 2147483648 && (win t.acct 1 2147483648 && (win t.stop 0 4095 && (win t.iss 0 1099511627776 && (win t.til t.iss 1099511627776 && win t.ep 1 1048576))))
def fnum (n : Int) : List UInt8 := vput n.toNat
def tfields (t : Tok) : List UInt8 := fnum t.trip ++ fnum t.acct ++ fnum t.stop ++ fnum t.iss ++ fnum t.til ++ fnum t.ep
def tokS : ByteArray := ⟨#[116, 111, 107, 101, 110]⟩
def ttag (key : List UInt8) (t : Tok) : List UInt8 := hderive key tokS.data.toList (tfields t)

theorem ttag_len (key : List UInt8) (t : Tok) : (ttag key t).length = 32 := htag_len _ _
theorem fnum_len {n : Int} (h : W64 n) : (fnum n).length ≤ 10 := vput_len10 _ (by have := h.2; omega)
theorem tfields_len {t : Tok} (h : t.Wf) : (tfields t).length ≤ 60 := by
  obtain ⟨h1, h2, h3, h4, h5, h6⟩ := h
  have := fnum_len h1; have := fnum_len h2; have := fnum_len h3; have := fnum_len h4; have := fnum_len h5; have := fnum_len h6
  unfold tfields
  simp only [List.length_append]
  omega
theorem tmay_iff (t : Tok) : tmay t = true ↔ (1 ≤ t.trip ∧ t.trip ≤ 2147483648) ∧ (1 ≤ t.acct ∧ t.acct ≤ 2147483648) ∧ (0 ≤ t.stop ∧ t.stop ≤ 4095) ∧ (0 ≤ t.iss ∧ t.iss ≤ 1099511627776) ∧ (t.iss ≤ t.til ∧ t.til ≤ 1099511627776) ∧ (1 ≤ t.ep ∧ t.ep ≤ 1048576) := by
  unfold tmay win; simp only [Bool.and_eq_true, decide_eq_true_iff]
theorem tmay_ref (t : Tok) : tmay t = (win t.trip 1 2147483648 && (win t.acct 1 2147483648 && (win t.stop 0 4095 && (win t.iss 0 1099511627776 && (win t.til 0 1099511627776 && (decide (t.iss ≤ t.til) && win t.ep 1 1048576)))))) := by
  rw [Bool.eq_iff_iff, tmay_iff]
  unfold win; simp only [Bool.and_eq_true, decide_eq_true_iff]
  omega

theorem six_ways (b1 b2 b3 b4 b5 b6 : Bool) : b1 = false ∨ (b1 = true ∧ b2 = false) ∨ (b1 = true ∧ b2 = true ∧ b3 = false) ∨ (b1 = true ∧ b2 = true ∧ b3 = true ∧ b4 = false) ∨ (b1 = true ∧ b2 = true ∧ b3 = true ∧ b4 = true ∧ b5 = false) ∨ (b1 = true ∧ b2 = true ∧ b3 = true ∧ b4 = true ∧ b5 = true ∧ b6 = false) ∨ (b1 = true ∧ b2 = true ∧ b3 = true ∧ b4 = true ∧ b5 = true ∧ b6 = true) := by
  cases b1 <;> cases b2 <;> cases b3 <;> cases b4 <;> cases b5 <;> cases b6 <;> simp
theorem seven_ways (b1 b2 b3 b4 b5 b6 b7 : Bool) : b1 = false ∨ (b1 = true ∧ b2 = false) ∨ (b1 = true ∧ b2 = true ∧ b3 = false) ∨ (b1 = true ∧ b2 = true ∧ b3 = true ∧ b4 = false) ∨ (b1 = true ∧ b2 = true ∧ b3 = true ∧ b4 = true ∧ b5 = false) ∨ (b1 = true ∧ b2 = true ∧ b3 = true ∧ b4 = true ∧ b5 = true ∧ b6 = false) ∨ (b1 = true ∧ b2 = true ∧ b3 = true ∧ b4 = true ∧ b5 = true ∧ b6 = true ∧ b7 = false) ∨ (b1 = true ∧ b2 = true ∧ b3 = true ∧ b4 = true ∧ b5 = true ∧ b6 = true ∧ b7 = true) := by
  cases b1 <;> cases b2 <;> cases b3 <;> cases b4 <;> cases b5 <;> cases b6 <;> cases b7 <;> simp

theorem within_any (n lo hi : Int) (w : World) : Calls Tryz.prog 111 #[.int .i64 n, .int .i64 lo, .int .i64 hi] w fun e w' => e = .returned (.bool (win n lo hi)) ∧ w = w' := by
  unfold win
  go_enter Tryz.func111, Tryz.ntmps111
  by_cases h1 : lo ≤ n
  · by_cases h2 : n ≤ hi
    · go_wp2
      go_ret
      exact ⟨ret_bool (by simp [h1, h2]), rfl⟩
    · go_wp2
      go_ret
      exact ⟨ret_bool (by simp [h1, h2]), rfl⟩
  · go_wp2
    go_ret
    exact ⟨ret_bool (by simp; omega), rfl⟩
theorem from_any (n lo hi : Int) (w : World) : Calls Tryz.prog 88 #[.int .i64 n, .int .i64 lo, .int .i64 hi] w fun e w' => e = .returned (.bool (win n lo hi)) ∧ w = w' := by
  unfold win
  go_enter Tryz.func88, Tryz.ntmps88
  by_cases h1 : lo ≤ n
  · by_cases h2 : n ≤ hi
    · go_wp2
      go_ret
      exact ⟨ret_bool (by simp [h1, h2]), rfl⟩
    · go_wp2
      go_ret
      exact ⟨ret_bool (by simp [h1, h2]), rfl⟩
  · go_wp2
    go_ret
    exact ⟨ret_bool (by simp; omega), rfl⟩

set_option maxHeartbeats 1600000 in
theorem tmay_any (t : Tok) (w : World) : Calls Tryz.prog 93 #[.agg t.row] w fun e w' => e = .returned (.bool (tmay t)) ∧ Below w.heap.size w w' := by
  obtain ⟨x1, x2, x3, x4, x5, x6⟩ := t
  have f1 := within_any x1 1 2147483648
  have f2 := within_any x2 1 2147483648
  have f3 := within_any x3 0 4095
  have f4 := within_any x4 0 1099511627776
  have f5 := within_any x5 x4 1099511627776
  have f6 := within_any x6 1 1048576
  unfold tmay Tok.row
  dsimp only
  obtain ⟨b1, e1⟩ : ∃ b, win x1 1 2147483648 = b := ⟨_, rfl⟩
  obtain ⟨b2, e2⟩ : ∃ b, win x2 1 2147483648 = b := ⟨_, rfl⟩
  obtain ⟨b3, e3⟩ : ∃ b, win x3 0 4095 = b := ⟨_, rfl⟩
  obtain ⟨b4, e4⟩ : ∃ b, win x4 0 1099511627776 = b := ⟨_, rfl⟩
  obtain ⟨b5, e5⟩ : ∃ b, win x5 x4 1099511627776 = b := ⟨_, rfl⟩
  obtain ⟨b6, e6⟩ : ∃ b, win x6 1 1048576 = b := ⟨_, rfl⟩
  rw [e1] at f1; rw [e2] at f2; rw [e3] at f3; rw [e4] at f4; rw [e5] at f5; rw [e6] at f6
  rw [e1, e2, e3, e4, e5, e6]
  have HB := Lib.hid (bel_al (Below.refl w.heap.size w) (Obj.cells #[.int .i64 x1, .int .i64 x2, .int .i64 x3, .int .i64 x4, .int .i64 x5, .int .i64 x6] 62))
  have hrow : (w.alloc (Obj.cells #[.int .i64 x1, .int .i64 x2, .int .i64 x3, .int .i64 x4, .int .i64 x5, .int .i64 x6] 62)).heap[w.heap.size]? = some (.cells #[.int .i64 x1, .int .i64 x2, .int .i64 x3, .int .i64 x4, .int .i64 x5, .int .i64 x6] 62 (0, 0)) := heap_alloc_new _ _
  clear e1 e2 e3 e4 e5 e6
  go_enter Tryz.func93, Tryz.ntmps93
  go_upto_region 1 with fail
  obtain ⟨W, hW⟩ : ∃ W, w.alloc (Obj.cells #[.int .i64 x1, .int .i64 x2, .int .i64 x3, .int .i64 x4, .int .i64 x5, .int .i64 x6] 62) = W := ⟨_, rfl⟩
  rw [hW] at HB hrow ⊢
  obtain ⟨g, hg⟩ : ∃ g, w.heap.size = g := ⟨_, rfl⟩
  rw [hg] at hrow ⊢
  have c1 : W.cell? ⟨g, 0, none⟩ = some (.int .i64 x1) := cell_of_row W _ _ _ _ _ hrow
  have c2 : W.cell? ⟨g, 1, none⟩ = some (.int .i64 x2) := cell_of_row W _ _ _ _ _ hrow
  have c3 : W.cell? ⟨g, 2, none⟩ = some (.int .i64 x3) := cell_of_row W _ _ _ _ _ hrow
  have c4 : W.cell? ⟨g, 3, none⟩ = some (.int .i64 x4) := cell_of_row W _ _ _ _ _ hrow
  have c5 : W.cell? ⟨g, 4, none⟩ = some (.int .i64 x5) := cell_of_row W _ _ _ _ _ hrow
  have c6 : W.cell? ⟨g, 5, none⟩ = some (.int .i64 x6) := cell_of_row W _ _ _ _ _ hrow
  clear hrow hW
  have F1 := Lib.hid f1
  have F2 := Lib.hid f2
  have F3 := Lib.hid f3
  have F4 := Lib.hid f4
  have F5 := Lib.hid f5
  have F6 := Lib.hid f6
  clear f1 f2 f3 f4 f5 f6
  rcases six_ways b1 b2 b3 b4 b5 b6 with rfl | ⟨rfl, rfl⟩ | ⟨rfl, rfl, rfl⟩ | ⟨rfl, rfl, rfl, rfl⟩ | ⟨rfl, rfl, rfl, rfl, rfl⟩ | ⟨rfl, rfl, rfl, rfl, rfl, rfl⟩ | ⟨rfl, rfl, rfl, rfl, rfl, rfl⟩
  all_goals
    go_wp2_with (go_at_call 111; (first | with_reducible refine (F1.out _).mono ?_ | with_reducible refine (F2.out _).mono ?_ | with_reducible refine (F3.out _).mono ?_ | with_reducible refine (F4.out _).mono ?_ | with_reducible refine (F5.out _).mono ?_ | with_reducible refine (F6.out _).mono ?_); rintro e w1 ⟨rfl, rfl⟩)
    go_ret
    exact ⟨ret_bool (by simp), HB.out⟩

set_option maxHeartbeats 1600000 in
theorem umay_any (t : Tok) (w : World) : Calls Tryz.prog 55 #[.agg t.row] w fun e w' => e = .returned (.bool (tmay t)) ∧ Below w.heap.size w w' := by
  rw [tmay_ref]
  obtain ⟨x1, x2, x3, x4, x5, x6⟩ := t
  have f1 := from_any x1 1 2147483648
  have f2 := from_any x2 1 2147483648
  have f3 := from_any x3 0 4095
  have f4 := from_any x4 0 1099511627776
  have f5 := from_any x5 0 1099511627776
  have f6 := from_any x6 1 1048576
  unfold Tok.row
  dsimp only
  obtain ⟨b1, e1⟩ : ∃ b, win x1 1 2147483648 = b := ⟨_, rfl⟩
  obtain ⟨b2, e2⟩ : ∃ b, win x2 1 2147483648 = b := ⟨_, rfl⟩
  obtain ⟨b3, e3⟩ : ∃ b, win x3 0 4095 = b := ⟨_, rfl⟩
  obtain ⟨b4, e4⟩ : ∃ b, win x4 0 1099511627776 = b := ⟨_, rfl⟩
  obtain ⟨b5, e5⟩ : ∃ b, win x5 0 1099511627776 = b := ⟨_, rfl⟩
  obtain ⟨b7, e7⟩ : ∃ b, win x6 1 1048576 = b := ⟨_, rfl⟩
  rw [e1] at f1; rw [e2] at f2; rw [e3] at f3; rw [e4] at f4; rw [e5] at f5; rw [e7] at f6
  rw [e1, e2, e3, e4, e5, e7]
  obtain ⟨b6, e6⟩ : ∃ b, decide (x4 ≤ x5) = b := ⟨_, rfl⟩
  rw [e6]
  have HB := Lib.hid (bel_al (Below.refl w.heap.size w) (Obj.cells #[.int .i64 x1, .int .i64 x2, .int .i64 x3, .int .i64 x4, .int .i64 x5, .int .i64 x6] 62))
  have hrow : (w.alloc (Obj.cells #[.int .i64 x1, .int .i64 x2, .int .i64 x3, .int .i64 x4, .int .i64 x5, .int .i64 x6] 62)).heap[w.heap.size]? = some (.cells #[.int .i64 x1, .int .i64 x2, .int .i64 x3, .int .i64 x4, .int .i64 x5, .int .i64 x6] 62 (0, 0)) := heap_alloc_new _ _
  clear e1 e2 e3 e4 e5 e7
  go_enter Tryz.func55, Tryz.ntmps55
  go_upto_region 1 with fail
  obtain ⟨W, hW⟩ : ∃ W, w.alloc (Obj.cells #[.int .i64 x1, .int .i64 x2, .int .i64 x3, .int .i64 x4, .int .i64 x5, .int .i64 x6] 62) = W := ⟨_, rfl⟩
  rw [hW] at HB hrow ⊢
  obtain ⟨g, hg⟩ : ∃ g, w.heap.size = g := ⟨_, rfl⟩
  rw [hg] at hrow ⊢
  have c1 : W.cell? ⟨g, 0, none⟩ = some (.int .i64 x1) := cell_of_row W _ _ _ _ _ hrow
  have c2 : W.cell? ⟨g, 1, none⟩ = some (.int .i64 x2) := cell_of_row W _ _ _ _ _ hrow
  have c3 : W.cell? ⟨g, 2, none⟩ = some (.int .i64 x3) := cell_of_row W _ _ _ _ _ hrow
  have c4 : W.cell? ⟨g, 3, none⟩ = some (.int .i64 x4) := cell_of_row W _ _ _ _ _ hrow
  have c5 : W.cell? ⟨g, 4, none⟩ = some (.int .i64 x5) := cell_of_row W _ _ _ _ _ hrow
  have c6 : W.cell? ⟨g, 5, none⟩ = some (.int .i64 x6) := cell_of_row W _ _ _ _ _ hrow
  clear hrow hW
  have F1 := Lib.hid f1
  have F2 := Lib.hid f2
  have F3 := Lib.hid f3
  have F4 := Lib.hid f4
  have F5 := Lib.hid f5
  have F6 := Lib.hid f6
  clear f1 f2 f3 f4 f5 f6
  rcases seven_ways b1 b2 b3 b4 b5 b6 b7 with rfl | ⟨rfl, rfl⟩ | ⟨rfl, rfl, rfl⟩ | ⟨rfl, rfl, rfl, rfl⟩ | ⟨rfl, rfl, rfl, rfl, rfl⟩ | ⟨rfl, rfl, rfl, rfl, rfl, rfl⟩ | ⟨rfl, rfl, rfl, rfl, rfl, rfl, rfl⟩ | ⟨rfl, rfl, rfl, rfl, rfl, rfl, rfl⟩
  all_goals
    go_wp2_with (go_at_call 88; (first | with_reducible refine (F1.out _).mono ?_ | with_reducible refine (F2.out _).mono ?_ | with_reducible refine (F3.out _).mono ?_ | with_reducible refine (F4.out _).mono ?_ | with_reducible refine (F5.out _).mono ?_ | with_reducible refine (F6.out _).mono ?_); rintro e w1 ⟨rfl, rfl⟩)
    go_ret
    exact ⟨ret_bool (by simp), HB.out⟩

/-- a token in a block -/
structure TAt (w : World) (g : Nat) (t : Tok) : Prop where
  row : w.heap[g]? = some (.cells t.row 62 (0, 0))
theorem TAt.below {w w' : World} {g : Nat} {t : Tok} (h : TAt w g t) (hb : Below w.heap.size w w') : TAt w' g t := ⟨(hb.block g (heap_lt h.row)).trans h.row⟩
theorem TAt.cells {w : World} {g : Nat} {t : Tok} (h : TAt w g t) : w.cell? ⟨g, 0, none⟩ = some (.int .i64 t.trip) ∧ w.cell? ⟨g, 1, none⟩ = some (.int .i64 t.acct) ∧ w.cell? ⟨g, 2, none⟩ = some (.int .i64 t.stop) ∧ w.cell? ⟨g, 3, none⟩ = some (.int .i64 t.iss) ∧ w.cell? ⟨g, 4, none⟩ = some (.int .i64 t.til) ∧ w.cell? ⟨g, 5, none⟩ = some (.int .i64 t.ep) :=
  ⟨cell_of_row w _ _ _ _ _ h.row, cell_of_row w _ _ _ _ _ h.row, cell_of_row w _ _ _ _ _ h.row, cell_of_row w _ _ _ _ _ h.row, cell_of_row w _ _ _ _ _ h.row, cell_of_row w _ _ _ _ _ h.row⟩
theorem tat_new (w : World) (t : Tok) : TAt (w.alloc (.cells t.row 62)) w.heap.size t := ⟨heap_alloc_new _ _⟩

/-- the first i fields -/
def tpre (t : Tok) : Nat → List UInt8
  | 0 => []
  | 1 => fnum t.trip
  | 2 => fnum t.trip ++ fnum t.acct
  | 3 => fnum t.trip ++ fnum t.acct ++ fnum t.stop
  | 4 => fnum t.trip ++ fnum t.acct ++ fnum t.stop ++ fnum t.iss
  | 5 => fnum t.trip ++ fnum t.acct ++ fnum t.stop ++ fnum t.iss ++ fnum t.til
  | _ => tfields t
theorem tpre_len {t : Tok} (h : t.Wf) (i : Nat) : (tpre t i).length ≤ 60 := by
  have hf := tfields_len h
  have hs : (tpre t i).length ≤ (tfields t).length := by
    unfold tpre
    split <;> unfold tfields <;> simp only [List.length_append, List.length_nil] <;> omega
  omega

theorem six_index (t : Tok) (i : Nat) (I : Int) (hI : I = i) (x : Value) (h : t.row[i]? = some x) (hi : i < 6) (W : World) :
    (Instr.index 138 (.agg #[.int .i64 t.trip, .int .i64 t.acct, .int .i64 t.stop, .int .i64 t.iss, .int .i64 t.til, .int .i64 t.ep]) (.int .i64 I)).run Tryz.prog W = .ok x W := by
  subst hI
  show (Instr.index 138 (.agg t.row) (.int .i64 (i : Int))).run Tryz.prog W = .ok x W
  have h1 : (i : Int).toNat = i := by omega
  have h2 : (0 : Int) ≤ i ∧ (i : Int) < 6 := by omega
  have hc : Tryz.prog.cellsOf 3 = 1 := by kernel_rfl
  simp [Instr.index, run_underlying Tryz.underlying138, asIntOf, go_sem, h1, h2, h]
  intro h3
  omega

set_option maxRecDepth 100000 in
set_option maxHeartbeats 1600000 in
theorem tfields_any (t : Tok) (hwf : t.Wf) (w : World) : Calls Tryz.prog 66 #[.agg t.row] w fun e w' => ∃ v, e = .returned v ∧ Ob w' w.heap.size 5 v (tfields t) ∧ Below w.heap.size w w' := by
  have hA := tat_new w t
  have hBA := bel_al (Below.refl w.heap.size w) (Obj.cells t.row 62)
  unfold Tok.row at hA hBA ⊢
  go_enter Tryz.func66, Tryz.ntmps66
  go_upto_region 1 with fail
  obtain ⟨W, hW⟩ : ∃ W, w.alloc (Obj.cells #[.int .i64 t.trip, .int .i64 t.acct, .int .i64 t.stop, .int .i64 t.iss, .int .i64 t.til, .int .i64 t.ep] 62) = W := ⟨_, rfl⟩
  rw [hW] at hA hBA ⊢
  have hgl := heap_lt hA.row
  have hwr : Wr (W.alloc (.cells #[.slice none 0 0] 93)) w.heap.size W.heap.size (.slice none 0 0) [] := ⟨by omega, heap_alloc_new W _, Ob.nil _ _ _⟩
  have hb2 : Below w.heap.size w (W.alloc (.cells #[.slice none 0 0] 93)) := bel_al hBA _
  have hA2 := hA.below ((Below.refl W.heap.size W).alloc (Nat.le_refl _) (.cells #[.slice none 0 0] 93))
  obtain ⟨g, hg⟩ : ∃ g, w.heap.size = g := ⟨_, rfl⟩
  rw [hg] at hA2 ⊢
  clear hg hW hA hBA
  go_upto_region 2 with fail
  obtain ⟨W2, hW2⟩ : ∃ X, W.alloc (.cells #[.slice none 0 0] 93) = X := ⟨_, rfl⟩
  rw [hW2] at hwr hb2 hA2 ⊢
  obtain ⟨p, hp⟩ : ∃ p, W.heap.size = p := ⟨_, rfl⟩
  rw [hp] at hwr ⊢
  obtain ⟨c1, c2, c3, c4, c5, c6⟩ := hA2.cells
  obtain ⟨⟨a1, z1⟩, ⟨a2, z2⟩, ⟨a3, z3⟩, ⟨a4, z4⟩, ⟨a5, z5⟩, ⟨a6, z6⟩⟩ := hwf
  have HL : Hid (∀ i, (tpre t i).length ≤ 60) := fun i => tpre_len ⟨⟨a1, z1⟩, ⟨a2, z2⟩, ⟨a3, z3⟩, ⟨a4, z4⟩, ⟨a5, z5⟩, ⟨a6, z6⟩⟩ i
  have HWR : Hid (Wr W2 w.heap.size p (.slice none 0 0) (tpre t 0)) := hwr
  have HB2 := Lib.hid hb2
  clear hwr hb2 hA2 hW2 hp hgl
  go_wp2_with fail
  go_loopw [21] (fun vi wr => ∃ i : Nat, i ≤ 6 ∧ vi = .int .i64 i ∧ ∃ v, Hid (Wr wr w.heap.size p v (tpre t i)) ∧ Hid (Below w.heap.size w wr)) (fun vi _ => 6 - (intOf vi).toNat)
  case atStart => exact ⟨0, by omega, rfl, _, HWR, HB2⟩
  case round =>
    obtain ⟨i, hi, rfl, v, HV, HB⟩ := hrel
    clear c1 c2 c3 c4 c5 c6 HWR HB2
    have hgb : w.heap.size ≤ wr.heap.size := HB.out.size
    rcases (show i = 0 ∨ i = 1 ∨ i = 2 ∨ i = 3 ∨ i = 4 ∨ i = 5 ∨ i = 6 by omega) with rfl | rfl | rfl | rfl | rfl | rfl | rfl
    · rw [show ((0 : Nat) : Int) = 0 from rfl]
      have x0 := fun W => six_index t 0 0 rfl _ rfl (by omega) W
      go_wp2_with (go_at_call 46; refine (wNumber_any t.trip a1 z1 p v _ w.heap.size wr HV.out hgb (by have := HL.out 0; omega)).mono ?_; rintro e w3 ⟨rfl, v3, hw3⟩; have HV3 := Lib.hid hw3.wr; have HB3 := Lib.hid (HB.out.trans (hw3.bel HV.out hgb)); clear hw3)
      go_roundw
      case rel => exact ⟨1, by omega, rfl, _, HV3, HB3⟩
      case measure => simp [intOf]
    · rw [show ((1 : Nat) : Int) = 1 from rfl]
      have x0 := fun W => six_index t 1 1 rfl _ rfl (by omega) W
      go_wp2_with (go_at_call 46; refine (wNumber_any t.acct a2 z2 p v _ w.heap.size wr HV.out hgb (by have := HL.out 1; omega)).mono ?_; rintro e w3 ⟨rfl, v3, hw3⟩; have HV3 := Lib.hid hw3.wr; have HB3 := Lib.hid (HB.out.trans (hw3.bel HV.out hgb)); clear hw3)
      go_roundw
      case rel => exact ⟨2, by omega, rfl, _, HV3, HB3⟩
      case measure => simp [intOf]
    · rw [show ((2 : Nat) : Int) = 2 from rfl]
      have x0 := fun W => six_index t 2 2 rfl _ rfl (by omega) W
      go_wp2_with (go_at_call 46; refine (wNumber_any t.stop a3 z3 p v _ w.heap.size wr HV.out hgb (by have := HL.out 2; omega)).mono ?_; rintro e w3 ⟨rfl, v3, hw3⟩; have HV3 := Lib.hid hw3.wr; have HB3 := Lib.hid (HB.out.trans (hw3.bel HV.out hgb)); clear hw3)
      go_roundw
      case rel => exact ⟨3, by omega, rfl, _, HV3, HB3⟩
      case measure => simp [intOf]
    · rw [show ((3 : Nat) : Int) = 3 from rfl]
      have x0 := fun W => six_index t 3 3 rfl _ rfl (by omega) W
      go_wp2_with (go_at_call 46; refine (wNumber_any t.iss a4 z4 p v _ w.heap.size wr HV.out hgb (by have := HL.out 3; omega)).mono ?_; rintro e w3 ⟨rfl, v3, hw3⟩; have HV3 := Lib.hid hw3.wr; have HB3 := Lib.hid (HB.out.trans (hw3.bel HV.out hgb)); clear hw3)
      go_roundw
      case rel => exact ⟨4, by omega, rfl, _, HV3, HB3⟩
      case measure => simp [intOf]
    · rw [show ((4 : Nat) : Int) = 4 from rfl]
      have x0 := fun W => six_index t 4 4 rfl _ rfl (by omega) W
      go_wp2_with (go_at_call 46; refine (wNumber_any t.til a5 z5 p v _ w.heap.size wr HV.out hgb (by have := HL.out 4; omega)).mono ?_; rintro e w3 ⟨rfl, v3, hw3⟩; have HV3 := Lib.hid hw3.wr; have HB3 := Lib.hid (HB.out.trans (hw3.bel HV.out hgb)); clear hw3)
      go_roundw
      case rel => exact ⟨5, by omega, rfl, _, HV3, HB3⟩
      case measure => simp [intOf]
    · rw [show ((5 : Nat) : Int) = 5 from rfl]
      have x0 := fun W => six_index t 5 5 rfl _ rfl (by omega) W
      go_wp2_with (go_at_call 46; refine (wNumber_any t.ep a6 z6 p v _ w.heap.size wr HV.out hgb (by have := HL.out 5; omega)).mono ?_; rintro e w3 ⟨rfl, v3, hw3⟩; have HV3 := Lib.hid hw3.wr; have HB3 := Lib.hid (HB.out.trans (hw3.bel HV.out hgb)); clear hw3)
      go_roundw
      case rel => exact ⟨6, by omega, rfl, _, HV3, HB3⟩
      case measure => simp [intOf]
    · rw [show ((6 : Nat) : Int) = 6 from rfl]
      go_wp2_with (go_at_call 47; refine (wOut_any p v _ w.heap.size wr HV.out (by have := HL.out 6; omega)).mono ?_; rintro e w7 ⟨v7, rfl, ho7, hb7⟩; have HO7 := Lib.hid ho7; have HB7 := Lib.hid (HB.out.trans (hb7.mono hgb)); clear ho7 hb7)
      go_ret
      exact ⟨_, rfl, HO7.out.mono hgb, HB7.out⟩

set_option maxRecDepth 100000 in
set_option maxHeartbeats 1600000 in
theorem ufields_any (t : Tok) (hwf : t.Wf) (w : World) : Calls Tryz.prog 67 #[.agg t.row] w fun e w' => ∃ v, e = .returned v ∧ Ob w' w.heap.size 5 v (tfields t) ∧ Below w.heap.size w w' := by
  have hA := tat_new w t
  have hBA := bel_al (Below.refl w.heap.size w) (Obj.cells t.row 62)
  unfold Tok.row at hA hBA ⊢
  go_enter Tryz.func67, Tryz.ntmps67
  go_upto_region 2 with fail
  obtain ⟨W, hW⟩ : ∃ W, w.alloc (Obj.cells #[.int .i64 t.trip, .int .i64 t.acct, .int .i64 t.stop, .int .i64 t.iss, .int .i64 t.til, .int .i64 t.ep] 62) = W := ⟨_, rfl⟩
  rw [hW] at hA hBA ⊢
  obtain ⟨g, hg⟩ : ∃ g, w.heap.size = g := ⟨_, rfl⟩
  have HBA := Lib.hid hBA
  rw [hg] at hA ⊢
  obtain ⟨⟨a1, z1⟩, ⟨a2, z2⟩, ⟨a3, z3⟩, ⟨a4, z4⟩, ⟨a5, z5⟩, ⟨a6, z6⟩⟩ := hwf
  have HL : Hid (∀ i, (tpre t i).length ≤ 60) := fun i => tpre_len ⟨⟨a1, z1⟩, ⟨a2, z2⟩, ⟨a3, z3⟩, ⟨a4, z4⟩, ⟨a5, z5⟩, ⟨a6, z6⟩⟩ i
  have HT := Lib.hid hA
  have HB0 : Hid (Below W.heap.size W W) := Below.refl _ _
  have HO0 : Hid (Ob W W.heap.size 5 (.slice none 0 0) (tpre t 0)) := Ob.nil _ _ _
  clear hA hBA hW hg
  obtain ⟨c1, c2, c3, c4, c5, c6⟩ := (HT.out.below HB0.out).cells
  have ln := vput_len10 t.trip.toNat (by omega)
  go_upto_region 3 with (first
    | (go_at_call 36; refine (rnumber_any t.trip a1 z1 _).mono ?_; rintro e wa ⟨va, rfl, hoa, hba⟩; have HBa := Lib.hid (HB0.out.trans (hba.mono HB0.out.size)); have hok := HO0.out.below hba; have hz := HBa.out.size; clear hba)
    | (at_builtin; go_must (refine wpList_append_bytes hok hoa.bs elB (by have := HL.out 0; omega) (by have := HL.out 0; omega) hz ?_ _ _ rfl rfl rfl rfl); intro v1 w1 hon hgn hbn _; have HO1 : Hid (Ob w1 W.heap.size 5 v1 (tpre t 1)) := Lib.hid hon; have HB1 := Lib.hid (HBa.out.trans hbn); clear hok hoa hon hgn hz ln HBa hbn HO0))
  clear c1 c2 c3 c4 c5 c6
  obtain ⟨c1, c2, c3, c4, c5, c6⟩ := (HT.out.below HB1.out).cells
  have ln := vput_len10 t.acct.toNat (by omega)
  go_upto_region 4 with (first
    | (go_at_call 36; refine (rnumber_any t.acct a2 z2 _).mono ?_; rintro e wa ⟨va, rfl, hoa, hba⟩; have HBa := Lib.hid (HB1.out.trans (hba.mono HB1.out.size)); have hok := HO1.out.below hba; have hz := HBa.out.size; clear hba)
    | (at_builtin; go_must (refine wpList_append_bytes hok hoa.bs elB (by have := HL.out 1; omega) (by have := HL.out 1; omega) hz ?_ _ _ rfl rfl rfl rfl); intro v2 w2 hon hgn hbn _; have HO2 : Hid (Ob w2 W.heap.size 5 v2 (tpre t 2)) := Lib.hid hon; have HB2 := Lib.hid (HBa.out.trans hbn); clear hok hoa hon hgn hz ln HBa hbn HO1))
  clear c1 c2 c3 c4 c5 c6
  obtain ⟨c1, c2, c3, c4, c5, c6⟩ := (HT.out.below HB2.out).cells
  have ln := vput_len10 t.stop.toNat (by omega)
  go_upto_region 5 with (first
    | (go_at_call 36; refine (rnumber_any t.stop a3 z3 _).mono ?_; rintro e wa ⟨va, rfl, hoa, hba⟩; have HBa := Lib.hid (HB2.out.trans (hba.mono HB2.out.size)); have hok := HO2.out.below hba; have hz := HBa.out.size; clear hba)
    | (at_builtin; go_must (refine wpList_append_bytes hok hoa.bs elB (by have := HL.out 2; omega) (by have := HL.out 2; omega) hz ?_ _ _ rfl rfl rfl rfl); intro v3 w3 hon hgn hbn _; have HO3 : Hid (Ob w3 W.heap.size 5 v3 (tpre t 3)) := Lib.hid hon; have HB3 := Lib.hid (HBa.out.trans hbn); clear hok hoa hon hgn hz ln HBa hbn HO2))
  clear c1 c2 c3 c4 c5 c6
  obtain ⟨c1, c2, c3, c4, c5, c6⟩ := (HT.out.below HB3.out).cells
  have ln := vput_len10 t.iss.toNat (by omega)
  go_upto_region 6 with (first
    | (go_at_call 36; refine (rnumber_any t.iss a4 z4 _).mono ?_; rintro e wa ⟨va, rfl, hoa, hba⟩; have HBa := Lib.hid (HB3.out.trans (hba.mono HB3.out.size)); have hok := HO3.out.below hba; have hz := HBa.out.size; clear hba)
    | (at_builtin; go_must (refine wpList_append_bytes hok hoa.bs elB (by have := HL.out 3; omega) (by have := HL.out 3; omega) hz ?_ _ _ rfl rfl rfl rfl); intro v4 w4 hon hgn hbn _; have HO4 : Hid (Ob w4 W.heap.size 5 v4 (tpre t 4)) := Lib.hid hon; have HB4 := Lib.hid (HBa.out.trans hbn); clear hok hoa hon hgn hz ln HBa hbn HO3))
  clear c1 c2 c3 c4 c5 c6
  obtain ⟨c1, c2, c3, c4, c5, c6⟩ := (HT.out.below HB4.out).cells
  have ln := vput_len10 t.til.toNat (by omega)
  go_upto_region 7 with (first
    | (go_at_call 36; refine (rnumber_any t.til a5 z5 _).mono ?_; rintro e wa ⟨va, rfl, hoa, hba⟩; have HBa := Lib.hid (HB4.out.trans (hba.mono HB4.out.size)); have hok := HO4.out.below hba; have hz := HBa.out.size; clear hba)
    | (at_builtin; go_must (refine wpList_append_bytes hok hoa.bs elB (by have := HL.out 4; omega) (by have := HL.out 4; omega) hz ?_ _ _ rfl rfl rfl rfl); intro v5 w5 hon hgn hbn _; have HO5 : Hid (Ob w5 W.heap.size 5 v5 (tpre t 5)) := Lib.hid hon; have HB5 := Lib.hid (HBa.out.trans hbn); clear hok hoa hon hgn hz ln HBa hbn HO4))
  clear c1 c2 c3 c4 c5 c6
  obtain ⟨c1, c2, c3, c4, c5, c6⟩ := (HT.out.below HB5.out).cells
  have ln := vput_len10 t.ep.toNat (by omega)
  go_wp2_with (first
    | (go_at_call 36; refine (rnumber_any t.ep a6 z6 _).mono ?_; rintro e wa ⟨va, rfl, hoa, hba⟩; have HBa := Lib.hid (HB5.out.trans (hba.mono HB5.out.size)); have hok := HO5.out.below hba; have hz := HBa.out.size; clear hba)
    | (at_builtin; go_must (refine wpList_append_bytes hok hoa.bs elB (by have := HL.out 5; omega) (by have := HL.out 5; omega) hz ?_ _ _ rfl rfl rfl rfl); intro v6 w6 hon hgn hbn _; have HO6 : Hid (Ob w6 W.heap.size 5 v6 (tpre t 6)) := Lib.hid hon; have HB6 := Lib.hid (HBa.out.trans hbn); clear hok hoa hon hgn hz ln HBa hbn HO5))
  clear c1 c2 c3 c4 c5 c6
  go_ret
  exact ⟨_, rfl, HO6.out.mono HBA.out.size, HBA.out.trans (HB6.out.mono HBA.out.size)⟩

theorem ttag_anyL (vk : Value) (key : List UInt8) (t : Tok) (hwf : t.Wf) (w : World) (hk : Bs w vk key) (hlk : key.length < 140737488355328) (hT : Tabbed w) :
    Calls Tryz.prog 89 #[vk, .agg t.row] w fun e w' => ∃ v, e = .returned v ∧ Ob w' w.heap.size 5 v (ttag key t) ∧ Below w.heap.size w w' := by
  have hA := tat_new w t
  have hBA := bel_al (Below.refl w.heap.size w) (Obj.cells t.row 62)
  have hlen := tfields_len hwf
  have HWF := Lib.hid hwf
  have HT := Lib.hid hT
  have HK := Lib.hid hk
  obtain ⟨ka, kc, rfl⟩ := hk.shape
  unfold Tok.row at hA hBA ⊢
  clear hwf hT hk
  go_enter Tryz.func89, Tryz.ntmps89
  go_upto_region 1 with fail
  obtain ⟨W, hW⟩ : ∃ W, w.alloc (Obj.cells #[.int .i64 t.trip, .int .i64 t.acct, .int .i64 t.stop, .int .i64 t.iss, .int .i64 t.til, .int .i64 t.ep] 62) = W := ⟨_, rfl⟩
  rw [hW] at hA hBA ⊢
  obtain ⟨g, hg⟩ : ∃ g, w.heap.size = g := ⟨_, rfl⟩
  have HBA := Lib.hid hBA
  rw [hg] at hA ⊢
  obtain ⟨c1, c2, c3, c4, c5, c6⟩ := hA.cells
  clear hA hBA hW hg
  go_wp2_with (go_at_call 66; refine (tfields_any t HWF.out _).mono ?_; rintro e w2 ⟨v2, rfl, ho2, hb2⟩; obtain ⟨b2, d2, rfl⟩ := ho2.shape; have HO2 := Lib.hid ho2; have HB2 := Lib.hid (HBA.out.trans (hb2.mono HBA.out.size)); clear ho2 hb2)
  have hb3 := bel_al HB2.out (Obj.cells #[.slice b2 (tfields t).length d2] 25)
  refine (derive1_anyL _ (.slice b2 (tfields t).length d2) key (tfields t) tokS w2.heap.size _ (HK.out.below hb3) (cell_of_one (heap_alloc_new w2 _)) (HO2.out.bs.alloc _) hlk (by have : tokS.size = 5 := rfl; omega) (HT.out.below hb3)).mono ?_
  rintro e w4 ⟨v4, rfl, ho4, hb4⟩
  have HO4 := Lib.hid (ho4.mono hb3.size)
  have HB4 := Lib.hid (hb3.trans (hb4.mono hb3.size))
  clear ho4 hb3 hb4
  go_wp2
  go_ret
  exact ⟨_, rfl, HO4.out, HB4.out⟩

theorem ttag_any (vk : Value) (key : List UInt8) (t : Tok) (hwf : t.Wf) (w : World) (hk : Bs w vk key) (hlk : key.length < 4294967296) (hT : Tabbed w) :
    Calls Tryz.prog 89 #[vk, .agg t.row] w fun e w' => ∃ v, e = .returned v ∧ Ob w' w.heap.size 5 v (ttag key t) ∧ Below w.heap.size w w' :=
  ttag_anyL vk key t hwf w hk (by omega) hT

theorem utag_any (vk : Value) (key : List UInt8) (t : Tok) (hwf : t.Wf) (w : World) (hk : Bs w vk key) (hlk : key.length < 4294967296) :
    Calls Tryz.prog 29 #[vk, .agg t.row] w fun e w' => ∃ v, e = .returned v ∧ Ob w' w.heap.size 5 v (ttag key t) ∧ Below w.heap.size w w' := by
  have hA := tat_new w t
  have hBA := bel_al (Below.refl w.heap.size w) (Obj.cells t.row 62)
  have hlen := tfields_len hwf
  have HWF := Lib.hid hwf
  have HK := Lib.hid hk
  obtain ⟨ka, kc, rfl⟩ := hk.shape
  unfold Tok.row at hA hBA ⊢
  clear hwf hk
  go_enter Tryz.func29, Tryz.ntmps29
  go_upto_region 1 with fail
  obtain ⟨W, hW⟩ : ∃ W, w.alloc (Obj.cells #[.int .i64 t.trip, .int .i64 t.acct, .int .i64 t.stop, .int .i64 t.iss, .int .i64 t.til, .int .i64 t.ep] 62) = W := ⟨_, rfl⟩
  rw [hW] at hA hBA ⊢
  obtain ⟨g, hg⟩ : ∃ g, w.heap.size = g := ⟨_, rfl⟩
  have HBA := Lib.hid hBA
  rw [hg] at hA ⊢
  obtain ⟨c1, c2, c3, c4, c5, c6⟩ := hA.cells
  clear hA hBA hW hg
  go_wp2_with (go_at_call 67; refine (ufields_any t HWF.out _).mono ?_; rintro e w2 ⟨v2, rfl, ho2, hb2⟩; have HO2 := Lib.hid ho2; have HB2 := Lib.hid (HBA.out.trans (hb2.mono HBA.out.size)); clear ho2 hb2)
  refine (rderive_any _ v2 key (tfields t) tokS hlk (by have : tokS.size = 5 := rfl; omega) _ (HK.out.below HB2.out) HO2.out.bs).mono ?_
  rintro e w4 ⟨v4, rfl, ho4, hb4⟩
  have HO4 := Lib.hid (ho4.mono HB2.out.size)
  have HB4 := Lib.hid (HB2.out.trans (hb4.mono HB2.out.size))
  clear ho4 hb4
  go_wp2
  go_ret
  exact ⟨_, rfl, HO4.out, HB4.out⟩

end Go.Proofs.YtjnbdeopoohnmaaGreatDoor
