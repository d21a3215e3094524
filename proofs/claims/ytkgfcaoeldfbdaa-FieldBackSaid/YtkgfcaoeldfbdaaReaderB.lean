/- Walks of both readers of layer 3 (field): a byte; the reader that is none. -/
import Derived.Test.YtkgfcaoeldfbdaaReader3
import Derived.Test.YtkgfcaoeldfbdaaRReader2
namespace Go.Proofs.Ytkgfcaoeldfbdaa
open Go.RowKit Go.Sort

def BytePost (g : Nat) (y : Value) (l : List UInt8) (pos bad : Nat) (w : World) (e : Ending) (w' : World) : Prop :=
  e = .returned (.int .u8 ((rbyte l pos bad).1.toNat : Int)) ∧ Rdr w' g y l (rbyte l pos bad).2.1 (rbyte l pos bad).2.2 ∧ Only (fun k => k = g) w w'
def RBytePost (g : Nat) (y : Value) (l : List UInt8) (pos bad : Nat) (w : World) (e : Ending) (w' : World) : Prop :=
  e = .returned (.int .u8 ((rbyte l pos bad).1.toNat : Int)) ∧ RRd w' g y l (rbyte l pos bad).2.1 (rbyte l pos bad).2.2 ∧ Only (fun k => k = g) w w'

set_option maxRecDepth 100000 in
set_option maxHeartbeats 800000 in
theorem rbyte_rd (g : Nat) (y : Value) (l : List UInt8) (pos bad : Nat) (w : World) (h : Rdr w g y l pos bad) :
    Calls Try.prog 50 #[.pointer (some ⟨g, 0, none⟩)] w (BytePost g y l pos bad w) := by
  obtain ⟨a, c, hs⟩ := h.src.shape
  subst hs
  have hle := h.le
  have hlen := h.src.len_eq
  by_cases hb : bad = 0
  · subst hb
    have c0 := h.c0
    have c1 := h.c1
    by_cases hp : pos = l.length
    · have hR : rbyte l pos 0 = (0, pos, 10) := by unfold rbyte; rw [if_neg (by simp), if_pos hp]
      have HR := Lib.hid hR
      have hd : ((pos : Int) == l.length) = true := by simp; omega
      have e2 := h.f2
      have c2 := h.c2
      have H := Lib.hid h
      clear hR hp
      go_enter Try.func50, Try.ntmps50
      go_wp2_with fail
      refine (rok_yes g _ l pos _ H.out).mono ?_
      rintro e w1 ⟨rfl, rfl⟩
      go_wp2_with fail
      go_quiet (fail)
      go_wp2
      go_ret
      refine ⟨?_, ?_, only_drewN (set_only _ _ _ _) _⟩
      · rw [HR.out]; rfl
      · rw [HR.out]; exact (H.out.setBad 10).below (below_drewN (Below.refl _ _) _)
    · have hlt : pos < l.length := by omega
      obtain ⟨x, hx⟩ : ∃ x, l[pos]? = some x := ⟨_, List.getElem?_eq_getElem hlt⟩
      have hR : rbyte l pos 0 = (x, pos + 1, 0) := by unfold rbyte; rw [if_neg (by simp), if_neg hp, hx]; rfl
      have HR := Lib.hid hR
      have hd : ((pos : Int) == l.length) = false := by simp; omega
      have e1 := h.f1
      have H := Lib.hid h
      have HX := Lib.hid hx
      have ep : IntKind.i64.wrap ((pos : Int) + 1) = (pos : Int) + 1 := IntWalk.i64_in _ (by omega)
      clear hR hp hx h
      go_enter Try.func50, Try.ntmps50
      go_wp2_with fail
      refine (rok_yes g _ l pos _ H.out).mono ?_
      rintro e w1 ⟨rfl, rfl⟩
      go_wp2_with fail
      go_quiet (fail)
      go_wp2_with fail
      obtain ⟨W2, hW2⟩ : ∃ W2, (w.drewN nq).setCell ⟨g, 1, none⟩ (.int .i64 ((pos : Int) + 1)) = W2 := ⟨_, rfl⟩
      rw [hW2]
      obtain ⟨q, hq⟩ : ∃ q, q = pos + 1 := ⟨_, rfl⟩
      have hr2 : Rdr W2 g (.slice a l.length c) l q 0 := by
        rw [← hW2, hq]
        exact (H.out.setPos (pos + 1) (by omega)).below (below_drewN (Below.refl _ _) _)
      have hoo : Only (fun k => k = g) w W2 := by
        rw [← hW2]
        exact (only_drewN (Only.refl _ _) _).trans (set_only _ _ _ _)
      clear hW2 c0 c1 e1 hd
      obtain ⟨a', c', adr, hs, ha1, ha2, ha3, ha4, ha5⟩ := Bs.open_ (P := Try.prog) elB hr2.src
      cases hs
      have c0 := hr2.c0
      have c1 := hr2.c1
      have cx := ha5 pos x HX.out
      have ee : IntKind.i64.wrap ((q : Int) - 1) = (pos : Int) := by rw [show (q : Int) - 1 = (pos : Int) by omega]; exact IntWalk.i64_in _ (by omega)
      have hix := fun W => ha3 W (pos : Int) (by omega) (by omega)
      rw [show ((pos : Int)).toNat = pos by omega] at hix
      have HQ := Lib.hid hq
      have HR2 := Lib.hid hr2
      clear hr2 hq ha3 ha4 ha5
      go_quiet (fail)
      go_wp2
      go_ret
      refine ⟨?_, ?_, only_drewN hoo _⟩
      · rw [HR.out]; rfl
      · rw [HR.out, ← HQ.out]; exact HR2.out.below (below_drewN (Below.refl _ _) _)
  · have hR : rbyte l pos bad = (0, pos, bad) := by unfold rbyte; rw [if_pos hb]
    have HR := Lib.hid hR
    have HB := Lib.hid hb
    clear hR hb
    go_enter Try.func50, Try.ntmps50
    go_wp2_with fail
    refine (rok_no g _ l pos bad _ h HB.out).mono ?_
    rintro e w1 ⟨rfl, rfl⟩
    go_wp2
    go_ret
    refine ⟨?_, ?_, Only.refl _ _⟩
    · rw [HR.out]; rfl
    · rw [HR.out]; exact h

set_option maxRecDepth 100000 in
set_option maxHeartbeats 800000 in
theorem rrbyte_rd (g : Nat) (y : Value) (l : List UInt8) (pos bad : Nat) (w : World) (h : RRd w g y l pos bad) :
    Calls Try.prog 51 #[.pointer (some ⟨g, 0, none⟩)] w (RBytePost g y l pos bad w) := by
  obtain ⟨a, c, hs⟩ := h.src.shape
  subst hs
  have hle := h.le
  have hlen := h.src.len_eq
  by_cases hb : bad = 0
  · subst hb
    have c0 := h.c0
    have c1 := h.c1
    have c2 := h.c2
    by_cases hp : pos = l.length
    · have hR : rbyte l pos 0 = (0, pos, 10) := by unfold rbyte; rw [if_neg (by simp), if_pos hp]
      have HR := Lib.hid hR
      have hd : decide ((l.length : Nat) ≤ pos) = true := by simp; omega
      have e2 := h.f2
      have H := Lib.hid h
      clear hR hp
      go_enter Try.func51, Try.ntmps51
      go_wp2_with fail
      go_quiet (fail)
      go_wp2
      go_ret
      refine ⟨?_, ?_, only_drewN (set_only _ _ _ _) _⟩
      · rw [HR.out]; rfl
      · rw [HR.out]; exact (H.out.setBad 10).below (below_drewN (Below.refl _ _) _)
    · have hlt : pos < l.length := by omega
      obtain ⟨x, hx⟩ : ∃ x, l[pos]? = some x := ⟨_, List.getElem?_eq_getElem hlt⟩
      have hR : rbyte l pos 0 = (x, pos + 1, 0) := by unfold rbyte; rw [if_neg (by simp), if_neg hp, hx]; rfl
      have HR := Lib.hid hR
      have hd : decide ((l.length : Nat) ≤ pos) = false := by simp; omega
      have e1 := h.f1
      have H := Lib.hid h
      have HX := Lib.hid hx
      have ep : IntKind.i64.wrap ((pos : Int) + 1) = (pos : Int) + 1 := IntWalk.i64_in _ (by omega)
      clear hR hp hx h
      go_enter Try.func51, Try.ntmps51
      go_wp2_with fail
      go_quiet (fail)
      go_wp2_with fail
      obtain ⟨W2, hW2⟩ : ∃ W2, (w.drewN nq).setCell ⟨g, 1, none⟩ (.int .i64 ((pos : Int) + 1)) = W2 := ⟨_, rfl⟩
      rw [hW2]
      obtain ⟨q, hq⟩ : ∃ q, q = pos + 1 := ⟨_, rfl⟩
      have hr2 : RRd W2 g (.slice a l.length c) l q 0 := by
        rw [← hW2, hq]
        exact (H.out.setPos (pos + 1) (by omega)).below (below_drewN (Below.refl _ _) _)
      have hoo : Only (fun k => k = g) w W2 := by
        rw [← hW2]
        exact (only_drewN (Only.refl _ _) _).trans (set_only _ _ _ _)
      clear hW2 c0 c1 c2 e1 hd
      obtain ⟨a', c', adr, hs, ha1, ha2, ha3, ha4, ha5⟩ := Bs.open_ (P := Try.prog) elB hr2.src
      cases hs
      have c0 := hr2.c0
      have c1 := hr2.c1
      have cx := ha5 pos x HX.out
      have ee : IntKind.i64.wrap ((q : Int) - 1) = (pos : Int) := by rw [show (q : Int) - 1 = (pos : Int) by omega]; exact IntWalk.i64_in _ (by omega)
      have hix := fun W => ha3 W (pos : Int) (by omega) (by omega)
      rw [show ((pos : Int)).toNat = pos by omega] at hix
      have HQ := Lib.hid hq
      have HR2 := Lib.hid hr2
      clear hr2 hq ha3 ha4 ha5
      go_quiet (fail)
      go_wp2
      go_ret
      refine ⟨?_, ?_, only_drewN hoo _⟩
      · rw [HR.out]; rfl
      · rw [HR.out, ← HQ.out]; exact HR2.out.below (below_drewN (Below.refl _ _) _)
  · have hR : rbyte l pos bad = (0, pos, bad) := by unfold rbyte; rw [if_pos hb]
    have HR := Lib.hid hR
    have hb' : ((bad : Int) != 0) = true := by simp; omega
    have c2 := h.c2
    clear hR hb
    go_enter Try.func51, Try.ntmps51
    go_wp2
    go_ret
    refine ⟨?_, ?_, Only.refl _ _⟩
    · rw [HR.out]; rfl
    · rw [HR.out]; exact h


theorem raw_nil (cl : Value) (w : World) : Calls Try.prog 80 #[.pointer none, cl] w fun e w' => e = .returned (.tuple #[.int .u64 0, .bool false]) ∧ w = w' := by
  go_enter Try.func80, Try.ntmps80
  go_wp2_with fail
  refine (rok_nil _).mono ?_
  rintro e w1 ⟨rfl, rfl⟩
  go_wp2
  go_ret2
  exact ⟨rfl, rfl⟩

theorem rnumber_nil (most : Int) (w : World) : Calls Try.prog 46 #[.pointer none, .int .i64 most] w fun e w' => e = .returned (.int .i64 0) ∧ Below w.heap.size w w' := by
  go_enter Try.func46, Try.ntmps46
  go_wp2_with fail
  refine (raw_nil _ _).mono ?_
  rintro e w1 ⟨rfl, rfl⟩
  go_wp2
  go_ret
  exact ⟨rfl, (Below.refl _ _).alloc (Nat.le_refl _) _⟩

theorem rsigned_nil (most : Int) (w : World) : Calls Try.prog 48 #[.pointer none, .int .i64 most] w fun e w' => e = .returned (.int .i64 0) ∧ Below w.heap.size w w' := by
  go_enter Try.func48, Try.ntmps48
  go_wp2_with fail
  refine (raw_nil _ _).mono ?_
  rintro e w1 ⟨rfl, rfl⟩
  go_wp2_with fail
  refine (back_any 0 (by omega) _).mono ?_
  rintro e w1 ⟨rfl, rfl⟩
  go_wp2
  go_ret
  exact ⟨rfl, (Below.refl _ _).alloc (Nat.le_refl _) _⟩

theorem rbyte_nil (w : World) : Calls Try.prog 50 #[.pointer none] w fun e w' => e = .returned (.int .u8 0) ∧ Below w.heap.size w w' := by
  go_enter Try.func50, Try.ntmps50
  go_wp2_with fail
  refine (rok_nil _).mono ?_
  rintro e w1 ⟨rfl, rfl⟩
  go_wp2
  go_ret
  exact ⟨rfl, Below.refl _ _⟩

theorem rbytes_nil (most : Int) (w : World) : Calls Try.prog 52 #[.pointer none, .int .i64 most] w fun e w' => e = .returned (.slice none 0 0) ∧ Below w.heap.size w w' := by
  go_enter Try.func52, Try.ntmps52
  go_wp2_with fail
  refine (rnumber_nil _ _).mono ?_
  rintro e w1 ⟨rfl, hb1⟩
  go_wp2_with fail
  refine (rok_nil _).mono ?_
  rintro e w1 ⟨rfl, rfl⟩
  go_wp2
  go_ret
  exact ⟨rfl, hb1⟩

end Go.Proofs.Ytkgfcaoeldfbdaa
