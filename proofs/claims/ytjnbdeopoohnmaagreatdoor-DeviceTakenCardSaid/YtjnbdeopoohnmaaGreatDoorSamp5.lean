/- The plain law of bytes as samples; what a round of taking stands on. No function of the program stands here. -/
import Derived.Test.YtjnbdeopoohnmaaGreatDoorSmp0
import Derived.Test.YtjnbdeopoohnmaaGreatDoorRspec
import Derived.Test.YtjnbdeopoohnmaaGreatDoorBase
namespace Go.Proofs.YtjnbdeopoohnmaaGreatDoor
open Go.RowKit

def snext (a : Smp) (t x y : Int) : Smp := ⟨a.t + t, a.x + x, a.y + y⟩
def sgo (l : List UInt8) : Nat → Nat → Smp → Nat → List Smp → List Smp × Nat × Nat
  | 0, _, _, pos, acc => (acc, pos, 0)
  | m + 1, i, a, pos, acc =>
    let t := rnum 1099511627776 l pos 0
    let x := rsig 67108864 l t.2.1 t.2.2
    let y := rsig 67108864 l x.2.1 x.2.2
    if y.2.2 ≠ 0 then ([], 0, y.2.2)
    else if mayB (snext a t.1 (vback x.1) (vback y.1)) = false ∨ (0 < i ∧ t.1 = 0) then ([], 0, 2)
    else sgo l m (i + 1) (snext a t.1 (vback x.1) (vback y.1)) y.2.1 (acc ++ [snext a t.1 (vback x.1) (vback y.1)])
def stake (l : List UInt8) (n : Int) : List Smp × Nat × Nat := if n < 0 ∨ 2048 < n then ([], 0, 3) else sgo l n.toNat 0 szero 0 []

theorem rraw_ok (may : Nat → Bool) (l : List UInt8) (pos bad : Nat) (h : (rraw may l pos bad).2.2 = 0) : bad = 0 ∧ (rraw may l pos bad).2.1 = pos + (vput (rraw may l pos bad).1).length := by
  unfold rraw at *
  split at h
  · next hb => exact absurd h hb
  · next hb =>
    rw [if_neg hb]
    split at h
    · next hf => exact absurd h hf
    · next hf =>
      rw [if_neg hf]
      split at h
      · next hm =>
        rw [if_pos hm]
        obtain ⟨h1, h2, h3, h4⟩ := vtake_good (l.drop pos) (by omega)
        refine ⟨by omega, ?_⟩
        simp only
        rw [h4, List.length_take]
        omega
      · simp at h

theorem rraw_some (may : Nat → Bool) (l : List UInt8) (pos bad : Nat) (h : bad ≠ 0) : rraw may l pos bad = (0, pos, bad) := by unfold rraw; rw [if_pos h]

/-- three that were read well -/
theorem three_ok {l : List UInt8} {pos : Nat} {n1 p1 b1 n2 p2 b2 n3 p3 b3 : Nat} (h1 : rnum 1099511627776 l pos 0 = (n1, p1, b1)) (h2 : rsig 67108864 l p1 b1 = (n2, p2, b2)) (h3 : rsig 67108864 l p2 b2 = (n3, p3, b3)) (hb : b3 = 0) :
    b1 = 0 ∧ b2 = 0 ∧ p1 = pos + (vput n1).length ∧ p2 = p1 + (vput n2).length ∧ p3 = p2 + (vput n3).length ∧ n1 ≤ 1099511627776 ∧ (-67108864 ≤ vback n2 ∧ vback n2 ≤ 67108864) ∧ (-67108864 ≤ vback n3 ∧ vback n3 ≤ 67108864) := by
  have k3 := rraw_ok (mayS 67108864) l p2 b2 (by have := h3; unfold rsig at this; rw [this]; exact hb)
  have k2 := rraw_ok (mayS 67108864) l p1 b1 (by have := h2; unfold rsig at this; rw [this]; exact k3.1)
  have k1 := rraw_ok (mayN 1099511627776) l pos 0 (by have := h1; unfold rnum at this; rw [this]; exact k2.1)
  have m3 := (rsig_most 67108864 l p2 b2).2 (by rw [h3]; exact hb)
  have m2 := (rsig_most 67108864 l p1 b1).2 (by rw [h2]; exact k3.1)
  have m1 := (rnum_most 1099511627776 l pos 0).2 (by rw [h1]; exact k2.1)
  unfold rnum at h1
  unfold rsig at h2 h3
  rw [h1] at k1
  rw [h2] at k2
  rw [h3] at k3
  unfold rnum at m1
  unfold rsig at m2 m3
  rw [h1] at m1
  rw [h2] at m2
  rw [h3] at m3
  simp only at k1 k2 k3 m1 m2 m3
  exact ⟨k2.1, k3.1, k1.2, k2.2, k3.2, by omega, ⟨by omega, by omega⟩, ⟨by omega, by omega⟩⟩

theorem sgo_bad {l : List UInt8} {m i pos : Nat} {a : Smp} {acc : List Smp} {n1 p1 b1 n2 p2 b2 n3 p3 b3 : Nat} (h1 : rnum 1099511627776 l pos 0 = (n1, p1, b1)) (h2 : rsig 67108864 l p1 b1 = (n2, p2, b2)) (h3 : rsig 67108864 l p2 b2 = (n3, p3, b3)) :
    sgo l (m + 1) i a pos acc = if b3 ≠ 0 then ([], 0, b3) else if mayB (snext a n1 (vback n2) (vback n3)) = false ∨ (0 < i ∧ n1 = 0) then ([], 0, 2) else sgo l m (i + 1) (snext a n1 (vback n2) (vback n3)) p3 (acc ++ [snext a n1 (vback n2) (vback n3)]) := by
  simp only [sgo, h1, h2, h3]

theorem own_only {F : Nat → Prop} {w w' : World} {B e s n : Nat} {v : Value} {xs : List Value} (h : w.ownsRow B e s v n xs) (ho : Only F w w') (hd : ∀ k, v.ownBlock = some k → ¬ F k) : w'.ownsRow B e s v n xs := by
  refine ⟨h.1, ?_⟩
  rcases h.2 with h2 | ⟨g, cap, cur, rfl, hb, hg, r⟩
  · exact .inl h2
  · refine .inr ⟨g, cap, cur, rfl, hb, ?_, r⟩
    rw [ho.block g (Array.getElem?_eq_some_iff.1 hg).1 (hd g rfl)]
    exact hg

/-- what a round of taking stands on: a reader R, the sample ahead in block A, samples of the call's own behind it -/
structure TK (w : World) (A : Nat) (R : Nat → World → Prop) (pos : Nat) (p : Smp) (v : Value) (out : List Smp) (W : World) : Prop where
  low : w.heap.size ≤ A
  rd : R pos W
  blk : W.heap[A]? = some (.cells #[.int .i64 p.t, .int .i64 p.x, .int .i64 p.y] 55 (0, 0))
  os : Os W (A + 1) 55 v out
  bel : Below w.heap.size w W

/-- R does not mind what happens from A on -/
def Abide (A : Nat) (R : Nat → World → Prop) : Prop := ∀ (pos : Nat) (W W' : World), R pos W → Below A W W' → R pos W'

section
variable {w W W' : World} {A pos pos' : Nat} {R : Nat → World → Prop} {p p' : Smp} {v v' : Value} {out out' : List Smp}
theorem TK.lt (h : TK w A R pos p v out W) : A < W.heap.size := heap_lt h.blk
theorem TK.below (h : TK w A R pos p v out W) (hR : Abide A R) (hb : Below W.heap.size W W') : TK w A R pos p v out W' :=
  ⟨h.low, hR _ _ _ h.rd (hb.mono (Nat.le_of_lt h.lt)), (hb.block A h.lt).trans h.blk, h.os.below hb, h.bel.trans (hb.mono h.bel.size)⟩
theorem TK.read {g : Nat} (h : TK w A R pos p v out W) (hg : g < A) (hg2 : w.heap.size ≤ g) (hr : R pos' W') (ho : Only (fun k => k = g) W W') : TK w A R pos' p v out W' :=
  ⟨h.low, hr, (ho.block A h.lt (by omega)).trans h.blk, own_only h.os ho (fun k hk e => by have := (World.ownsRow.lt h.os k hk).1; omega), h.bel.trans (ho.below (fun k hk => by omega) h.bel.size)⟩
theorem TK.app (h : TK w A R pos p v out W) (hR : Abide A R) (ho : Os W' (A + 1) 55 v' out') (hb : Below (A + 1) W W') : TK w A R pos p v' out' W' :=
  ⟨h.low, hR _ _ _ h.rd (hb.mono (by omega)), (hb.block A (by omega)).trans h.blk, ho, h.bel.trans (hb.mono (by have := h.low; omega))⟩
theorem TK.c0 (h : TK w A R pos p v out W) : W.cell? ⟨A, 0, none⟩ = some (.int .i64 p.t) := cell_of_row W _ 0 _ _ _ h.blk
theorem TK.c1 (h : TK w A R pos p v out W) : W.cell? ⟨A, 1, none⟩ = some (.int .i64 p.x) := cell_of_row W _ 1 _ _ _ h.blk
theorem TK.c2 (h : TK w A R pos p v out W) : W.cell? ⟨A, 2, none⟩ = some (.int .i64 p.y) := cell_of_row W _ 2 _ _ _ h.blk
theorem TK.free (h : TK w A R pos p v out W) (i : Nat) : W.frozen? ⟨A, i, none⟩ = false := row_free h.blk i
theorem TK.set (h : TK w A R pos p v out W) (hR : Abide A R) (s : Smp) : TK w A R pos s v out (((W.setCell ⟨A, 0, none⟩ (.int .i64 s.t)).setCell ⟨A, 1, none⟩ (.int .i64 s.x)).setCell ⟨A, 2, none⟩ (.int .i64 s.y)) := by
  have b1 := row_setCell h.blk 0 (.int .i64 s.t)
  have b2 := row_setCell b1 1 (.int .i64 s.x)
  have b3 := row_setCell b2 2 (.int .i64 s.y)
  have hO : Only (fun k => k = A) W (((W.setCell ⟨A, 0, none⟩ (.int .i64 s.t)).setCell ⟨A, 1, none⟩ (.int .i64 s.x)).setCell ⟨A, 2, none⟩ (.int .i64 s.y)) := ((set_only _ _ _ _).trans (set_only _ _ _ _)).trans (set_only _ _ _ _)
  have hlt := h.lt
  have hB : Below A W (((W.setCell ⟨A, 0, none⟩ (.int .i64 s.t)).setCell ⟨A, 1, none⟩ (.int .i64 s.x)).setCell ⟨A, 2, none⟩ (.int .i64 s.y)) := hO.below (fun k hk => by omega) (by omega)
  exact ⟨h.low, hR _ _ _ h.rd hB, b3, own_only h.os hO (fun k hk e => by have := (World.ownsRow.lt h.os k hk).1; omega), h.bel.trans (hB.mono h.low)⟩
end

def STakePost (l : List UInt8) (n : Int) (w : World) (e : Ending) (w' : World) : Prop :=
  ∃ v, e = .returned (.tuple #[v, .int .i64 ((stake l n).2.1 : Int), .int .i64 ((stake l n).2.2 : Int)]) ∧ Ss w' v (stake l n).1 ∧ Below w.heap.size w w'

end Go.Proofs.YtjnbdeopoohnmaaGreatDoor
