/- RingR: RingR, RingO, RingX, RingA as one text. -/
import Derived.Test.YtjnbdeopoohnmaaGreatDoorRingS
import Derived.Test.YtjnbdeopoohnmaaGreatDoorBase
import Derived.StillTailTactics
import Derived.Deep.RegionLaw
/- Layer 9 (ring): the walk of Rotate. -/
set_option linter.unusedSimpArgs false
namespace Go.Proofs.YtjnbdeopoohnmaaGreatDoor
open Go.RowKit Go.Sort

end Go.Proofs.YtjnbdeopoohnmaaGreatDoor
/- Layer 9 (ring): the walk of Rotate that succeeds. -/
set_option linter.unusedSimpArgs false
namespace Go.Proofs.YtjnbdeopoohnmaaGreatDoor
open Go.RowKit Go.Sort

def RotPost (keep : Int) (l : List RK) (draw : List UInt8) (w : World) (e : Ending) (w' : World) : Prop :=
  ∃ v a c, e = .returned (.tuple #[.agg #[.int .i64 keep, v], .int .i64 0]) ∧ Ks w' v (rotl keep l ⟨epl l + 1, a, c, rkey draw (epl l + 1).toNat⟩) ∧ Below w.heap.size w w' ∧
    ∀ F : Nat → Prop, (∀ k, F k → k < w.heap.size) → (∀ x ∈ l, ∀ k, x.v.ownBlock = some k → ¬ F k) → KsOff F v (rotl keep l ⟨epl l + 1, a, c, rkey draw (epl l + 1).toNat⟩)

end Go.Proofs.YtjnbdeopoohnmaaGreatDoor
/- Layer 9 (ring): New and Rotate, whatever they are given. -/
set_option linter.unusedSimpArgs false
namespace Go.Proofs.YtjnbdeopoohnmaaGreatDoor
open Go.RowKit Go.Sort

theorem Ks.nil (w : World) : Ks w (.slice none 0 0) [] := ⟨Gs.nil w, fun k h => by simp at h, fun k h => by simp at h⟩

def NewBad (keep : Int) (draw : List UInt8) : Prop := keep < 1 ∨ 16 < keep ∨ draw.length ≠ 32
def NewPost (keep : Int) (draw : List UInt8) (w : World) (e : Ending) (w' : World) : Prop :=
  ∃ kp a n c er l2, e = .returned (.tuple #[.agg #[.int .i64 kp, .slice a n c], .int .i64 er]) ∧ Hid (Ks w' (.slice a n c) l2) ∧ Hid (Below w.heap.size w w') ∧
    Hid ((NewBad keep draw ∧ kp = 0 ∧ n = 0 ∧ er = 2 ∧ l2 = []) ∨ (¬ NewBad keep draw ∧ kp = keep ∧ n = 1 ∧ er = 0 ∧ (∃ a c, l2 = [⟨1, a, c, rkey draw 1⟩])))

/-- 0: it goes; 2, 3: why not -/
def RotE (keep : Int) (l : List RK) (draw : List UInt8) (er : Int) : Prop :=
  (er = 2 ∧ (¬ RP keep l ∨ draw.length ≠ 32)) ∨ (er = 3 ∧ RP keep l ∧ draw.length = 32 ∧ epl l = 1048576) ∨ (er = 0 ∧ RP keep l ∧ draw.length = 32 ∧ epl l ≠ 1048576)
def RotAll (keep : Int) (l : List RK) (draw : List UInt8) (w : World) (e : Ending) (w' : World) : Prop :=
  ∃ kp a n c er l2, e = .returned (.tuple #[.agg #[.int .i64 kp, .slice a n c], .int .i64 er]) ∧ Hid (Ks w' (.slice a n c) l2) ∧ Hid (Below w.heap.size w w') ∧ Hid (RotE keep l draw er) ∧
    Hid ((er ≠ 0 → kp = 0 ∧ n = 0 ∧ l2 = []) ∧ (er = 0 → kp = keep ∧ (∃ a c, l2 = rotl keep l ⟨epl l + 1, a, c, rkey draw (epl l + 1).toNat⟩) ∧ ∀ F : Nat → Prop, (∀ k, F k → k < w.heap.size) → (∀ x ∈ l, ∀ k, x.v.ownBlock = some k → ¬ F k) → KsOff F (.slice a n c) l2))

end Go.Proofs.YtjnbdeopoohnmaaGreatDoor
/- Layer 9 (ring): the walk of awake. -/
set_option linter.unusedSimpArgs false
namespace Go.Proofs.YtjnbdeopoohnmaaGreatDoor
open Go.RowKit Go.Sort

def z32 : List UInt8 := List.replicate 32 0
theorem z32_len : z32.length = 32 := rfl
theorem ob_made32 (W : World) : Ob (W.alloc (.cells (rowb 32 fun _ => 0) 5)) W.heap.size 5 (.slice (some ⟨W.heap.size, 0, none⟩) 32 32) z32 :=
  ob_lit W 5 (rowb 32 fun _ => 0) z32 32 rfl (by decide) rfl

theorem Rd.lt {w : World} {s n : Nat} {v : Value} {xs : List Value} (h : Rd w s v n xs) (hn : n ≠ 0) : ∀ k, v.ownBlock = some k → k < w.heap.size := by
  obtain ⟨_, a, c, rfl, _, _, _, h5⟩ := h
  intro k hk
  rcases h5 with h5 | ⟨b, off, rfl, hlt, _⟩
  · exact absurd h5 hn
  · simp only [Value.ownBlock, Option.some.injEq] at hk
    omega
/-- what lies behind the world's end is not read -/
theorem RP.off {F : Nat → Prop} {w : World} {v : Value} {keep : Int} {l : List RK} (hp : RP keep l) (h : Ks w v l) (hF : ∀ k, F k → w.heap.size ≤ k) : KsOff F v l := by
  refine ⟨fun k hk hf => ?_, fun x hx k hk hf => ?_⟩
  · have := Rd.lt h.g (by have := hp.2.2.1; omega) k hk
    have := hF k hf
    omega
  · obtain ⟨i, hi, hix⟩ := List.getElem_of_mem hx
    have hb := (hp.2.2.2.2.2.2 i x (by rw [List.getElem?_eq_getElem hi, hix])).1
    have := Rd.lt (h.b x hx) (by omega) k hk
    have := hF k hf
    omega
theorem rp_one {keep : Int} (h1 : 1 ≤ keep) (h2 : keep ≤ 16) (a : Option Addr) (c : Nat) (b : List UInt8) (hb : b.length = 32) : RP keep [⟨1, a, c, b⟩] := by
  refine ⟨h1, h2, by simp, by simpa using h1, by show (1 : Int) ≤ 1; omega, by show (1 : Int) + _ ≤ _; simp, fun i k hk => ?_⟩
  match i with
  | 0 => simp at hk; subst hk; exact ⟨hb, rfl⟩
  | i + 1 => simp at hk

/-- a ring behind a pointer that is right and has these keys -/
structure RAt (w wr : World) (keep : Int) (g : Nat) (v : Value) (l : List RK) : Prop where
  row : wr.heap[g]? = some (.cells #[.int .i64 keep, v] 24 (0, 0))
  ks : Ks wr v l
  off : KsOff (fun i => i = g) v l
  bel : Below w.heap.size w wr
  fresh : w.heap.size ≤ g

theorem RAt.put {w wr W2 : World} {keep keep2 : Int} {g : Nat} {v v2 : Value} {l l2 : List RK} (h : RAt w wr keep g v l) (hb : Below wr.heap.size wr W2) (hk : Ks W2 v2 l2) (ho : KsOff (fun i => i = g) v2 l2) :
    RAt w (W2.setRow g #[.int .i64 keep2, v2]) keep2 g v2 l2 := by
  have hO : Only (fun i => i = g) W2 (W2.setRow g #[.int .i64 keep2, v2]) := setRow_only _ _ _
  have hB2 := bel_tr h.bel hb
  have hfr := h.fresh
  exact ⟨setRow_heap W2 g _ _ _ _ ((hb.block _ (heap_lt h.row)).trans h.row), hk.only ho hO, ho, hB2.trans (hO.below (fun i hi => by omega) hB2.size), h.fresh⟩

def R2 (k : Nat) (l : List RK) : Prop := RP 2 l ∧ epl l = k + 1 ∧ l.length = min 2 (k + 1)
theorem R2.step {k : Nat} {l : List RK} (h : R2 k l) (hk : k < 1000) (a : Option Addr) (c : Nat) (b : List UInt8) (hb : b.length = 32) : R2 (k + 1) (rotl 2 l ⟨epl l + 1, a, c, b⟩) := by
  obtain ⟨hrp, hep, hlen⟩ := h
  refine ⟨rot_rp hrp hb rfl (by omega), ?_, ?_⟩
  · rw [rot_epl hrp]
    show epl l + 1 = _
    omega
  · rw [rot_len]
    omega

end Go.Proofs.YtjnbdeopoohnmaaGreatDoor
