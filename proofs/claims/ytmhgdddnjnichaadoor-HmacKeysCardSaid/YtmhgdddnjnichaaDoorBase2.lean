/- More small laws: bytes of the call's own, opened and stored into. -/
import Derived.Test.YtmhgdddnjnichaaDoorBase
namespace Go.Proofs.YtmhgdddnjnichaaDoor
open Go.RowKit

theorem Ob.open_ {w : World} {B e : Nat} {v : Value} {l : List UInt8} (h : Ob w B e v l) (hl : 0 < l.length) :
    ∃ g c, v = .slice (some ⟨g, 0, none⟩) l.length c ∧ l.length ≤ c ∧ c ≤ 9223372036854775807 ∧ B ≤ g ∧ g < w.heap.size ∧
      (∀ i x, l[i]? = some x → w.cell? ⟨g, i, none⟩ = some (.int .u8 x.toNat)) ∧ (∀ i, w.frozen? ⟨g, i, none⟩ = false) := by
  have h' := h
  obtain ⟨h1, h2⟩ := h'
  rcases h2 with ⟨rfl, h2⟩ | ⟨g, c, cur, rfl, hg, hh, hn, hm, hs, ht⟩
  · omega
  · refine ⟨g, c, rfl, hn, by simpa [maxLen] using hm, hg, (Array.getElem?_eq_some_iff.1 hh).1, fun i x hx => ?_, fun i => World.ownsRow.frozenAt h i⟩
    have hi := (List.getElem?_eq_some_iff.1 hx).1
    rw [World.ownsRow.cellAt h i (by omega)]
    simp [hx, bv]

theorem Ob.set {w : World} {B e g c n : Nat} {l : List UInt8} (h : Ob w B e (.slice (some ⟨g, 0, none⟩) n c) l) (i : Nat) (x : UInt8) :
    Ob (w.setCell ⟨g, i, none⟩ (.int .u8 x.toNat)) B e (.slice (some ⟨g, 0, none⟩) n c) (l.set i x) := by
  have hn : n = l.length := by
    rcases h.2 with ⟨h', _⟩ | ⟨_, _, _, h', _⟩
    · simp at h'
    · simp only [Value.slice.injEq] at h'
      exact h'.2.1
  subst hn
  have := (World.ownsRow.stored h i (bv x)).1
  unfold Ob
  show World.ownsRow (w.setCell _ (bv x)) _ _ _ _ _ _
  simpa [List.map_set] using this

theorem Ob.below {w w' : World} {B e : Nat} {v : Value} {l : List UInt8} (h : Ob w B e v l) (hb : Below w.heap.size w w') : Ob w' B e v l := by
  refine World.ownsRow.kept (row := none) h ⟨hb.os, hb.tape, hb.output, hb.size, fun k hk _ => hb.block k hk⟩ ?_
  cases hv : v.ownBlock <;> simp

theorem Ob.drew {w : World} {B e : Nat} {v : Value} {l : List UInt8} (h : Ob w B e v l) : Ob w.drew B e v l := h.below (Below.refl _ _).drew
theorem Ob.drewN {w : World} {B e : Nat} {v : Value} {l : List UInt8} (h : Ob w B e v l) (k : Nat) : Ob (w.drewN k) B e v l := h.below (below_drewN (Below.refl _ _) k)
theorem Ob.alloc {w : World} {B e : Nat} {v : Value} {l : List UInt8} (h : Ob w B e v l) (o : Obj) : Ob (w.alloc o) B e v l := h.below ((Below.refl _ _).alloc (Nat.le_refl _) o)
theorem Ob.mono {w : World} {B B' e : Nat} {v : Value} {l : List UInt8} (h : Ob w B e v l) (hB : B' ≤ B) : Ob w B' e v l := by
  refine ⟨h.1, ?_⟩
  rcases h.2 with h2 | ⟨g, c, cur, h1, h2, r⟩
  · exact .inl h2
  · exact .inr ⟨g, c, cur, h1, by omega, r⟩

end Go.Proofs.YtmhgdddnjnichaaDoor
