/- Pieces of a slice, as values without a shape: a rewrite rule each, so that the walk never parts on where a piece lies. -/
import Derived.Test.YtmhgdddnjnichaaDoorFoot
namespace Go.Proofs.YtmhgdddnjnichaaDoor
open Go.RowKit

section
variable {w : World} {P : Program} {t e : TypeId} {z : Value} {bytes : Nat} {a : Option Addr} {n c : Nat} {l : List UInt8}

theorem Bs.len_eq (h : Bs w (.slice a n c) l) : n = l.length ∧ n ≤ c ∧ c ≤ 9223372036854775807 := by
  obtain ⟨_, a', c', he, h2, h3, _⟩ := h
  simp only [Value.slice.injEq] at he
  obtain ⟨_, rfl, rfl⟩ := he
  exact ⟨rfl, h2, by simpa [maxLen] using h3⟩

theorem Bs.piece (E : ElTy P t e z 1 bytes) (h : Bs w (.slice a n c) l) (lo hi : Nat) (h1 : lo ≤ hi) (h2 : hi ≤ l.length) :
    ∃ Y, (∀ W : World, (Instr.sliceAt t (.slice a n c) (some (.int .i64 (lo : Int))) (some (.int .i64 (hi : Int))) none).run P W = .ok Y W) ∧ Bs w Y ((l.drop lo).take (hi - lo)) := by
  have hT := E.1
  have hel : P.elem t = e := by simp [Program.elem, hT]
  have hs := E.sizeOf
  obtain ⟨hn, hc, _⟩ := h.len_eq
  refine ⟨_, fun W => ?_, h.cut lo hi h1 h2⟩
  rw [run_sliceAt_slice (h := by rw [hel]; exact hT), run_slice_lh (ht := by rw [hel]; exact hT) (h0 := by omega) (h1 := by omega) (h2 := by omega), hel, hs]
  simp [Result.andThen, sliced]

theorem Bs.from (E : ElTy P t e z 1 bytes) (h : Bs w (.slice a n c) l) (lo : Nat) (h1 : lo ≤ l.length) :
    ∃ Y, (∀ W : World, (Instr.sliceAt t (.slice a n c) (some (.int .i64 (lo : Int))) none none).run P W = .ok Y W) ∧ Bs w Y (l.drop lo) := by
  have hT := E.1
  have hel : P.elem t = e := by simp [Program.elem, hT]
  have hs := E.sizeOf
  obtain ⟨hn, hc, _⟩ := h.len_eq
  refine ⟨_, fun W => ?_, h.drop lo h1⟩
  rw [run_sliceAt_slice (h := by rw [hel]; exact hT), run_slice_l (ht := by rw [hel]; exact hT) (h0 := by omega) (h1 := by omega), hel, hs]
  simp [Result.andThen, sliced, hn]

theorem Bs.upto (E : ElTy P t e z 1 bytes) (h : Bs w (.slice a n c) l) (hi : Nat) (h1 : hi ≤ l.length) :
    ∃ Y, (∀ W : World, (Instr.sliceAt t (.slice a n c) none (some (.int .i64 (hi : Int))) none).run P W = .ok Y W) ∧ Bs w Y (l.take hi) := by
  have hT := E.1
  have hel : P.elem t = e := by simp [Program.elem, hT]
  have hs := E.sizeOf
  obtain ⟨hn, hc, _⟩ := h.len_eq
  refine ⟨_, fun W => ?_, h.take hi h1⟩
  rw [run_sliceAt_slice (h := by rw [hel]; exact hT), run_slice_h (ht := by rw [hel]; exact hT) (h0 := by omega) (h2 := by omega), hel, hs]
  simp [Result.andThen, sliced, Addr.add_zero']
end

end Go.Proofs.YtmhgdddnjnichaaDoor
