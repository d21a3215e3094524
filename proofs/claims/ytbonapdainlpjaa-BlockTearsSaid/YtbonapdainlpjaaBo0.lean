/- Slices of the operations of layer 34's statement, that are read. -/
import Derived.Test.YtbonapdainlpjaaVarint
namespace Go.Proofs.Ytbonapdainlpjaa
open Go.RowKit

structure BOp where
  k : Int
  n : Int
  m : Int
  v : Value
  b : List UInt8

def BOp.cells (s : BOp) : List Value := [.int .i64 s.k, .int .i64 s.n, .int .i64 s.m, s.v]
def bocells (l : List BOp) : List Value := l.flatMap BOp.cells

theorem bocells_get (l : List BOp) : ∀ (i j : Nat) (s : BOp), l[i]? = some s → j < 4 → (bocells l)[i * 4 + j]? = s.cells[j]? := by
  induction l with
  | nil => intro i j s h; simp at h
  | cons a l ih =>
    intro i j s h hj
    have e : bocells (a :: l) = a.cells ++ bocells l := rfl
    rw [e]
    cases i with
    | zero =>
      simp at h
      subst h
      rw [Nat.zero_mul, Nat.zero_add, List.getElem?_append_left (by simp [BOp.cells]; omega)]
    | succ i =>
      rw [List.getElem?_append_right (by simp [BOp.cells]; omega)]
      have : (i + 1) * 4 + j - a.cells.length = i * 4 + j := by simp [BOp.cells]; omega
      rw [this]
      exact ih i j s (by simpa using h) hj

def BoWf (s : BOp) : Prop := (-9223372036854775808 ≤ s.k ∧ s.k ≤ 9223372036854775807) ∧ (-9223372036854775808 ≤ s.n ∧ s.n ≤ 9223372036854775807) ∧ (-9223372036854775808 ≤ s.m ∧ s.m ≤ 9223372036854775807)
/-- fields that are read -/
def Bos (w : World) (v : Value) (l : List BOp) : Prop := Rd w 4 v l.length (bocells l) ∧ ∀ (i : Nat) (s : BOp), l[i]? = some s → Bs w s.v s.b ∧ BoWf s

theorem Bos.below {w w' : World} {v : Value} {l : List BOp} (h : Bos w v l) (hb : Below w.heap.size w w') : Bos w' v l :=
  ⟨h.1.below hb, fun i s hi => ⟨(h.2 i s hi).1.below hb, (h.2 i s hi).2⟩⟩

theorem info_fld : (Try.prog.info? 45).map (fun i => (i.zero, i.size, i.bytes)) = some (some (.agg #[.int .i64 0, .int .i64 0, .int .i64 0, .slice none 0 0]), 4, 48) := by kernel_rfl
theorem elBo : ElTy Try.prog 36 45 (.agg #[.int .i64 0, .int .i64 0, .int .i64 0, .slice none 0 0]) 4 48 := ⟨Try.underlying36, info_parts info_fld, rfl, by decide⟩

theorem Bos.open_n {w : World} {v : Value} {l : List BOp} (h : Bos w v l) (n : Nat) (hn : l.length = n) :
    ∃ a c b, ∃ o : Nat → Nat, v = .slice a n c ∧ n ≤ c ∧ c ≤ 9223372036854775807 ∧
      (∀ (W : World) (i : Int), 0 ≤ i → i < n → (Instr.indexAt 36 (.slice a n c) (.int .i64 i)).run Try.prog W = .ok (.pointer (some ⟨b, o i.toNat, none⟩)) W) ∧
      (∀ i, i < n → b < w.heap.size) ∧
      (∀ i s, l[i]? = some s → w.cell? ⟨b, o i, none⟩ = some (.int .i64 s.k) ∧ w.cell? ⟨b, o i + 1, none⟩ = some (.int .i64 s.n) ∧ w.cell? ⟨b, o i + 2, none⟩ = some (.int .i64 s.m) ∧ w.cell? ⟨b, o i + 3, none⟩ = some s.v) := by
  subst hn
  obtain ⟨⟨h1, a, c, rfl, h2, h3, h4, h5⟩, _⟩ := h
  have h3' : c ≤ 9223372036854775807 := by simpa [maxLen] using h3
  rcases h5 with h0 | ⟨b, off, rfl, hlt, hc⟩
  · refine ⟨a, c, 0, fun _ => 0, rfl, h2, h3', fun _ _ h0' hi => by omega, fun i hi => by omega, fun i s hi => ?_⟩
    have := (List.getElem?_eq_some_iff.1 hi).1
    omega
  · refine ⟨_, c, b, fun i => off + i * 4, rfl, h2, h3', ?_, fun i hi => hlt, fun i s hi => ?_⟩
    · intro W i h0 hi
      have hu : Try.prog.elem 36 = 45 := by kernel_rfl
      rw [run_indexAt_slice W 36 _ l.length c .i64 i (by rw [hu]; exact Try.underlying36), if_pos ⟨h0, hi⟩, hu, elBo.sizeOf]
      simp [Result.andThen, Addr.add_lit]
    · refine ⟨?_, ?_, ?_, ?_⟩
      · have := hc _ _ (bocells_get l i 0 s hi (by omega)); simpa using this
      · have := hc _ _ (bocells_get l i 1 s hi (by omega)); rw [← Nat.add_assoc] at this; simpa using this
      · have := hc _ _ (bocells_get l i 2 s hi (by omega)); rw [← Nat.add_assoc] at this; simpa using this
      · have := hc _ _ (bocells_get l i 3 s hi (by omega)); rw [← Nat.add_assoc] at this; simpa using this

end Go.Proofs.Ytbonapdainlpjaa
