/- Slices of the statement's fields (of layer 3) that are read. -/
import Derived.Test.YtkgfcaoeldfbdaaWriter
namespace Go.Proofs.Ytkgfcaoeldfbdaa
open Go.RowKit

structure Fld where
  k : Int
  n : Int
  m : Int
  v : Value
  b : List UInt8

def Fld.cells (s : Fld) : List Value := [.int .i64 s.k, .int .i64 s.n, .int .i64 s.m, s.v]
def fcells (l : List Fld) : List Value := l.flatMap Fld.cells

theorem fcells_get (l : List Fld) : ∀ (i j : Nat) (s : Fld), l[i]? = some s → j < 4 → (fcells l)[i * 4 + j]? = s.cells[j]? := by
  induction l with
  | nil => intro i j s h; simp at h
  | cons a l ih =>
    intro i j s h hj
    have e : fcells (a :: l) = a.cells ++ fcells l := rfl
    rw [e]
    cases i with
    | zero =>
      simp at h
      subst h
      rw [Nat.zero_mul, Nat.zero_add, List.getElem?_append_left (by simp [Fld.cells]; omega)]
    | succ i =>
      rw [List.getElem?_append_right (by simp [Fld.cells]; omega)]
      have : (i + 1) * 4 + j - a.cells.length = i * 4 + j := by simp [Fld.cells]; omega
      rw [this]
      exact ih i j s (by simpa using h) hj

def FWf (s : Fld) : Prop := (-9223372036854775808 ≤ s.k ∧ s.k ≤ 9223372036854775807) ∧ (-9223372036854775808 ≤ s.n ∧ s.n ≤ 9223372036854775807) ∧ (-9223372036854775808 ≤ s.m ∧ s.m ≤ 9223372036854775807)
/-- fields that are read -/
def Fs (w : World) (v : Value) (l : List Fld) : Prop := Rd w 4 v l.length (fcells l) ∧ ∀ (i : Nat) (s : Fld), l[i]? = some s → Bs w s.v s.b ∧ FWf s

theorem Fs.below {w w' : World} {v : Value} {l : List Fld} (h : Fs w v l) (hb : Below w.heap.size w w') : Fs w' v l :=
  ⟨h.1.below hb, fun i s hi => ⟨(h.2 i s hi).1.below hb, (h.2 i s hi).2⟩⟩

theorem info_fld : (Try.prog.info? 66).map (fun i => (i.zero, i.size, i.bytes)) = some (some (.agg #[.int .i64 0, .int .i64 0, .int .i64 0, .slice none 0 0]), 4, 48) := by kernel_rfl
theorem elF : ElTy Try.prog 53 66 (.agg #[.int .i64 0, .int .i64 0, .int .i64 0, .slice none 0 0]) 4 48 := ⟨Try.underlying53, info_parts info_fld, rfl, by decide⟩

theorem Fs.open_n {w : World} {v : Value} {l : List Fld} (h : Fs w v l) (n : Nat) (hn : l.length = n) :
    ∃ a c b, ∃ o : Nat → Nat, v = .slice a n c ∧ n ≤ c ∧ c ≤ 9223372036854775807 ∧
      (∀ (W : World) (i : Int), 0 ≤ i → i < n → (Instr.indexAt 53 (.slice a n c) (.int .i64 i)).run Try.prog W = .ok (.pointer (some ⟨b, o i.toNat, none⟩)) W) ∧
      (∀ i, i < n → b < w.heap.size) ∧
      (∀ i s, l[i]? = some s → w.cell? ⟨b, o i, none⟩ = some (.int .i64 s.k) ∧ w.cell? ⟨b, o i + 1, none⟩ = some (.int .i64 s.n) ∧ w.cell? ⟨b, o i + 2, none⟩ = some (.int .i64 s.m) ∧ w.cell? ⟨b, o i + 3, none⟩ = some s.v) := by
  subst hn
  obtain ⟨⟨h1, a, c, rfl, h2, h3, h4, h5⟩, _⟩ := h
  have h3' : c ≤ 9223372036854775807 := by simpa [maxLen] using h3
  rcases h5 with h0 | ⟨b, off, rfl, hlt, hc⟩
  · refine ⟨a, c, 0, fun _ => 0, rfl, h2, h3', fun _ _ h0' hi => by omega, fun i hi => by omega, fun i s hi => ?_⟩
    have := (List.getElem?_eq_some_iff.1 hi).1
    omega
  · refine ⟨_, c, b, fun i => off + i * 4, rfl, h2, h3', ?_, fun i hi => hlt, fun i s hi => ?_⟩
    · intro W i h0 hi
      have hu : Try.prog.elem 53 = 66 := by kernel_rfl
      rw [run_indexAt_slice W 53 _ l.length c .i64 i (by rw [hu]; exact Try.underlying53), if_pos ⟨h0, hi⟩, hu, elF.sizeOf]
      simp [Result.andThen, Addr.add_lit]
    · refine ⟨?_, ?_, ?_, ?_⟩
      · have := hc _ _ (fcells_get l i 0 s hi (by omega)); simpa using this
      · have := hc _ _ (fcells_get l i 1 s hi (by omega)); rw [← Nat.add_assoc] at this; simpa using this
      · have := hc _ _ (fcells_get l i 2 s hi (by omega)); rw [← Nat.add_assoc] at this; simpa using this
      · have := hc _ _ (fcells_get l i 3 s hi (by omega)); rw [← Nat.add_assoc] at this; simpa using this

/-- what a field is as bytes -/
def fput (s : Fld) : List UInt8 :=
  if s.k = 1 then vput s.n.toNat else if s.k = 2 then vput (vturn s.n).toNat else if s.k = 3 then [UInt8.ofNat (s.n % 256).toNat] else if s.k = 4 then vput s.b.length ++ s.b else []
def fputs (l : List Fld) : List UInt8 := l.flatMap fput

theorem fput_len (s : Fld) (h : FWf s) (hb : s.b.length ≤ 300) : (fput s).length ≤ 310 := by
  have h1 := vput_len10 s.n.toNat (by unfold FWf at h; omega)
  have hr := vturn_range s.n h.2.1.1 h.2.1.2
  have h2 := vput_len10 (vturn s.n).toNat (by omega)
  have h3 := vput_len10 s.b.length (by omega)
  unfold fput
  split
  · omega
  · split
    · omega
    · split
      · simp
      · split
        · simp; omega
        · simp

theorem fputs_len (l : List Fld) (h : ∀ s ∈ l, FWf s ∧ s.b.length ≤ 300) : (fputs l).length ≤ l.length * 310 := by
  induction l with
  | nil => simp [fputs]
  | cons a l ih =>
    have h1 := fput_len a (h a (by simp)).1 (h a (by simp)).2
    have h2 := ih fun s hs => h s (by simp [hs])
    simp only [fputs, List.flatMap_cons, List.length_append, List.length_cons] at *
    omega

end Go.Proofs.Ytkgfcaoeldfbdaa
