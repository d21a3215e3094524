/- Opening arguments: slices of whatever element type, element by element; slices of samples. No function of the program stands here. -/
import Derived.Test.YtmhgdddnjnichaaDoorFrame2
import Derived.Test.YtmhgdddnjnichaaDoorSbase
import Derived.Deep.Slices
import Derived.Deep.Strs
namespace Go.Proofs.YtmhgdddnjnichaaDoor
open Go.ChangeShapes Go.WideShapes Go.ChangeAt Go.RowKit Go.Deep

section
variable {H : Type} {enc : TypeId × Value → H} {P : Program} {w : World} {b0 : Nat} {r : Reach}

theorem flat_len {α : Type} (f : Nat → List α) (s : Nat) (n : Nat) (h : ∀ i, i < n → (f i).length = s) : ((List.range n).flatMap f).length = n * s := by
  induction n with
  | zero => simp
  | succ n ih =>
    rw [List.range_succ, List.flatMap_append, List.length_append, ih fun i hi => h i (by omega)]
    simp [h n (by omega), Nat.succ_mul]

theorem flat_get {α : Type} (f : Nat → List α) (s : Nat) (n : Nat) (h : ∀ i, i < n → (f i).length = s) : ∀ i j, i < n → j < s → ((List.range n).flatMap f)[i * s + j]? = (f i)[j]? := by
  induction n with
  | zero => intro i j hi; omega
  | succ n ih =>
    intro i j hi hj
    have hl := flat_len f s n fun i hi => h i (by omega)
    rw [List.range_succ, List.flatMap_append]
    by_cases hin : i < n
    · have hlt : i * s + j < n * s := by
        calc i * s + j < i * s + s := by omega
          _ = (i + 1) * s := by rw [Nat.succ_mul]
          _ ≤ n * s := Nat.mul_le_mul_right _ hin
      rw [List.getElem?_append_left (by omega)]
      exact ih (fun i hi => h i (by omega)) i j hin hj
    · obtain rfl : i = n := by omega
      rw [List.getElem?_append_right (by omega), hl]
      simp

/-- A slice that came in: a row of its elements' cells, each element's cells read as the type says. -/
theorem view_rows {t e : TypeId} {s : Nat} (ht : P.underlying t = some (.slice e)) (hs : P.cellsOf e = s) (h0 : 0 < s) {v : Value} {d : DataW H} {ps : List MemPlace}
    (hval : Value.okWide P w r b0 t v) (hd : DataW.Trod enc P w 0 (fun _ => true) true t v d ps) :
    ∃ (n m : Nat) (C : Nat → List Value), Rd w s v n ((List.range n).flatMap C) ∧ ∀ i, i < n → (C i).length = s ∧ ∃ y, DataW.trod enc P w 0 (fun _ => true) true m e (C i) = some y := by
  obtain ⟨a0, len, cap, rfl⟩ := okWide_slice ht hval
  obtain ⟨fuel, hf⟩ := hd
  rcases open_slice ht hf with ⟨hcs, _⟩ | ⟨a, l, c, m, n, D, Pl, hcs, _, hl, hm, hmm, _, hx⟩
  · simp [Value.cells] at hcs
    obtain ⟨rfl, rfl, rfl⟩ := hcs
    exact ⟨0, 0, fun _ => [], by simpa using Rd.nil w s, fun i hi => by omega⟩
  · simp [Value.cells] at hcs
    obtain ⟨rfl, rfl, rfl⟩ := hcs
    have hml : len ≤ m := by rw [hmm]; split <;> omega
    rw [hs] at hx
    obtain ⟨C, hC⟩ := choose_lt (α := List Value) (p := fun i cs' => w.cells? 0 (a.add (i * s)) s = some cs' ∧ DataW.trod enc P w 0 (fun _ => true) true n e cs' = some (D i, Pl i)) (n := len) (fun i hi => hx i (by omega))
    have hCl : ∀ i, i < len → (C i).length = s := fun i hi => (World.cells?_some (hC i hi).1).2.1
    refine ⟨len, n, C, ?_, fun i hi => ⟨hCl i hi, _, (hC i hi).2⟩⟩
    refine ⟨flat_len C s len hCl, some a, cap, rfl, hl, hm, by simp, ?_⟩
    by_cases hz : len = 0
    · exact .inl hz
    · right
      have hcell : ∀ i k, i < len → k < s → w.cell? (a.add (i * s + k)) = (C i)[k]? := by
        intro i k hi hk
        have := (World.cells?_some (hC i hi).1).2.2 k hk
        rwa [Addr.add_add] at this
      obtain ⟨b, off, spot⟩ := a
      have h00 := hcell 0 0 (by omega) h0
      have hl0 := hCl 0 (by omega)
      rw [List.getElem?_eq_getElem (by omega)] at h00
      have hspot : spot = none := by simpa [Addr.add] using World.cell?_spot h00
      subst hspot
      refine ⟨b, off, rfl, by have := World.block_lt_of_cell? w _ h00; rwa [Addr.add_lit] at this, fun j u hu => ?_⟩
      have hj : j < len * s := by
        have := (List.getElem?_eq_some_iff.1 hu).1
        rwa [flat_len C s len hCl] at this
      have hdiv : j / s < len := by rw [Nat.div_lt_iff_lt_mul h0]; exact hj
      have hmod : j % s < s := Nat.mod_lt _ h0
      have hjj : j = j / s * s + j % s := by rw [Nat.mul_comm]; exact (Nat.div_add_mod j s).symm
      rw [hjj, flat_get C s len hCl _ _ hdiv hmod] at hu
      have := hcell _ _ hdiv hmod
      rw [Addr.add_lit, ← hjj] at this
      rw [this, hu]

/-- A struct of three ints, by its cells. -/
theorem trod_smp {t f : TypeId} {n0 n1 n2 : Field} (ht : P.underlying t = some (.struct #[n0, n1, n2])) (h0 : n0.type = f ∧ n0.offset = 0) (h1 : n1.type = f ∧ n1.offset = 1) (h2 : n2.type = f ∧ n2.offset = 2)
    (hf : P.underlying f = some (.int .i64)) (hc : P.cellsOf f = 1) (hct : P.cellsOf t = 3) {m : Nat} {cs : List Value} {y : DataW H × List MemPlace}
    (h : DataW.trod enc P w 0 (fun _ => true) true m t cs = some y) :
    ∃ s : Smp, cs = s.cells ∧ (Lit.int .i64 s.t).wf = true ∧ (Lit.int .i64 s.x).wf = true ∧ (Lit.int .i64 s.y).wf = true := by
  obtain ⟨y0, y1, y2, n, _, hl, e0, e1, e2⟩ := trod_struct3 ht h
  rw [h0.1, h0.2, hc] at e0
  rw [h1.1, h1.2, hc] at e1
  rw [h2.1, h2.2, hc] at e2
  rw [hct] at hl
  match cs, hl with
  | [a, b, c], _ =>
    obtain ⟨z0, g0, _, k0⟩ := DataW.trod_int hf e0
    obtain ⟨z1, g1, _, k1⟩ := DataW.trod_int hf e1
    obtain ⟨z2, g2, _, k2⟩ := DataW.trod_int hf e2
    simp at g0 g1 g2
    exact ⟨⟨z0, z1, z2⟩, by simp [Smp.cells, g0, g1, g2], k0, k1, k2⟩

theorem view_smps {t e f : TypeId} {n0 n1 n2 : Field} (ht : P.underlying t = some (.slice e)) (he : P.underlying e = some (.struct #[n0, n1, n2])) (h0 : n0.type = f ∧ n0.offset = 0) (h1 : n1.type = f ∧ n1.offset = 1) (h2 : n2.type = f ∧ n2.offset = 2)
    (hf : P.underlying f = some (.int .i64)) (hc : P.cellsOf f = 1) (hct : P.cellsOf e = 3) {v : Value} {d : DataW H} {ps : List MemPlace}
    (hval : Value.okWide P w r b0 t v) (hd : DataW.Trod enc P w 0 (fun _ => true) true t v d ps) :
    ∃ l : List Smp, Ss w v l ∧ ∀ s ∈ l, (Lit.int .i64 s.t).wf = true ∧ (Lit.int .i64 s.x).wf = true ∧ (Lit.int .i64 s.y).wf = true := by
  obtain ⟨n, m, C, hrd, hC⟩ := view_rows ht hct (by omega) hval hd
  have key : ∀ i, i < n → ∃ s : Smp, C i = s.cells ∧ (Lit.int .i64 s.t).wf = true ∧ (Lit.int .i64 s.x).wf = true ∧ (Lit.int .i64 s.y).wf = true := by
    intro i hi
    obtain ⟨_, y, hy⟩ := hC i hi
    exact trod_smp he h0 h1 h2 hf hc hct hy
  haveI : Inhabited Smp := ⟨⟨0, 0, 0⟩⟩
  obtain ⟨S, hS⟩ := choose_lt key
  refine ⟨(List.range n).map S, ?_, ?_⟩
  · have e : (List.range n).flatMap C = scells ((List.range n).map S) := by
      unfold scells
      rw [List.flatMap_map]
      have : ∀ (L : List Nat), (∀ i ∈ L, i < n) → L.flatMap C = L.flatMap fun i => (S i).cells := by
        intro L
        induction L with
        | nil => intro _; rfl
        | cons i L ih =>
          intro h
          simp only [List.flatMap_cons]
          rw [(hS i (h i (by simp))).1, ih fun j hj => h j (by simp [hj])]
      exact this _ fun i hi => by simpa using hi
    unfold Ss
    rw [← e]
    simpa using hrd
  · intro s hs
    obtain ⟨i, hi, rfl⟩ := List.mem_map.1 hs
    exact (hS i (by simpa using hi)).2
end

end Go.Proofs.YtmhgdddnjnichaaDoor
