/- Opening an argument that is a ring: an int and a slice of keys. -/
import Derived.Test.YtjnbdeopoohnmaaGreatDoorFrame
import Derived.Test.YtjnbdeopoohnmaaGreatDoorRingR
namespace Go.Proofs.YtjnbdeopoohnmaaGreatDoor
open Go.RowKit Go.Sort Go.ChangeShapes Go.WideShapes Go.ChangeAt Go.Deep Go.Joins

section
variable {H : Type} {enc : TypeId × Value → H} {P : Program} {w : World}
/-- a slice by its cell: a row of its elements' cells, each element's cells read as the type says -/
theorem rows_trod {t e : TypeId} {s : Nat} (ht : P.underlying t = some (.slice e)) (hs : P.cellsOf e = s) (h0 : 0 < s) {m0 : Nat} {cs : List Value} {y0 : DataW H × List MemPlace}
    (hf : DataW.trod enc P w 0 (fun _ => true) true m0 t cs = some y0) :
    ∃ (v : Value) (n m : Nat) (C : Nat → List Value), cs = [v] ∧ Rd w s v n ((List.range n).flatMap C) ∧ ∀ i, i < n → (C i).length = s ∧ ∃ y, DataW.trod enc P w 0 (fun _ => true) true m e (C i) = some y := by
  rcases open_slice ht hf with ⟨hcs, _⟩ | ⟨a, len, cap, m, n, D, Pl, hcs, _, hl, hm, hmm, _, hx⟩
  · exact ⟨_, 0, 0, fun _ => [], hcs, by simpa using Rd.nil w s, fun i hi => by omega⟩
  · have hml : len ≤ m := by rw [hmm]; split <;> omega
    rw [hs] at hx
    obtain ⟨C, hC⟩ := choose_lt (α := List Value) (p := fun i cs' => w.cells? 0 (a.add (i * s)) s = some cs' ∧ DataW.trod enc P w 0 (fun _ => true) true n e cs' = some (D i, Pl i)) (n := len) (fun i hi => hx i (by omega))
    have hCl : ∀ i, i < len → (C i).length = s := fun i hi => (World.cells?_some (hC i hi).1).2.1
    refine ⟨_, len, n, C, hcs, ?_, fun i hi => ⟨hCl i hi, _, (hC i hi).2⟩⟩
    refine ⟨flat_len C s len hCl, some a, cap, rfl, hl, hm, by simp, ?_⟩
    by_cases hz : len = 0
    · exact .inl hz
    · right
      have hcell : ∀ i k, i < len → k < s → w.cell? (a.add (i * s + k)) = (C i)[k]? := by
        intro i k hi hk
        have := (World.cells?_some (hC i hi).1).2.2 k hk
        rwa [Addr.add_add] at this
      obtain ⟨b, off, spot⟩ := a
      have h00 := hcell 0 0 (by omega) h0
      have hl0 := hCl 0 (by omega)
      rw [List.getElem?_eq_getElem (by omega)] at h00
      have hspot : spot = none := by simpa [Addr.add] using World.cell?_spot h00
      subst hspot
      refine ⟨b, off, rfl, by have := World.block_lt_of_cell? w _ h00; rwa [Addr.add_lit] at this, fun j u hu => ?_⟩
      have hj : j < len * s := by
        have := (List.getElem?_eq_some_iff.1 hu).1
        rwa [flat_len C s len hCl] at this
      have hdiv : j / s < len := by rw [Nat.div_lt_iff_lt_mul h0]; exact hj
      have hmod : j % s < s := Nat.mod_lt _ h0
      have hjj : j = j / s * s + j % s := by rw [Nat.mul_comm]; exact (Nat.div_add_mod j s).symm
      rw [hjj, flat_get C s len hCl _ _ hdiv hmod] at hu
      have := hcell _ _ hdiv hmod
      rw [Addr.add_lit, ← hjj] at this
      rw [this, hu]

/-- the same as a list of elements -/
theorem gs_trod {α : Type} [Inhabited α] {cs : α → List Value} {Q : α → Prop} {t e : TypeId} {s : Nat} (ht : P.underlying t = some (.slice e)) (hs : P.cellsOf e = s) (h0 : 0 < s)
    (hel : ∀ (m : Nat) (c : List Value) (y : DataW H × List MemPlace), DataW.trod enc P w 0 (fun _ => true) true m e c = some y → ∃ x : α, c = cs x ∧ Q x) {m0 : Nat} {c0 : List Value} {y0 : DataW H × List MemPlace}
    (hf : DataW.trod enc P w 0 (fun _ => true) true m0 t c0 = some y0) : ∃ (v : Value) (l : List α), c0 = [v] ∧ Gs s cs w v l ∧ ∀ x ∈ l, Q x := by
  obtain ⟨v, n, m, C, hv, hrd, hC⟩ := rows_trod ht hs h0 hf
  have key : ∀ i, i < n → ∃ x : α, C i = cs x ∧ Q x := by
    intro i hi
    obtain ⟨_, y, hy⟩ := hC i hi
    exact hel _ _ _ hy
  obtain ⟨S, hS⟩ := choose_lt key
  refine ⟨v, (List.range n).map S, hv, ?_, ?_⟩
  · have e : (List.range n).flatMap C = gcells cs ((List.range n).map S) := by
      unfold gcells
      rw [List.flatMap_map]
      have : ∀ (L : List Nat), (∀ i ∈ L, i < n) → L.flatMap C = L.flatMap fun i => cs (S i) := by
        intro L
        induction L with
        | nil => intro _; rfl
        | cons i L ih =>
          intro h
          simp only [List.flatMap_cons]
          rw [(hS i (h i (by simp))).1, ih fun j hj => h j (by simp [hj])]
      exact this _ fun i hi => by simpa using hi
    unfold Gs
    rw [← e]
    simpa using hrd
  · intro s hs
    obtain ⟨i, hi, rfl⟩ := List.mem_map.1 hs
    exact (hS i (by simpa using hi)).2
end

set_option maxRecDepth 100000 in
theorem key_trod {H : Type} {enc : TypeId × Value → H} {w : World} (m : Nat) (c : List Value) (y : DataW H × List MemPlace) (h : DataW.trod enc Tryz.prog w 0 (fun _ => true) true m 34 c = some y) :
    ∃ x : RK, c = x.cells ∧ Bs w x.v x.b ∧ KeyWf x := by
  obtain ⟨y0, y1, n, _, hl, e0, e1⟩ := trod_struct2 Tryz.underlying34 h
  have h2 : c.length = 2 := hl.trans (by kernel_rfl)
  have hc0 : Tryz.prog.cellsOf 3 = 1 := by kernel_rfl
  have hc1 : Tryz.prog.cellsOf 25 = 1 := by kernel_rfl
  match c, h2 with
  | [a, b], _ =>
    simp only at e0 e1
    rw [hc0] at e0
    rw [hc1] at e1
    obtain ⟨z0, g0, _, k0⟩ := DataW.trod_int Tryz.underlying3 e0
    obtain ⟨v, l, g1, k1⟩ := bytes_trod Tryz.underlying25 Tryz.underlying5 (by kernel_rfl) e1
    simp at g0 g1
    subst g0 g1
    obtain ⟨va, vc, rfl⟩ := k1.shape
    exact ⟨⟨z0, va, vc, l⟩, rfl, k1, wf_i64 k0⟩

instance : Inhabited RK := ⟨⟨0, none, 0, []⟩⟩

structure RingArg where
  keep : Int
  v : Value
  l : List RK
def RingIs (w : World) (x : RingArg) : Prop := Ks w x.v x.l ∧ (-9223372036854775808 ≤ x.keep ∧ x.keep ≤ 9223372036854775807)

set_option maxRecDepth 100000 in
theorem view_ring {H : Type} {enc : TypeId × Value → H} {w : World} {b0 : Nat} {r : Reach} {v : Value} {d : DataW H} {ps : List MemPlace}
    (hval : Value.okWide Tryz.prog w r b0 24 v) (hd : DataW.Trod enc Tryz.prog w 0 (fun _ => true) true 24 v d ps) : ∃ x : RingArg, v = .agg #[.int .i64 x.keep, x.v] ∧ RingIs w x := by
  obtain ⟨cs, rfl, hsz⟩ := okWide_struct Tryz.underlying24 hval
  have h4 : cs.size = 2 := hsz.trans (by kernel_rfl)
  obtain ⟨m, hy⟩ := hd
  obtain ⟨y0, y1, k, _, hl', e0, e1⟩ := trod_struct2 Tryz.underlying24 hy
  obtain ⟨l⟩ := cs
  match l, h4 with
  | [a, b], _ =>
    have hc0 : Tryz.prog.cellsOf 3 = 1 := by kernel_rfl
    have hc1 : Tryz.prog.cellsOf 22 = 1 := by kernel_rfl
    simp only [Value.cells] at e0 e1
    rw [hc0] at e0
    rw [hc1] at e1
    obtain ⟨z0, g0, _, k0⟩ := DataW.trod_int Tryz.underlying3 e0
    obtain ⟨v, l, g1, hg, hq⟩ := gs_trod (cs := RK.cells) (Q := fun x => Bs w x.v x.b ∧ KeyWf x) (s := 2) Tryz.underlying22 (by kernel_rfl) (by decide) (fun m c y h => key_trod m c y h) e1
    simp at g0 g1
    subst g0 g1
    exact ⟨⟨z0, b, l⟩, rfl, ⟨hg, fun k hk => (hq k hk).1, fun k hk => (hq k hk).2⟩, wf_i64 k0⟩

end Go.Proofs.YtjnbdeopoohnmaaGreatDoor
