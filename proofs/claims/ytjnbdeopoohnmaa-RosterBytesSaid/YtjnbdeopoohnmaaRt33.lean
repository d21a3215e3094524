/- Layer 56 (roster): a roster in the making, while it is read. -/
import Derived.Test.YtjnbdeopoohnmaaRt30
import Derived.Test.YtjnbdeopoohnmaaRt5
set_option linter.unusedSimpArgs false
namespace Go.Proofs.Ytjnbdeopoohnmaa
open Go.RowKit Go.Sort

/-- a reader: in block g, apart from what is made -/
structure RdK (w : World) (g : Nat) (RD : RSt → World → Prop) : Prop where
  cell : ∀ {st : RSt} {W : World}, RD st W → ∃ (A : Array Value) (T : Nat), W.heap[g]? = some (.cells A T (0, 0)) ∧ T ≠ 43 ∧ T ≠ 49
  below : ∀ {st : RSt} {W W' : World}, RD st W → Below W.heap.size W W' → RD st W'
  only : ∀ {st : RSt} {W W' : World} {F : Nat → Prop}, RD st W → Only F W W' → ¬ F g → (∀ k, F k → w.heap.size ≤ k) → RD st W'
  low : w.heap.size ≤ g

structure TR (w : World) (RD : RSt → World → Prop) (vo : Value) (L : List AcX) (st : RSt) (W : World) : Prop where
  rd : RD st W
  out : Gw 3 csA W w.heap.size 43 vo L
  sps : ∀ x ∈ L, Gw 2 csS W w.heap.size 49 (Sl3.v x.2) x.1.sp
  iw : ∀ x ∈ L, IW x.1.id ∧ IW x.1.bl ∧ ∀ s ∈ x.1.sp, IW s.1 ∧ IW s.2
  bel : Below w.heap.size w W

section
variable {w : World} {g : Nat} {RD : RSt → World → Prop} {vo : Value} {L : List AcX} {st st' : RSt} {W W' : World}
theorem TR.below (k : RdK w g RD) (h : TR w RD vo L st W) (hb : Below W.heap.size W W') : TR w RD vo L st W' :=
  ⟨k.below h.rd hb, h.out.below hb, fun x hx => (h.sps x hx).below hb, h.iw, h.bel.trans (hb.mono h.bel.size)⟩
theorem gw_tag {α : Type} {s : Nat} {cs : α → List Value} {w : World} {B e t q : Nat} {v : Value} {l : List α} {A : Array Value} (h : Gw s cs w B e v l) (hr : w.heap[q]? = some (.cells A t (0, 0))) (hne : t ≠ e) : v.ownBlock ≠ some q := by
  intro hv
  obtain ⟨A', hA⟩ := h.tagR q hv
  rw [hr] at hA
  simp at hA
  exact hne hA.2
theorem TR.read (k : RdK w g RD) (h : TR w RD vo L st W) (h1 : RD st' W') (ho : Only (fun t => t = g) W W') : TR w RD vo L st' W' := by
  obtain ⟨A, T, hr, h2, h3⟩ := k.cell h.rd
  exact ⟨h1, h.out.onlyR ho fun t ht e => gw_tag h.out hr h2 (by rw [ht, e]), fun x hx => (h.sps x hx).onlyR ho fun t ht e => gw_tag (h.sps x hx) hr h3 (by rw [ht, e]), h.iw,
    h.bel.trans (ho.below (fun t ht => by have := k.low; omega) h.bel.size)⟩
theorem TR.acs (h : TR w RD vo L st W) : Acs W vo L := ⟨h.out.gs, fun x hx => ⟨(h.sps x hx).gs, h.iw x hx⟩⟩

/-- an account in the making -/
structure TI (w : World) (RD : RSt → World → Prop) (vo : Value) (L : List AcX) (p : Nat) (id bl : Int) (cv : Value) (S : List SpT) (st : RSt) (W : World) : Prop where
  tr : TR w RD vo L st W
  row : W.heap[p]? = some (.cells #[.int .i64 id, .int .i64 bl, cv] 43 (0, 0))
  own : Gw 2 csS W p 49 cv S
  iws : ∀ s ∈ S, IW s.1 ∧ IW s.2
  lp : w.heap.size ≤ p
  fo : ∀ k, vo.ownBlock = some k → k < p
  fs : ∀ x ∈ L, ∀ k, (Sl3.v x.2).ownBlock = some k → k < p
variable {p : Nat} {id bl : Int} {cv v' : Value} {S : List SpT}
theorem TI.start (k : RdK w g RD) (h : TR w RD vo L st W) (id bl : Int) : TI w RD vo L W.heap.size id bl (.slice none 0 0) [] st (W.alloc (.cells #[.int .i64 id, .int .i64 bl, .slice none 0 0] 43)) := by
  have hb : Below W.heap.size W (W.alloc (.cells #[.int .i64 id, .int .i64 bl, .slice none 0 0] 43)) := (Below.refl _ _).alloc (Nat.le_refl _) _
  exact ⟨h.below k hb, heap_alloc_new _ _, Gw.nil _ _ _, (fun s hs => by cases hs), h.bel.size, fun t ht => (h.out.lt t ht).2, fun x hx t ht => ((h.sps x hx).lt t ht).2⟩
theorem TI.below (k : RdK w g RD) (h : TI w RD vo L p id bl cv S st W) (hb : Below W.heap.size W W') : TI w RD vo L p id bl cv S st W' :=
  ⟨h.tr.below k hb, (hb.block p (heap_lt h.row)).trans h.row, h.own.below hb, h.iws, h.lp, h.fo, h.fs⟩
theorem TI.read (k : RdK w g RD) (h : TI w RD vo L p id bl cv S st W) (h1 : RD st' W') (ho : Only (fun t => t = g) W W') : TI w RD vo L p id bl cv S st' W' := by
  obtain ⟨A, T, hr, h2, h3⟩ := k.cell h.tr.rd
  refine ⟨h.tr.read k h1 ho, (ho.block p (heap_lt h.row) ?_).trans h.row, h.own.onlyR ho fun t ht e => gw_tag h.own hr h3 (by rw [ht, e]), h.iws, h.lp, h.fo, h.fs⟩
  intro e
  have := h.row
  rw [e, hr] at this
  simp at this
  exact h2 this.2
/-- the account's blocked-until is set -/
theorem TI.setBl (k : RdK w g RD) (h : TI w RD vo L p id bl cv S st W) (b2 : Int) : TI w RD vo L p id b2 cv S st (W.setCell ⟨p, 1, none⟩ (.int .i64 b2)) := by
  have ho := set_only W p 1 (.int .i64 b2)
  obtain ⟨A, T, hr, h2, h3⟩ := k.cell h.tr.rd
  have hgp : ¬ g = p := fun e => by
    have := h.row
    rw [← e, hr] at this
    simp at this
    exact h2 this.2
  refine ⟨⟨k.only h.tr.rd ho hgp (fun t ht => by have := h.lp; omega), h.tr.out.onlyR ho fun t ht e => by have := h.fo t ht; omega, fun x hx => (h.tr.sps x hx).onlyR ho fun t ht e => by have := h.fs x hx t ht; omega, h.tr.iw, h.tr.bel.trans (ho.below (fun t ht => by have := h.lp; omega) h.tr.bel.size)⟩,
    row_setCell h.row 1 _, h.own.onlyR ho fun t ht e => gw_tag h.own h.row (by decide) (by rw [ht, e]), h.iws, h.lp, h.fo, h.fs⟩
/-- a spell more -/
theorem TI.push (k : RdK w g RD) (h : TI w RD vo L p id bl cv S st W) (hg : W.grownBy W' cv.ownBlock) {s : SpT} (ho : Gw 2 csS W' p 49 v' (S ++ [s])) (hs : IW s.1 ∧ IW s.2) : TI w RD vo L p id bl v' (S ++ [s]) st (W'.setCell ⟨p, 2, none⟩ v') := by
  have o1 := grown_only hg
  obtain ⟨A, T, hr, h2, h3⟩ := k.cell h.tr.rd
  have hF : ∀ t, cv.ownBlock = some t → w.heap.size ≤ t := fun t ht => Nat.le_trans h.lp (h.own.lt t ht).1
  have hgc : ¬ cv.ownBlock = some g := gw_tag h.own hr h3
  have hgp : ¬ g = p := fun e => by
    have := h.row
    rw [← e, hr] at this
    simp at this
    exact h2 this.2
  have hpc : ¬ cv.ownBlock = some p := gw_tag h.own h.row (by decide)
  have hrow1 : W'.heap[p]? = some (.cells #[.int .i64 id, .int .i64 bl, cv] 43 (0, 0)) := (o1.block p (heap_lt h.row) hpc).trans h.row
  have rd1 := k.only h.tr.rd o1 hgc hF
  have out1 := h.tr.out.onlyR o1 fun t ht e => by have := h.fo t ht; have := (h.own.lt t e).1; omega
  have sps1 : ∀ x ∈ L, Gw 2 csS W' w.heap.size 49 (Sl3.v x.2) x.1.sp := fun x hx => (h.tr.sps x hx).onlyR o1 fun t ht e => by have := h.fs x hx t ht; have := (h.own.lt t e).1; omega
  have bel1 := h.tr.bel.trans (o1.below hF h.tr.bel.size)
  have o2 := set_only W' p 2 v'
  refine ⟨⟨k.only rd1 o2 hgp (fun t ht => by have := h.lp; omega), out1.onlyR o2 fun t ht e => by have := h.fo t ht; omega, fun x hx => (sps1 x hx).onlyR o2 fun t ht e => by have := h.fs x hx t ht; omega, h.tr.iw, bel1.trans (o2.below (fun t ht => by have := h.lp; omega) bel1.size)⟩,
    row_setCell hrow1 2 _, ho.onlyR o2 fun t ht e => gw_tag ho hrow1 (by decide) (by rw [ht, e]), fun t ht => ?_, h.lp, h.fo, h.fs⟩
  rcases List.mem_append.1 ht with ht | ht
  · exact h.iws t ht
  · rw [List.mem_singleton.1 ht]; exact hs
/-- the account is done -/
theorem TI.done (k : RdK w g RD) {u : Sl3} (h : TI w RD vo L p id bl (Sl3.v u) S st W) (hi : IW id) (hb : IW bl) (hg : W.grownBy W' vo.ownBlock) (ho : Gw 3 csA W' w.heap.size 43 v' (L ++ [((⟨id, bl, S⟩, u) : AcX)])) : TR w RD v' (L ++ [((⟨id, bl, S⟩, u) : AcX)]) st W' := by
  have o1 := grown_only hg
  obtain ⟨A, T, hr, h2, h3⟩ := k.cell h.tr.rd
  have hF : ∀ t, vo.ownBlock = some t → w.heap.size ≤ t := fun t ht => (h.tr.out.lt t ht).1
  have tagO : ∀ t, vo.ownBlock = some t → ∃ A, W.heap[t]? = some (.cells A 43 (0, 0)) := h.tr.out.tagR
  refine ⟨k.only h.tr.rd o1 (gw_tag h.tr.out hr h2) hF, ho, fun x hx => ?_, fun x hx => ?_, h.tr.bel.trans (o1.below hF h.tr.bel.size)⟩
  · rcases List.mem_append.1 hx with hx | hx
    · exact (h.tr.sps x hx).onlyR o1 fun t ht e => by obtain ⟨A', hA⟩ := tagO t e; exact gw_tag (h.tr.sps x hx) hA (by decide) ht
    · rw [List.mem_singleton.1 hx]
      exact (h.own.onlyR o1 fun t ht e => by obtain ⟨A', hA⟩ := tagO t e; exact gw_tag h.own hA (by decide) ht).mono h.lp
  · rcases List.mem_append.1 hx with hx | hx
    · exact h.tr.iw x hx
    · rw [List.mem_singleton.1 hx]; exact ⟨hi, hb, h.iws⟩
end
end Go.Proofs.Ytjnbdeopoohnmaa
