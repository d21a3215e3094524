/- The walk of Put of layer 5 (sample): a range over the iterator steps. -/
import Derived.Test.YticpmkdlnjnfgaaSamp2
import Derived.Test.YticpmkdlnjnfgaaSamp1
import Derived.Test.YticpmkdlnjnfgaaWriter
namespace Go.Proofs.Yticpmkdlnjnfgaa
open Go.RowKit Go.Shelf
attribute [local go_sem] Oper.semAt_some

/-- what a round of Put stands on; lo: the loop's record; A: the iterator's block -/
structure PJ (w : World) (lo : Obj) (f : Bool) (m : List UInt8) (A : Nat) (v : Value) (W : World) : Prop where
  lt : w.heap.size + 7 < A
  hL : W.heap[w.heap.size + 7]? = some lo
  hD : W.heap[w.heap.size + 6]? = some (.deferred (some []))
  r2 : W.heap[w.heap.size]? = some (.cells #[.slice none 0 0] 24 (0, 0))
  r3 : W.heap[w.heap.size + 1]? = some (.cells #[.int .i64 0] 25 (0, 0))
  wr : Wr W w.heap.size (w.heap.size + 2) v m
  pp : W.heap[w.heap.size + 3]? = some (.cells #[.pointer (some ⟨w.heap.size + 2, 0, none⟩)] 79 (0, 0))
  fs : W.heap[w.heap.size + 4]? = some (.cells #[.bool f] 4 (0, 0))
  hA : ∃ cs, W.heap[A]? = some (.cells cs 32 (0, 0))
  bel : Below w.heap.size w W


/-- rows of samples are kept -/
def KS (W W' : World) : Prop := ∀ (j : Nat) (cs : Array Value), W.heap[j]? = some (.cells cs 32 (0, 0)) → W'.heap[j]? = some (.cells cs 32 (0, 0))
theorem KS.trans {a b c : World} (h : KS a b) (k : KS b c) : KS a c := fun j cs hj => k j cs (h j cs hj)
theorem KS.below {W W' : World} (h : Below W.heap.size W W') : KS W W' := fun j _ hj => (h.block j (heap_lt hj)).trans hj
theorem KS.only {F : Nat → Prop} {W W' : World} (h : Only F W W') (hF : ∀ (j : Nat) (cs : Array Value), W.heap[j]? = some (.cells cs 32 (0, 0)) → ¬ F j) : KS W W' := fun j cs hj => (h.block j (heap_lt hj) (hF j cs hj)).trans hj
theorem KS.setCell {W : World} {b i : Nat} {cs : Array Value} {t : TypeId} {fr : Nat × Nat} (hb : W.heap[b]? = some (.cells cs t fr)) (ht : t ≠ 32) (u : Value) : KS W (W.setCell ⟨b, i, none⟩ u) := fun j c hj => by
  refine (Below.heap_setCell W ⟨b, i, none⟩ u j ?_).trans hj
  rintro rfl
  rw [hb] at hj
  simp at hj
  exact ht hj.2.1

section
variable {w W W' : World} {lo lo' : Obj} {f : Bool} {m : List UInt8} {A : Nat} {v : Value}

theorem PJ.only {F : Nat → Prop} (h : PJ w lo f m A v W) (ho : Only F W W') (hF : ∀ k, F k → w.heap.size + 7 < k ∧ (∀ o, W.heap[k]? = some o → ∃ cs, o = .cells cs 32 (0, 0)) ∧ k ≠ A) : PJ w lo f m A v W' := by
  have key : ∀ {k : Nat} {o : Obj}, W.heap[k]? = some o → k ≤ w.heap.size + 7 → W'.heap[k]? = some o := fun hk hl => (ho.block _ (heap_lt hk) fun hf => by have := (hF _ hf).1; omega).trans hk
  refine ⟨h.lt, key h.hL (by omega), key h.hD (by omega), key h.r2 (by omega), key h.r3 (by omega), ?_, key h.pp (by omega), key h.fs (by omega), ?_, h.bel.trans (ho.below (fun k hk => by have := (hF k hk).1; omega) h.bel.size)⟩
  · refine h.wr.only ho fun k hk hf => ?_
    rcases hk with rfl | hk
    · have := (hF _ hf).1; omega
    · obtain ⟨h1, h2, h3⟩ := hF _ hf
      have hl := (h.wr.own.lt k hk).2
      obtain ⟨cs, hcs⟩ := h2 _ (Array.getElem?_eq_getElem hl)
      exact h.wr.own.ne (g := k) (t := 32) (by rw [Array.getElem?_eq_getElem hl, hcs]) (by decide) hk
  · obtain ⟨cs, hcs⟩ := h.hA
    exact ⟨cs, (ho.block _ (heap_lt hcs) fun hf => (hF _ hf).2.2 rfl).trans hcs⟩

theorem PJ.below (h : PJ w lo f m A v W) (hb : Below W.heap.size W W') : PJ w lo f m A v W' := h.only (F := fun _ => False) (.of_below hb) fun _ hf => hf.elim
theorem PJ.alloc (h : PJ w lo f m A v W) (o : Obj) : PJ w lo f m A v (W.alloc o) := h.below ((Below.refl _ _).alloc (Nat.le_refl _) o)

theorem PJ.wne (h : PJ w lo f m A v W) {k : Nat} {cs : Array Value} {t : TypeId} (hk : W.heap[k]? = some (.cells cs t (0, 0))) (ht : t ≠ 5) (ht2 : k ≠ w.heap.size + 2) : ¬ wrF (w.heap.size + 2) v k := by
  rintro (rfl | hf)
  · exact ht2 rfl
  · exact h.wr.own.ne hk ht hf

theorem PJ.setA (h : PJ w lo f m A v W) (i : Nat) (u : Value) : PJ w lo f m A v (W.setCell ⟨A, i, none⟩ u) := by
  obtain ⟨cs, hcs⟩ := h.hA
  have hl := h.lt
  have key : ∀ {k : Nat} {o : Obj}, W.heap[k]? = some o → k ≤ w.heap.size + 7 → (W.setCell ⟨A, i, none⟩ u).heap[k]? = some o := fun hk hkl => (Below.heap_setCell W ⟨A, i, none⟩ u _ (by simp; omega)).trans hk
  refine ⟨h.lt, key h.hL (by omega), key h.hD (by omega), key h.r2 (by omega), key h.r3 (by omega), ?_, key h.pp (by omega), key h.fs (by omega), ⟨_, row_setCell hcs i u⟩, h.bel.setCell (by simp; omega) u⟩
  refine h.wr.only (setCell_only W ⟨A, i, none⟩ u) fun k hk hf => ?_
  simp at hf
  subst hf
  exact h.wne hcs (by decide) (by omega) hk

theorem PJ.putL (h : PJ w lo f m A v W) (lo' : Obj) (hlo : ∀ cs t fr, lo ≠ .cells cs t fr) : PJ w lo' f m A v (W.putObj (w.heap.size + 7) lo') := by
  have hl := h.lt
  have key : ∀ {k : Nat} {o : Obj}, W.heap[k]? = some o → k ≠ w.heap.size + 7 → (W.putObj (w.heap.size + 7) lo').heap[k]? = some o := fun hk hkl => (World.putObj_heap_other hkl).trans hk
  have hO : Only (fun k => k = w.heap.size + 7) W (W.putObj (w.heap.size + 7) lo') := ⟨rfl, rfl, rfl, by simp, fun k _ hk => World.putObj_heap_other hk⟩
  refine ⟨h.lt, World.putObj_heap_same (heap_lt h.hL), key h.hD (by omega), key h.r2 (by omega), key h.r3 (by omega), ?_, key h.pp (by omega), key h.fs (by omega), ?_, h.bel.trans (hO.below (fun k hk => by omega) h.bel.size)⟩
  · refine h.wr.only hO fun k hk hf => ?_
    subst hf
    rcases hk with hk | hk
    · omega
    · obtain ⟨g, cap, cur, e1, _, e3, _⟩ := h.wr.own.2.resolve_left (fun e => by rw [e.1] at hk; simp [Value.ownBlock] at hk)
      rw [e1] at hk
      simp [Value.ownBlock] at hk
      subst hk
      rw [h.hL] at e3
      exact hlo _ _ _ (Option.some.inj e3)
  · obtain ⟨cs, hcs⟩ := h.hA
    exact ⟨cs, key hcs (by omega)⟩

theorem PJ.ksL (h : PJ w lo f m A v W) (lo' : Obj) (hlo : ∀ cs t fr, lo ≠ .cells cs t fr) : KS W (W.putObj (w.heap.size + 7) lo') := fun j cs hj => by
  refine (World.putObj_heap_other ?_).trans hj
  rintro rfl
  rw [h.hL] at hj
  exact hlo _ _ _ (Option.some.inj hj)

theorem PJ.flag (h : PJ w lo f m A v W) (b : Bool) : PJ w lo b m A v (W.setCell ⟨w.heap.size + 4, 0, none⟩ (.bool b)) := by
  have hl := h.lt
  have key : ∀ {k : Nat} {o : Obj}, W.heap[k]? = some o → k ≠ w.heap.size + 4 → (W.setCell ⟨w.heap.size + 4, 0, none⟩ (.bool b)).heap[k]? = some o := fun hk hkl => (Below.heap_setCell W ⟨w.heap.size + 4, 0, none⟩ _ _ hkl).trans hk
  refine ⟨h.lt, key h.hL (by omega), key h.hD (by omega), key h.r2 (by omega), key h.r3 (by omega), ?_, key h.pp (by omega), row_setCell h.fs 0 _, ?_, h.bel.setCell (by simp) _⟩
  · refine h.wr.only (setCell_only W ⟨w.heap.size + 4, 0, none⟩ _) fun k hk hf => ?_
    simp at hf
    subst hf
    exact h.wne h.fs (by decide) (by omega) hk
  · obtain ⟨cs, hcs⟩ := h.hA
    exact ⟨cs, key hcs (by omega)⟩

theorem PJ.wrote {n : List UInt8} {v' : Value} (h : PJ w lo f m A v W) (k : Wrote W w.heap.size (w.heap.size + 2) v m n v' W') (hlo : ∀ cs t fr, lo ≠ .cells cs t fr) : PJ w lo f (m ++ n) A v' W' ∧ KS W W' := by
  have hl := h.lt
  have key : ∀ {j : Nat} {cs : Array Value} {t : TypeId}, W.heap[j]? = some (.cells cs t (0, 0)) → t ≠ 5 → j ≠ w.heap.size + 2 → W'.heap[j]? = some (.cells cs t (0, 0)) := fun hj ht hne => (k.only.block _ (heap_lt hj) (h.wne hj ht hne)).trans hj
  have key2 : ∀ {j : Nat} {o : Obj}, W.heap[j]? = some o → (∀ cs t fr, o ≠ .cells cs t fr) → j ≠ w.heap.size + 2 → W'.heap[j]? = some o := fun hj hne hj2 => (k.only.block _ (heap_lt hj) (by
    rintro (rfl | hk)
    · exact hj2 rfl
    · obtain ⟨g, cap, cur, e1, _, e3, _⟩ := h.wr.own.2.resolve_left (fun e => by rw [e.1] at hk; simp [Value.ownBlock] at hk)
      rw [e1] at hk
      simp [Value.ownBlock] at hk
      subst hk
      rw [hj] at e3
      exact hne _ _ _ (Option.some.inj e3))).trans hj
  refine ⟨⟨h.lt, key2 h.hL hlo (by omega), key2 h.hD (by simp) (by omega), key h.r2 (by decide) (by omega), key h.r3 (by decide) (by omega), k.wr, key h.pp (by decide) (by omega), key h.fs (by decide) (by omega), ?_, h.bel.trans (k.bel h.wr h.bel.size)⟩, ?_⟩
  · obtain ⟨cs, hcs⟩ := h.hA
    exact ⟨cs, key hcs (by decide) (by omega)⟩
  · intro j cs hj
    refine key hj (by decide) ?_
    rintro rfl
    rw [h.wr.cell] at hj
    simp at hj
end

end Go.Proofs.Yticpmkdlnjnfgaa
