/- Samp4: Samp3, Samp4 as one text. -/
import Derived.Test.YtjnbdeopoohnmaaGreatDoorSamp2
import Derived.Test.YtjnbdeopoohnmaaGreatDoorSamp1
import Derived.Test.YtjnbdeopoohnmaaGreatDoorWriter
/- The walk of Put of layer 5 (sample): a range over the iterator steps. -/
namespace Go.Proofs.YtjnbdeopoohnmaaGreatDoor
open Go.RowKit Go.Shelf
attribute [local go_sem] Oper.semAt_some

/-- what a round of Put stands on; lo: the loop's record; A: the iterator's block -/
structure PJ (w : World) (lo : Obj) (f : Bool) (m : List UInt8) (A : Nat) (v : Value) (W : World) : Prop where
  lt : w.heap.size + 7 < A
  hL : W.heap[w.heap.size + 7]? = some lo
  hD : W.heap[w.heap.size + 6]? = some (.deferred (some []))
  r2 : W.heap[w.heap.size]? = some (.cells #[.slice none 0 0] 25 (0, 0))
  r3 : W.heap[w.heap.size + 1]? = some (.cells #[.int .i64 0] 35 (0, 0))
  wr : Wr W w.heap.size (w.heap.size + 2) v m
  pp : W.heap[w.heap.size + 3]? = some (.cells #[.pointer (some ⟨w.heap.size + 2, 0, none⟩)] 91 (0, 0))
  fs : W.heap[w.heap.size + 4]? = some (.cells #[.bool f] 4 (0, 0))
  hA : ∃ cs, W.heap[A]? = some (.cells cs 55 (0, 0))
  bel : Below w.heap.size w W


/-- rows of samples are kept -/
def KS (W W' : World) : Prop := ∀ (j : Nat) (cs : Array Value), W.heap[j]? = some (.cells cs 55 (0, 0)) → W'.heap[j]? = some (.cells cs 55 (0, 0))
theorem KS.trans {a b c : World} (h : KS a b) (k : KS b c) : KS a c := fun j cs hj => k j cs (h j cs hj)
theorem KS.below {W W' : World} (h : Below W.heap.size W W') : KS W W' := fun j _ hj => (h.block j (heap_lt hj)).trans hj
theorem KS.only {F : Nat → Prop} {W W' : World} (h : Only F W W') (hF : ∀ (j : Nat) (cs : Array Value), W.heap[j]? = some (.cells cs 55 (0, 0)) → ¬ F j) : KS W W' := fun j cs hj => (h.block j (heap_lt hj) (hF j cs hj)).trans hj
theorem KS.setCell {W : World} {b i : Nat} {cs : Array Value} {t : TypeId} {fr : Nat × Nat} (hb : W.heap[b]? = some (.cells cs t fr)) (ht : t ≠ 55) (u : Value) : KS W (W.setCell ⟨b, i, none⟩ u) := fun j c hj => by
  refine (Below.heap_setCell W ⟨b, i, none⟩ u j ?_).trans hj
  rintro rfl
  rw [hb] at hj
  simp at hj
  exact ht hj.2.1

section
variable {w W W' : World} {lo lo' : Obj} {f : Bool} {m : List UInt8} {A : Nat} {v : Value}

theorem PJ.only {F : Nat → Prop} (h : PJ w lo f m A v W) (ho : Only F W W') (hF : ∀ k, F k → w.heap.size + 7 < k ∧ (∀ o, W.heap[k]? = some o → ∃ cs, o = .cells cs 55 (0, 0)) ∧ k ≠ A) : PJ w lo f m A v W' := by
  have key : ∀ {k : Nat} {o : Obj}, W.heap[k]? = some o → k ≤ w.heap.size + 7 → W'.heap[k]? = some o := fun hk hl => (ho.block _ (heap_lt hk) fun hf => by have := (hF _ hf).1; omega).trans hk
  refine ⟨h.lt, key h.hL (by omega), key h.hD (by omega), key h.r2 (by omega), key h.r3 (by omega), ?_, key h.pp (by omega), key h.fs (by omega), ?_, h.bel.trans (ho.below (fun k hk => by have := (hF k hk).1; omega) h.bel.size)⟩
  · refine h.wr.only ho fun k hk hf => ?_
    rcases hk with rfl | hk
    · have := (hF _ hf).1; omega
    · obtain ⟨h1, h2, h3⟩ := hF _ hf
      have hl := (h.wr.own.lt k hk).2
      obtain ⟨cs, hcs⟩ := h2 _ (Array.getElem?_eq_getElem hl)
      exact h.wr.own.ne (g := k) (t := 55) (by rw [Array.getElem?_eq_getElem hl, hcs]) (by decide) hk
  · obtain ⟨cs, hcs⟩ := h.hA
    exact ⟨cs, (ho.block _ (heap_lt hcs) fun hf => (hF _ hf).2.2 rfl).trans hcs⟩

theorem PJ.below (h : PJ w lo f m A v W) (hb : Below W.heap.size W W') : PJ w lo f m A v W' := h.only (F := fun _ => False) (.of_below hb) fun _ hf => hf.elim
theorem PJ.alloc (h : PJ w lo f m A v W) (o : Obj) : PJ w lo f m A v (W.alloc o) := h.below ((Below.refl _ _).alloc (Nat.le_refl _) o)

theorem PJ.wne (h : PJ w lo f m A v W) {k : Nat} {cs : Array Value} {t : TypeId} (hk : W.heap[k]? = some (.cells cs t (0, 0))) (ht : t ≠ 5) (ht2 : k ≠ w.heap.size + 2) : ¬ wrF (w.heap.size + 2) v k := by
  rintro (rfl | hf)
  · exact ht2 rfl
  · exact h.wr.own.ne hk ht hf

theorem PJ.setA (h : PJ w lo f m A v W) (i : Nat) (u : Value) : PJ w lo f m A v (W.setCell ⟨A, i, none⟩ u) := by
  obtain ⟨cs, hcs⟩ := h.hA
  have hl := h.lt
  have key : ∀ {k : Nat} {o : Obj}, W.heap[k]? = some o → k ≤ w.heap.size + 7 → (W.setCell ⟨A, i, none⟩ u).heap[k]? = some o := fun hk hkl => (Below.heap_setCell W ⟨A, i, none⟩ u _ (by simp; omega)).trans hk
  refine ⟨h.lt, key h.hL (by omega), key h.hD (by omega), key h.r2 (by omega), key h.r3 (by omega), ?_, key h.pp (by omega), key h.fs (by omega), ⟨_, row_setCell hcs i u⟩, h.bel.setCell (by simp; omega) u⟩
  refine h.wr.only (setCell_only W ⟨A, i, none⟩ u) fun k hk hf => ?_
  simp at hf
  subst hf
  exact h.wne hcs (by decide) (by omega) hk

theorem PJ.putL (h : PJ w lo f m A v W) (lo' : Obj) (hlo : ∀ cs t fr, lo ≠ .cells cs t fr) : PJ w lo' f m A v (W.putObj (w.heap.size + 7) lo') := by
  have hl := h.lt
  have key : ∀ {k : Nat} {o : Obj}, W.heap[k]? = some o → k ≠ w.heap.size + 7 → (W.putObj (w.heap.size + 7) lo').heap[k]? = some o := fun hk hkl => (World.putObj_heap_other hkl).trans hk
  have hO : Only (fun k => k = w.heap.size + 7) W (W.putObj (w.heap.size + 7) lo') := ⟨rfl, rfl, rfl, by simp, fun k _ hk => World.putObj_heap_other hk⟩
  refine ⟨h.lt, World.putObj_heap_same (heap_lt h.hL), key h.hD (by omega), key h.r2 (by omega), key h.r3 (by omega), ?_, key h.pp (by omega), key h.fs (by omega), ?_, h.bel.trans (hO.below (fun k hk => by omega) h.bel.size)⟩
  · refine h.wr.only hO fun k hk hf => ?_
    subst hf
    rcases hk with hk | hk
    · omega
    · obtain ⟨g, cap, cur, e1, _, e3, _⟩ := h.wr.own.2.resolve_left (fun e => by rw [e.1] at hk; simp [Value.ownBlock] at hk)
      rw [e1] at hk
      simp [Value.ownBlock] at hk
      subst hk
      rw [h.hL] at e3
      exact hlo _ _ _ (Option.some.inj e3)
  · obtain ⟨cs, hcs⟩ := h.hA
    exact ⟨cs, key hcs (by omega)⟩

theorem PJ.ksL (h : PJ w lo f m A v W) (lo' : Obj) (hlo : ∀ cs t fr, lo ≠ .cells cs t fr) : KS W (W.putObj (w.heap.size + 7) lo') := fun j cs hj => by
  refine (World.putObj_heap_other ?_).trans hj
  rintro rfl
  rw [h.hL] at hj
  exact hlo _ _ _ (Option.some.inj hj)

theorem PJ.flag (h : PJ w lo f m A v W) (b : Bool) : PJ w lo b m A v (W.setCell ⟨w.heap.size + 4, 0, none⟩ (.bool b)) := by
  have hl := h.lt
  have key : ∀ {k : Nat} {o : Obj}, W.heap[k]? = some o → k ≠ w.heap.size + 4 → (W.setCell ⟨w.heap.size + 4, 0, none⟩ (.bool b)).heap[k]? = some o := fun hk hkl => (Below.heap_setCell W ⟨w.heap.size + 4, 0, none⟩ _ _ hkl).trans hk
  refine ⟨h.lt, key h.hL (by omega), key h.hD (by omega), key h.r2 (by omega), key h.r3 (by omega), ?_, key h.pp (by omega), row_setCell h.fs 0 _, ?_, h.bel.setCell (by simp) _⟩
  · refine h.wr.only (setCell_only W ⟨w.heap.size + 4, 0, none⟩ _) fun k hk hf => ?_
    simp at hf
    subst hf
    exact h.wne h.fs (by decide) (by omega) hk
  · obtain ⟨cs, hcs⟩ := h.hA
    exact ⟨cs, key hcs (by omega)⟩

theorem PJ.wrote {n : List UInt8} {v' : Value} (h : PJ w lo f m A v W) (k : Wrote W w.heap.size (w.heap.size + 2) v m n v' W') (hlo : ∀ cs t fr, lo ≠ .cells cs t fr) : PJ w lo f (m ++ n) A v' W' ∧ KS W W' := by
  have hl := h.lt
  have key : ∀ {j : Nat} {cs : Array Value} {t : TypeId}, W.heap[j]? = some (.cells cs t (0, 0)) → t ≠ 5 → j ≠ w.heap.size + 2 → W'.heap[j]? = some (.cells cs t (0, 0)) := fun hj ht hne => (k.only.block _ (heap_lt hj) (h.wne hj ht hne)).trans hj
  have key2 : ∀ {j : Nat} {o : Obj}, W.heap[j]? = some o → (∀ cs t fr, o ≠ .cells cs t fr) → j ≠ w.heap.size + 2 → W'.heap[j]? = some o := fun hj hne hj2 => (k.only.block _ (heap_lt hj) (by
    rintro (rfl | hk)
    · exact hj2 rfl
    · obtain ⟨g, cap, cur, e1, _, e3, _⟩ := h.wr.own.2.resolve_left (fun e => by rw [e.1] at hk; simp [Value.ownBlock] at hk)
      rw [e1] at hk
      simp [Value.ownBlock] at hk
      subst hk
      rw [hj] at e3
      exact hne _ _ _ (Option.some.inj e3))).trans hj
  refine ⟨⟨h.lt, key2 h.hL hlo (by omega), key2 h.hD (by simp) (by omega), key h.r2 (by decide) (by omega), key h.r3 (by decide) (by omega), k.wr, key h.pp (by decide) (by omega), key h.fs (by decide) (by omega), ?_, h.bel.trans (k.bel h.wr h.bel.size)⟩, ?_⟩
  · obtain ⟨cs, hcs⟩ := h.hA
    exact ⟨cs, key hcs (by decide) (by omega)⟩
  · intro j cs hj
    refine key hj (by decide) ?_
    rintro rfl
    rw [h.wr.cell] at hj
    simp at hj
end

end Go.Proofs.YtjnbdeopoohnmaaGreatDoor
/- The walk of Put of layer 5 (sample). -/
namespace Go.Proofs.YtjnbdeopoohnmaaGreatDoor
open Go.RowKit Go.Shelf
attribute [local go_sem] Oper.semAt_some

/-- between two rounds -/
def PJr (w : World) (l : List Smp) (rec : LoopState → Option Code → Loop) (A k : Nat) (W : World) : Prop :=
  (∃ v, PJ w (.loop (rec .ready none)) (decide (k = 0)) (sputs szero (l.take k)) A v W) ∧ SRight (l.take k)
/-- a round has left -/
def PJx (w : World) (l : List Smp) (rec : LoopState → Option Code → Loop) (W : World) : Prop :=
  W.heap[w.heap.size + 7]? = some (.loop (rec .done (some .ret))) ∧ W.heap[w.heap.size + 6]? = some (.deferred (some [])) ∧ W.heap[w.heap.size]? = some (.cells #[.slice none 0 0] 25 (0, 0)) ∧ W.heap[w.heap.size + 1]? = some (.cells #[.int .i64 2] 35 (0, 0)) ∧ Below w.heap.size w W ∧ ¬ SRight l

/-- a range over a function, its record named -/
theorem wpIn_range {F : Fence} {n : Nat} {P : Program} {g : Operand} {ps : Array Tmp} {assign body : Code} {Q : Exit → Act → World → Prop} {a : Act} {w : World} (hro : F.round = none) (h1 : 1 ≤ n) {gf : Nat} {lb : Array Value}
    (hg : a.eval g = .func (.func gf) #[] lb) (hFg : F.fn gf) (eg : ∀ args w, (callFunc gf args).run P w = .ok (.enter gf args) w)
    (h : ∀ fn, F.fn fn → ∀ rec : LoopState → Option Code → Loop, rec = (fun st pe => { state := st, pending := pe, fn, tmps := a.tmps, params := ps, assign, body, defers := w.heap.size }) →
      CallsIn F (n - 1) P gf (#[.func (.yield (w.heap.size + 1)) #[] #[]] ++ lb) ((w.alloc (.deferred (some []))).alloc (.loop (rec .ready none))) (rangePost F n P (w.heap.size + 1) Q { a with defers := [{ target := .collected w.heap.size, args := #[] }] ++ a.defers })) :
    (Code.rangeFunc g ps assign body).wpIn F n P Q a w := by
  refine wpIn_rangeFunc ?_
  intro fn hfn
  rw [hro]
  obtain ⟨rec, hrec⟩ : ∃ rec : LoopState → Option Code → Loop, rec = fun st pe => { state := st, pending := pe, fn, tmps := a.tmps, params := ps, assign, body, defers := w.heap.size } := ⟨_, rfl⟩
  have h2 := h fn hfn rec hrec
  clear h
  obtain ⟨W1, hW1⟩ : ∃ W1, (w.alloc (.deferred (some []))).alloc (.loop (rec .ready none)) = W1 := ⟨_, rfl⟩
  rw [hW1] at h2
  refine ⟨w.heap.size + 1, [{ target := .collected w.heap.size, args := #[] }], W1, { target := .fn (.func gf) lb, args := #[.func (.yield (w.heap.size + 1)) #[] #[]] }, W1, gf, #[.func (.yield (w.heap.size + 1)) #[] #[]] ++ lb, W1, ?_, ?_, ?_, ?_, fun _ => h1, ?_⟩
  · rw [← hW1, hrec]
    exact run_enterLoop_outer _ _ _ _ _
  · simp only [resolve, hg]
    simp [go_sem]
  · intro f' hf'
    simp [Target.leads] at hf'
    subst hf'
    exact hFg
  · simp [invoke, go_sem, eg]
  · trace "last"
    exact h2

/-- a round, its record named -/
theorem yieldAt_of {F : Fence} {n : Nat} {P : Program} {rec : LoopState → Option Code → Loop} {fn : FuncId} {tmps : Array Value} {ps : Array Tmp} {assign body : Code} {d l : Nat} {args : Array Value} {W : World} {R : Ending → World → Prop} (hfn : F.fn fn)
    (hrec : rec = (fun st pe => { state := st, pending := pe, fn, tmps, params := ps, assign, body, defers := d })) (hL : W.heap[l]? = some (.loop (rec .ready none))) (hs : args.size = ps.size)
    (h : assign.wpIn (F.inRound l) (n - 1) P (Exit.then (fun a₁ w₁ => ∃ w₂, (Instr.beginRound l).run P w₁ = .ok () w₂ ∧ body.wpIn (F.inRound l) (n - 1) P (roundPost P l R) a₁ w₂) (fun _ _ _ => False))
      { tmps := (ps.zip args).foldl (fun t (p, v) => t.setIfInBounds p v) tmps, defers := [] } W) : YieldAt F (n - 1) P l args W R := by
  have hy := run_yield (P := P) (args := args) hL (by rw [hrec]; exact hs)
  rw [hrec] at hy
  exact ⟨fn, _, assign, body, hy, roundIn_of_wpIn hfn h⟩

theorem end_named {P : Program} {w : World} {l : Nat} {r : Loop} (h : w.heap[l]? = some (.loop r)) (hb : r.state ≠ .busy) :
    ∃ (W3 : World) (lo : Loop), (Instr.endLoop l).run P w = .ok r.pending W3 ∧ w.putObj l (.loop lo) = W3 := ⟨_, _, run_endLoop h hb, rfl⟩

theorem base_heap (w : World) (o0 o1 o2 o3 o4 o5 : Obj) {W : World} (h : (((((w.alloc o0).alloc o1).alloc o2).alloc o3).alloc o4).alloc o5 = W) :
    W.heap.size = w.heap.size + 6 ∧ W.heap[w.heap.size]? = some o0 ∧ W.heap[w.heap.size + 1]? = some o1 ∧ W.heap[w.heap.size + 2]? = some o2 ∧ W.heap[w.heap.size + 3]? = some o3 ∧ W.heap[w.heap.size + 4]? = some o4 ∧ W.heap[w.heap.size + 5]? = some o5 ∧ Below w.heap.size w W := by
  subst h
  refine ⟨by simp, ?_, ?_, ?_, ?_, ?_, ?_, (((((((Below.refl _ w).alloc (Nat.le_refl _) o0).alloc (by simp) o1).alloc (by simp; omega) o2).alloc (by simp; omega) o3).alloc (by simp; omega) o4).alloc (by simp; omega) o5)⟩
  all_goals
    simp only [alloc_get, World.size_alloc]
    repeat (first | rw [if_pos (by omega)] | rw [if_neg (by omega)])
    try simp

theorem PJ.facts {w W : World} {lo : Obj} {f : Bool} {m : List UInt8} {A : Nat} {v : Value} (h : PJ w lo f m A v W) :
    W.cell? ⟨w.heap.size, 0, none⟩ = some (.slice none 0 0) ∧ W.cell? ⟨w.heap.size + 1, 0, none⟩ = some (.int .i64 0) ∧ W.cell? ⟨w.heap.size + 1 + 1 + 1, 0, none⟩ = some (.pointer (some ⟨w.heap.size + 1 + 1, 0, none⟩)) ∧ W.cell? ⟨w.heap.size + 1 + 1 + 1 + 1, 0, none⟩ = some (.bool f) ∧
      W.frozen? ⟨w.heap.size, 0, none⟩ = false ∧ W.frozen? ⟨w.heap.size + 1, 0, none⟩ = false ∧ W.frozen? ⟨w.heap.size + 1 + 1 + 1 + 1, 0, none⟩ = false :=
  ⟨cell_of_row W _ 0 _ _ _ h.r2, cell_of_row W _ 0 _ _ _ h.r3, cell_of_row W _ 0 _ _ _ h.pp, cell_of_row W _ 0 _ _ _ h.fs, row_free h.r2 0, row_free h.r3 0, row_free h.fs 0⟩

theorem PJ.fail {w W : World} {l : List Smp} {rec : LoopState → Option Code → Loop} {lo : Loop} {f : Bool} {m : List UInt8} {A : Nat} {v : Value} (h : PJ w (.loop lo) f m A v W) (hfix : { lo with state := .done, pending := some .ret } = rec .done (some .ret)) (hno : ¬ SRight l) :
    ∃ u W', (Instr.endRound (w.heap.size + 7) (some .ret)).run Tryz.prog ((W.setCell ⟨w.heap.size, 0, none⟩ (.slice none 0 0)).setCell ⟨w.heap.size + 1, 0, none⟩ (.int .i64 2)) = .ok u W' ∧ u = .bool false ∧ PJx w l rec W' := by
  have key : ∀ {k : Nat} {o : Obj}, W.heap[k]? = some o → k ≠ w.heap.size → k ≠ w.heap.size + 1 → ((W.setCell ⟨w.heap.size, 0, none⟩ (.slice none 0 0)).setCell ⟨w.heap.size + 1, 0, none⟩ (.int .i64 2)).heap[k]? = some o := fun hk h1 h2 =>
    (Below.heap_setCell _ ⟨w.heap.size + 1, 0, none⟩ _ _ h2).trans ((Below.heap_setCell _ ⟨w.heap.size, 0, none⟩ _ _ h1).trans hk)
  have hL := key h.hL (by omega) (by omega)
  have r2 := (Below.heap_setCell (W.setCell ⟨w.heap.size, 0, none⟩ (.slice none 0 0)) ⟨w.heap.size + 1, 0, none⟩ (.int .i64 2) w.heap.size (by simp)).trans (row_setCell h.r2 0 (.slice none 0 0))
  have r3 := row_setCell ((Below.heap_setCell W ⟨w.heap.size, 0, none⟩ (.slice none 0 0) (w.heap.size + 1) (by simp)).trans h.r3) 0 (.int .i64 2)
  have hb : Below w.heap.size w ((W.setCell ⟨w.heap.size, 0, none⟩ (.slice none 0 0)).setCell ⟨w.heap.size + 1, 0, none⟩ (.int .i64 2)) := (h.bel.setCell (by simp) _).setCell (by simp) _
  refine ⟨_, _, run_endRound (some .ret) hL, rfl, ?_, ?_, ?_, ?_, ?_, hno⟩
  · rw [World.putObj_heap_same (heap_lt hL)]
    exact congrArg (fun x => some (Obj.loop x)) hfix
  · exact (World.putObj_heap_other (by omega)).trans (key h.hD (by omega) (by omega))
  · exact (World.putObj_heap_other (by omega)).trans r2
  · exact (World.putObj_heap_other (by omega)).trans r3
  · exact hb.trans ((Only.below (F := fun k => k = w.heap.size + 7) ⟨rfl, rfl, rfl, by simp, fun k _ hk => World.putObj_heap_other hk⟩ (fun k hk => by omega) hb.size))

theorem PJ.again {w W : World} {lo : Loop} {rec : LoopState → Option Code → Loop} {f : Bool} {m : List UInt8} {A : Nat} {v : Value} (h : PJ w (.loop lo) f m A v W) (hfix : { lo with state := .ready, pending := none } = rec .ready none) :
    ∃ u W', (Instr.endRound (w.heap.size + 7) none).run Tryz.prog W = .ok u W' ∧ u = .bool true ∧ PJ w (.loop (rec .ready none)) f m A v W' ∧ KS W W' ∧ Below (w.heap.size + 7) W W' := by
  refine ⟨_, _, run_endRound none h.hL, rfl, ?_, ?_, ?_⟩
  · have := h.putL (.loop (rec .ready none)) (by simp)
    rw [← hfix] at this ⊢
    exact this
  · exact h.ksL _ (by simp)
  · exact (Only.below (F := fun k => k = w.heap.size + 7) ⟨rfl, rfl, rfl, by simp, fun k _ hk => World.putObj_heap_other hk⟩ (fun k hk => by omega) (by have := heap_lt h.hL; omega))

theorem leave_res {B : Nat} {W : World} {x0 y0 : Value} (x y : Value) (hD : W.heap[B + 6]? = some (.deferred (some []))) (r2 : W.heap[B]? = some (.cells #[x0] 25 (0, 0))) (r3 : W.heap[B + 1]? = some (.cells #[y0] 35 (0, 0))) :
    ((W.setCell ⟨B, 0, none⟩ x).setCell ⟨B + 1, 0, none⟩ y).heap[B + 6]? = some (.deferred (some [])) ∧
    (((W.setCell ⟨B, 0, none⟩ x).setCell ⟨B + 1, 0, none⟩ y).putObj (B + 6) (.deferred none)).cell? ⟨B, 0, none⟩ = some x ∧
    (((W.setCell ⟨B, 0, none⟩ x).setCell ⟨B + 1, 0, none⟩ y).putObj (B + 6) (.deferred none)).cell? ⟨B + 1, 0, none⟩ = some y ∧
    Only (fun k => k = B ∨ k = B + 1 ∨ k = B + 6) W (((W.setCell ⟨B, 0, none⟩ x).setCell ⟨B + 1, 0, none⟩ y).putObj (B + 6) (.deferred none)) := by
  have hD2 := (Below.heap_setCell (W.setCell ⟨B, 0, none⟩ x) ⟨B + 1, 0, none⟩ y (B + 6) (by simp)).trans ((Below.heap_setCell W ⟨B, 0, none⟩ x (B + 6) (by simp)).trans hD)
  have q2 := (Below.heap_setCell (W.setCell ⟨B, 0, none⟩ x) ⟨B + 1, 0, none⟩ y B (by simp)).trans (row_setCell r2 0 x)
  have q3 := row_setCell ((Below.heap_setCell W ⟨B, 0, none⟩ x (B + 1) (by simp)).trans r3) 0 y
  refine ⟨hD2, cell_of_row _ _ 0 _ _ _ ((World.putObj_heap_other (by omega)).trans q2), cell_of_row _ _ 0 _ _ _ ((World.putObj_heap_other (by omega)).trans q3), ?_⟩
  refine ⟨rfl, rfl, rfl, by simp [World.setCell], fun k _ hk => ?_⟩
  rw [World.putObj_heap_other (by omega), Below.heap_setCell _ ⟨B + 1, 0, none⟩ _ _ (by simp; omega), Below.heap_setCell _ ⟨B, 0, none⟩ _ _ (by simp; omega)]

theorem leave_res0 {B : Nat} {W : World} {x0 y0 : Value} (r2 : W.heap[B]? = some (.cells #[x0] 25 (0, 0))) (r3 : W.heap[B + 1]? = some (.cells #[y0] 35 (0, 0))) :
    (W.putObj (B + 6) (.deferred none)).cell? ⟨B, 0, none⟩ = some x0 ∧ (W.putObj (B + 6) (.deferred none)).cell? ⟨B + 1, 0, none⟩ = some y0 ∧ Only (fun k => k = B ∨ k = B + 1 ∨ k = B + 6) W (W.putObj (B + 6) (.deferred none)) :=
  ⟨cell_of_row _ _ 0 _ _ _ ((World.putObj_heap_other (by omega)).trans r2), cell_of_row _ _ 0 _ _ _ ((World.putObj_heap_other (by omega)).trans r3),
    ⟨rfl, rfl, rfl, by simp, fun k _ hk => World.putObj_heap_other (by omega)⟩⟩

theorem below_between {B : Nat} {w W W' : World} (h : Below B w W) (k : Below B w W') (hs : W.heap.size ≤ W'.heap.size) : Below B W W' :=
  ⟨k.os.trans h.os.symm, k.tape.trans h.tape.symm, k.output.trans h.output.symm, hs, fun i hi => (k.block i hi).trans (h.block i hi).symm⟩

set_option maxRecDepth 100000 in
set_option maxHeartbeats 3200000 in
theorem sput_any (va : Value) (l : List Smp) (w : World) (ha : Ss w va l) : Calls Tryz.prog 69 #[va] w (SPutPost l w) := by
  obtain ⟨n, hn⟩ : ∃ n, l.length = n := ⟨_, rfl⟩
  obtain ⟨a, ca, b1, o1, rfl, ha1, ha2, ha3, ha4, ha5, ha6⟩ := Ss.open_b elS ha n hn
  have HN := Lib.hid hn
  have HA := Lib.hid ha
  clear hn ha
  by_cases hbig : 2048 < n
  · have e1 : (2048 : Int) < n := by omega
    go_enter Tryz.func69, Tryz.ntmps69
    go_wp2
    refine bodyPost_ret (v := .tuple #[.slice none 0 0, .int .i64 3]) (by simp [results, Tryz.results69, go_sem]) rfl ?_
    unfold SPutPost
    rw [if_pos (by rw [HN.out]; exact hbig)]
    exact ⟨rfl, ((Below.refl _ _).alloc (Nat.le_refl _) _).alloc (by simp) _⟩
  · refine (callsIn_wide (n := 3)).1 ?_
    refine callsIn_of_wp_marks Tryz.func69 rfl trivial ?_ rfl
    simp only [Tryz.ntmps69, List.size_toArray, List.length_cons, List.length_nil, Nat.reduceAdd, Nat.reduceSub, Array.replicate_succ, Array.replicate_zero, List.push_toArray, List.append_toArray, List.nil_append, List.cons_append]
    have e1 : (n : Int) ≤ 2048 := by omega
    gi_wp2_with (refine ⟨trivial, ?_⟩; gi_at_call 98; refine (steps_in Fence.wide _ trivial rfl a n ca _).mono ?_; rintro e w' ⟨rfl, rfl⟩)
    obtain ⟨W0, hW0⟩ : ∃ W0, (((((w.alloc (.cells #[.slice none 0 0] 25)).alloc (.cells #[.int .i64 0] 35)).alloc (.cells #[.slice none 0 0] 93)).alloc (.cells #[.pointer (some ⟨w.heap.size + 1 + 1, 0, none⟩)] 91)).alloc (.cells #[.bool true] 4)).alloc (.cells #[.slice a n ca] 26) = W0 := ⟨_, rfl⟩
    rw [hW0]
    obtain ⟨hs0, k0, k1, k2, k3, k4, k5, hbel⟩ := base_heap w _ _ _ _ _ _ hW0
    clear hW0
    refine wpIn_range rfl (by omega) (gf := 116) (lb := #[.pointer (some ⟨w.heap.size + 1 + 1 + 1 + 1 + 1, 0, none⟩)]) rfl trivial (enters_of Tryz.func116 (by kernel_rfl) rfl) ?_
    intro fn hfn rec hrec
    rw [hs0, show w.heap.size + 6 + 1 = w.heap.size + 7 from rfl]
    obtain ⟨W1, hW1⟩ : ∃ W1, (W0.alloc (.deferred (some []))).alloc (.loop (rec .ready none)) = W1 := ⟨_, rfl⟩
    rw [hW1]
    have hold : ∀ k, k < W0.heap.size → W1.heap[k]? = W0.heap[k]? := fun k hk => by
      rw [← hW1]; exact (Below.heap_alloc _ _ k (by simp; omega)).trans (Below.heap_alloc _ _ k hk)
    have hL1 : W1.heap[w.heap.size + 7]? = some (.loop (rec .ready none)) := by
      rw [← hW1]; have := World.alloc_heap_new (W0.alloc (.deferred (some []))) (.loop (rec .ready none)); rw [World.size_alloc, hs0] at this; exact this
    have hD1 : W1.heap[w.heap.size + 6]? = some (.deferred (some [])) := by
      rw [← hW1, ← hs0]; exact (Below.heap_alloc _ _ _ (by simp)).trans (World.alloc_heap_new W0 _)
    have hs1 : W1.heap.size = w.heap.size + 8 := by rw [← hW1]; simp [hs0]
    have hb1 : Below w.heap.size w W1 := by rw [← hW1]; exact (hbel.alloc (by omega) _).alloc (by simp; omega) _
    clear hW1
    have hrp : PJ w (.loop (rec .ready none)) true [] (w.heap.size + 8) (.slice none 0 0) (W1.alloc (.cells #[.int .i64 0, .int .i64 0, .int .i64 0] 55)) := by
      have key : ∀ {k : Nat} {o : Obj}, W0.heap[k]? = some o → k < W0.heap.size → (W1.alloc (.cells #[.int .i64 0, .int .i64 0, .int .i64 0] 55)).heap[k]? = some o := fun hk hl => (Below.heap_alloc W1 _ _ (by omega)).trans ((hold _ hl).trans hk)
      refine ⟨by omega, (Below.heap_alloc W1 _ _ (by omega)).trans hL1, (Below.heap_alloc W1 _ _ (by omega)).trans hD1, key k0 (by omega), key k1 (by omega), ⟨by omega, key k2 (by omega), Ob.nil _ _ _⟩, key k3 (by omega), key k4 (by omega), ⟨#[.int .i64 0, .int .i64 0, .int .i64 0], ?_⟩, hb1.alloc (by omega) _⟩
      rw [← hs1]
      exact heap_alloc_new W1 _
    refine (steps1_in Fence.wide _ trivial rfl (by omega) _ (w.heap.size + 5) w.heap.size (.slice a n ca) l (PJr w l rec) (fun _ _ W => PJx w l rec W) ?js ?ja ?hy W1 (by omega) (by omega) ?box (HA.out.below hb1) ?blk ?h0).mono ?post
    case js => exact fun A k W i u ⟨⟨v, h1⟩, h2⟩ => ⟨⟨v, h1.setA i u⟩, h2⟩
    case ja => exact fun A k W o ⟨⟨v, h1⟩, h2⟩ => ⟨⟨v, h1.alloc o⟩, h2⟩
    case box => exact cell_of_row W1 _ 0 _ _ _ ((hold _ (by omega)).trans k5)
    case blk =>
      intro b h0 hb
      rw [HN.out] at h0
      have h1 := ha6 0 h0
      rw [h1] at hb
      cases hb
      exact ha4 0 h0
    case h0 => rw [hs1]; exact ⟨⟨_, hrp⟩, fun i s h => by simp at h⟩
    case hy =>
      intro A k s W hs hJ hA
      obtain ⟨⟨v, hJ⟩, hR⟩ := hJ
      refine yieldAt_of (n := 3 - 1) hfn hrec hJ.hL rfl ?_
      have HREC := Lib.hid hrec
      clear hrec
      simp only [Smp.agg]
      have hR := Lib.hid hR
      have HS := Lib.hid hs
      clear hs
      obtain ⟨p, hp⟩ : ∃ p, p = slast szero (l.take k) := ⟨_, rfl⟩
      rw [← hp]
      have HP := Lib.hid hp
      clear hp
      gi_wp2
      obtain ⟨W2, hW2⟩ : ∃ W2, (W.alloc (.cells #[.int .i64 p.t, .int .i64 p.x, .int .i64 p.y] 55)).alloc (.cells #[.int .i64 s.t, .int .i64 s.x, .int .i64 s.y] 55) = W2 := ⟨_, rfl⟩
      rw [hW2]
      have hJ2 : PJ w (.loop (rec .ready none)) (decide (k = 0)) (sputs szero (l.take k)) A v W2 := by rw [← hW2]; exact (hJ.alloc _).alloc _
      have ka : W2.heap[W.heap.size]? = some (.cells #[.int .i64 p.t, .int .i64 p.x, .int .i64 p.y] 55 (0, 0)) := by rw [← hW2, alloc_get, if_neg (by simp), alloc_get, if_pos rfl]
      have ks : W2.heap[W.heap.size + 1]? = some (.cells #[.int .i64 s.t, .int .i64 s.x, .int .i64 s.y] 55 (0, 0)) := by rw [← hW2, alloc_get, if_pos (by simp)]
      have hKS2 : KS W W2 := by rw [← hW2]; exact KS.below (((Below.refl _ _).alloc (Nat.le_refl _) _).alloc (by simp) _)
      have hz2 : W2.heap.size = W.heap.size + 2 := by rw [← hW2]; simp
      have hbr := run_beginRound (P := Tryz.prog) hJ2.hL (by rw [HREC.out])
      have hsW : w.heap.size + 8 ≤ W.heap.size := by have := heap_lt hJ.hA.choose_spec; have := hJ.lt; omega
      clear hW2
      refine ⟨_, hbr, ?_⟩
      obtain ⟨W3, hW3⟩ : ∃ W3, W2.putObj (w.heap.size + 7) (.loop { rec .ready none with state := .busy }) = W3 := ⟨_, rfl⟩
      rw [hW3]
      have hJ3 : PJ w (.loop { rec .ready none with state := .busy }) (decide (k = 0)) (sputs szero (l.take k)) A v W3 := by rw [← hW3]; exact hJ2.putL _ (by simp)
      have hKSL := hJ2.ksL (.loop { rec .ready none with state := .busy }) (by simp)
      rw [hW3] at hKSL
      have hz3 : W3.heap.size = W.heap.size + 2 := by rw [← hW3, World.putObj_size, hz2]
      have hk3 := Lib.hid (hKS2.trans hKSL)
      have ka3 := Lib.hid (hKSL _ _ ka)
      have ks3 := Lib.hid (hKSL _ _ ks)
      have hfixD := Lib.hid (show ({ ({ rec .ready none with state := .busy } : Loop) with state := .done, pending := some .ret } : Loop) = rec .done (some .ret) by rw [HREC.out])
      have hfixR := Lib.hid (show ({ ({ rec .ready none with state := .busy } : Loop) with state := .ready, pending := none } : Loop) = rec .ready none by rw [HREC.out])
      have hbW := hJ.bel
      have HZ3 := Lib.hid hz3
      clear hW3 hbr ka ks hz2 hz3 hJ2 hJ hKSL hKS2 HREC
      have s0 : W3.cell? ⟨W.heap.size + 1, 0, none⟩ = some (.int .i64 s.t) := cell_of_row W3 _ 0 _ _ _ ks3.out
      have s1 : W3.cell? ⟨W.heap.size + 1, 1, none⟩ = some (.int .i64 s.x) := cell_of_row W3 _ 1 _ _ _ ks3.out
      have s2 : W3.cell? ⟨W.heap.size + 1, 2, none⟩ = some (.int .i64 s.y) := cell_of_row W3 _ 2 _ _ _ ks3.out
      have hd : 1 ≤ 3 - 1 - 1 := by omega
      by_cases hm : mayB s = true
      · have HM := Lib.hid hm
        have HSM : Hid (SMay s) := (mayB_iff s).1 hm
        clear hm
        have hk0 : k = 0 → p = szero := fun h => by rw [HP.out, h]; rfl
        have HK0 := Lib.hid hk0
        clear hk0
        by_cases hle : 0 < k ∧ s.t ≤ p.t
        · have hf : decide (k = 0) = false := by simp; omega
          rw [hf] at hJ3
          have hle2 : decide (s.t ≤ p.t) = true := by simp; omega
          have HLE := Lib.hid hle
          clear hle hf
          gi_wp2_with fail
          refine ⟨trivial, ?_⟩
          refine (CallsIn.inRound _ (callsIn_wide.2 (smay_is s true HM.out _))).mono ?_
          rintro e w4 ⟨rfl, hb4⟩
          have hJ4 := hJ3.below hb4
          obtain ⟨x1, x2, x3, x4, x5, x6, x7⟩ := hJ4.facts
          have ka4 := KS.below hb4 _ _ ka3.out
          have ks4 := KS.below hb4 _ _ ks3.out
          have a0 : w4.cell? ⟨W.heap.size, 0, none⟩ = some (.int .i64 p.t) := cell_of_row w4 _ 0 _ _ _ ka4
          have s0 : w4.cell? ⟨W.heap.size + 1, 0, none⟩ = some (.int .i64 s.t) := cell_of_row w4 _ 0 _ _ _ ks4
          clear hJ3
          gi_wp2
          obtain ⟨u, W', h1, rfl, h2⟩ := hJ4.fail (l := l) (rec := rec) hfixD.out (sright_no l k s HS.out (.inr (by rw [← HP.out]; exact HLE.out)))
          exact ⟨_, _, h1, .inr ⟨rfl, h2⟩⟩
        · have hrange : -67108864 < s.x - p.x ∧ s.x - p.x < 67108864 ∧ -67108864 < s.y - p.y ∧ s.y - p.y < 67108864 ∧ 0 ≤ s.t - p.t ∧ s.t - p.t ≤ 1099511627776 := by
            have hsm := HSM.out
            have hl := sright_last l k hR.out
            rw [← HP.out] at hl
            rcases hl with e | e
            · rw [e]; unfold SMay at hsm; simp only [szero]; omega
            · by_cases h0 : k = 0
              · rw [HK0.out h0]; unfold SMay at hsm; simp only [szero]; omega
              · unfold SMay at hsm e; omega
          have hdd : decide (k = 0) = true ∨ (decide (k = 0) = false ∧ decide (s.t ≤ p.t) = false) := by
            rcases (show (k = 0) ∨ (0 < k) by omega) with h | h
            · left; simp; omega
            · right; constructor <;> simp <;> omega
          have HLE : Hid (0 < k → p.t < s.t) := fun h => by omega
          have hlen : (sputs szero (l.take k)).length ≤ 61440 := by
            have h1 := sputs_len (l.take k) szero (.inl rfl) (fun x hx => by
              obtain ⟨i, hi, rfl⟩ := List.getElem_of_mem hx
              exact (hR.out i _ (List.getElem?_eq_getElem hi)).1)
            rw [List.length_take] at h1
            have := HN.out
            omega
          have hv1 := vput_len10 (s.t - p.t).toNat (by omega)
          have hv2 := vput_len10 (vturn (s.x - p.x)).toNat (vturn_bound _ (by omega) (by omega))
          clear hle
          obtain ⟨fl, hfl⟩ : ∃ fl, decide (k = 0) = fl := ⟨_, rfl⟩
          rw [hfl] at hJ3 hdd
          clear hfl
          rcases hdd with rfl | ⟨rfl, hd2⟩
          all_goals
            gi_wp2_with fail
            refine ⟨trivial, ?_⟩
            refine (CallsIn.inRound _ (callsIn_wide.2 (smay_is s true HM.out _))).mono ?_
            rintro e w4 ⟨rfl, hb4⟩
            have hJ4 := hJ3.below hb4
            obtain ⟨x1, x2, x3, x4, x5, x6, x7⟩ := hJ4.facts
            have ka4 := KS.below hb4 _ _ ka3.out
            have ks4 := KS.below hb4 _ _ ks3.out
            have a0 : w4.cell? ⟨W.heap.size, 0, none⟩ = some (.int .i64 p.t) := cell_of_row w4 _ 0 _ _ _ ka4
            have s0 : w4.cell? ⟨W.heap.size + 1, 0, none⟩ = some (.int .i64 s.t) := cell_of_row w4 _ 0 _ _ _ ks4
            have hJ5 := hJ4.flag false
            have hK5 := ((KS.below hb4).trans (KS.setCell hJ4.fs (by decide) (.bool false) (i := 0)))
            obtain ⟨y1, y2, y3, y4, y5, y6, y7⟩ := hJ5.facts
            have ka5 := hK5 _ _ ka3.out
            have ks5 := hK5 _ _ ks3.out
            have b0 : (w4.setCell ⟨w.heap.size + 1 + 1 + 1 + 1, 0, none⟩ (.bool false)).cell? ⟨W.heap.size, 0, none⟩ = some (.int .i64 p.t) := cell_of_row _ _ 0 _ _ _ ka5
            have t0 : (w4.setCell ⟨w.heap.size + 1 + 1 + 1 + 1, 0, none⟩ (.bool false)).cell? ⟨W.heap.size + 1, 0, none⟩ = some (.int .i64 s.t) := cell_of_row _ _ 0 _ _ _ ks5
            have z5 : (w4.setCell ⟨w.heap.size + 1 + 1 + 1 + 1, 0, none⟩ (.bool false)).cell? ⟨w.heap.size + 1 + 1 + 1, 0, none⟩ = some (.pointer (some ⟨w.heap.size + 1 + 1, 0, none⟩)) := y3
            have g5 : w.heap.size ≤ (w4.setCell ⟨w.heap.size + 1 + 1 + 1 + 1, 0, none⟩ (.bool false)).heap.size := hJ5.bel.size
            have HJ5 := Lib.hid hJ5
            have HK5 := Lib.hid hK5
            have HKA5 := Lib.hid ka5
            have HKS5 := Lib.hid ks5
            clear hJ3 hJ4 hJ5 hK5 ka5 ks5 ka4 ks4 y1 y2 y3 y4 y5 y6 y7
            gi_wp2_with fail
            refine ⟨trivial, ?_⟩
            refine (CallsIn.inRound _ (callsIn_wide.2 (wNumber_any _ (by omega) (by omega) (w.heap.size + 1 + 1) _ _ w.heap.size _ HJ5.out.wr g5 (by first | omega | (simp only [List.length_append]; omega))))).mono ?_
            rintro e w6 ⟨rfl, v6, hw6⟩
            obtain ⟨hJ6, hk6⟩ := HJ5.out.wrote hw6 (by simp)
            have g6 := hJ6.bel.size
            have sz6 : w4.heap.size ≤ w6.heap.size := by have := hw6.only.size; simpa [World.setCell] using this
            have ka6 := hk6 _ _ HKA5.out
            have ks6 := hk6 _ _ HKS5.out
            obtain ⟨-, -, z6, -, -, -, -⟩ := hJ6.facts
            have b6 : w6.cell? ⟨W.heap.size, 1, none⟩ = some (.int .i64 p.x) := cell_of_row _ _ 1 _ _ _ ka6
            have t6 : w6.cell? ⟨W.heap.size + 1, 1, none⟩ = some (.int .i64 s.x) := cell_of_row _ _ 1 _ _ _ ks6
            have HK6 := Lib.hid hk6
            have HJ6 := Lib.hid hJ6
            have HKA6 := Lib.hid ka6
            have HKS6 := Lib.hid ks6
            clear hw6 hk6 hJ6 ka6 ks6
            gi_wp2_with fail
            refine ⟨trivial, ?_⟩
            refine (CallsIn.inRound _ (callsIn_wide.2 (wSigned_any _ (by omega) (by omega) (w.heap.size + 1 + 1) _ _ w.heap.size _ HJ6.out.wr g6 (by first | omega | (simp only [List.length_append]; omega))))).mono ?_
            rintro e w7 ⟨rfl, v7, hw7⟩
            obtain ⟨hJ7, hk7⟩ := HJ6.out.wrote hw7 (by simp)
            have g7 := hJ7.bel.size
            have sz7 := hw7.only.size
            have ka7 := hk7 _ _ HKA6.out
            have ks7 := hk7 _ _ HKS6.out
            obtain ⟨-, -, z7, -, -, -, -⟩ := hJ7.facts
            have b7 : w7.cell? ⟨W.heap.size, 2, none⟩ = some (.int .i64 p.y) := cell_of_row _ _ 2 _ _ _ ka7
            have t7 : w7.cell? ⟨W.heap.size + 1, 2, none⟩ = some (.int .i64 s.y) := cell_of_row _ _ 2 _ _ _ ks7
            have HK7 := Lib.hid hk7
            have HJ7 := Lib.hid hJ7
            have HKA7 := Lib.hid ka7
            have HKS7 := Lib.hid ks7
            clear hw7 hk7 hJ7 ka7 ks7
            gi_wp2_with fail
            refine ⟨trivial, ?_⟩
            refine (CallsIn.inRound _ (callsIn_wide.2 (wSigned_any _ (by omega) (by omega) (w.heap.size + 1 + 1) _ _ w.heap.size _ HJ7.out.wr g7 (by first | omega | (simp only [List.length_append]; omega))))).mono ?_
            rintro e w8 ⟨rfl, v8, hw8⟩
            obtain ⟨hJ8, hk8⟩ := HJ7.out.wrote hw8 (by simp)
            have g8 := hJ8.bel.size
            have sz8 := hw8.only.size
            have ka8 := hk8 _ _ HKA7.out
            have ks8 := hk8 _ _ HKS7.out
            obtain ⟨-, -, z8, -, -, -, -⟩ := hJ8.facts
            have HK8 := Lib.hid hk8
            have HJ8 := Lib.hid hJ8
            have HKA8 := Lib.hid ka8
            have HKS8 := Lib.hid ks8
            clear hw8 hk8 hJ8 ka8 ks8
            gi_wp2_with fail
            obtain ⟨u, W', h1, rfl, h2, h3, h4⟩ := HJ8.out.again (rec := rec) hfixR.out
            refine ⟨_, _, h1, .inl ⟨rfl, ⟨⟨v8, ?_⟩, sright_take l k s HS.out hR.out HSM.out (fun h => by rw [← HP.out]; exact HLE.out h)⟩, below_between hbW h2.bel ?_, (((hk3.out.trans (HK5.out.trans HK6.out)).trans HK7.out).trans HK8.out).trans h3⟩⟩
            · rw [show decide (k + 1 = 0) = false by simp, List.take_add_one, HS.out]
              simp only [Option.toList_some]
              rw [sputs_snoc, ← HP.out]
              simpa [sput1, List.append_assoc] using h2
            · have e1 := HZ3.out
              have e2 := hb4.size
              have e3 := h4.size
              have e5 : (w4.setCell ⟨w.heap.size + 1 + 1 + 1 + 1, 0, none⟩ (.bool false)).heap.size = w4.heap.size := by simp [World.setCell]
              omega
      · have hm' : mayB s = false := by simpa using hm
        have HM := Lib.hid hm'
        clear hm hm'
        gi_wp2_with fail
        refine ⟨trivial, ?_⟩
        refine (CallsIn.inRound _ (callsIn_wide.2 (smay_is s false HM.out _))).mono ?_
        rintro e w4 ⟨rfl, hb4⟩
        have hJ4 := hJ3.below hb4
        obtain ⟨x1, x2, x3, x4, x5, x6, x7⟩ := hJ4.facts
        clear hJ3
        gi_wp2
        obtain ⟨u, W', h1, rfl, h2⟩ := hJ4.fail (l := l) (rec := rec) hfixD.out (sright_no l k s HS.out (.inl fun h => by rw [(mayB_iff s).2 h] at HM; exact absurd HM.out (by decide)))
        exact ⟨_, _, h1, .inr ⟨rfl, h2⟩⟩
    case post =>
      rw [HN.out]
      rintro e W2 ⟨⟨u, rfl⟩, hres⟩
      rcases hres with ⟨⟨v, hJ⟩, hR⟩ | ⟨k, hX⟩
      · obtain ⟨W3, lo, hend, hW3⟩ := end_named (P := Tryz.prog) hJ.hL (by rw [hrec]; simp)
        rw [show (rec .ready none).pending = none by rw [hrec]] at hend
        refine ⟨none, W3, hend, ?_⟩
        have hJ2 := hJ.putL (.loop lo) (by simp)
        rw [hW3] at hJ2
        obtain ⟨x1, x2, x3, -, x5, x6, -⟩ := hJ2.facts
        have g3 := hJ2.bel.size
        have HJ2 := Lib.hid hJ2
        have HR := Lib.hid hR
        have HREC := Lib.hid hrec
        have htake : l.take n = l := List.take_of_length_le (by have := HN.out; omega)
        have HT := Lib.hid htake
        clear hend hW3 hJ hJ2 hR hrec htake
        have hlen : (sputs szero (l.take n)).length ≤ 61440 := by
          have h1 := sputs_len (l.take n) szero (.inl rfl) (fun x hx => by
            obtain ⟨i, hi, rfl⟩ := List.getElem_of_mem hx
            exact (HR.out i _ (List.getElem?_eq_getElem hi)).1)
          rw [List.length_take] at h1
          have := HN.out
          omega
        gi_wp2_with fail
        refine ⟨trivial, ?_⟩
        refine (callsIn_wide.2 (wOut_any (w.heap.size + 1 + 1) _ _ w.heap.size W3 HJ2.out.wr (by omega))).mono ?_
        rintro e w4 ⟨v2, rfl, ho2, hb4⟩
        obtain ⟨a2, c2, hv2⟩ := ho2.shape
        subst hv2
        have hJ4 := HJ2.out.below hb4
        obtain ⟨y1, y2, -, -, y5, y6, -⟩ := hJ4.facts
        have HJ4 := Lib.hid hJ4
        have HO2 := Lib.hid ho2
        clear hJ4 x1 x2 x3 x5 x6 ho2
        gi_wp2
        obtain ⟨d1, d2, d3, d4⟩ := leave_res (B := w.heap.size) (.slice a2 (sputs szero (l.take n)).length c2) (.int .i64 0) HJ4.out.hD HJ4.out.r2 HJ4.out.r3
        refine ⟨by simp, .inl ⟨_, _, rfl, run_takeDeferred d1, ?_⟩⟩
        refine ⟨.tuple #[.slice a2 (sputs szero (l.take n)).length c2, .int .i64 0], by simp [results, Tryz.results69, go_sem, d2, d3], ?_⟩
        have hlt := HJ2.out.lt
        have hA2 := heap_lt HJ2.out.hA.choose_spec
        have ho4 := (HO2.out.mono (B' := w.heap.size) g3).only d4 (fun k hk => by have := (HO2.out.lt k hk).1; omega)
        have hr := HR.out
        rw [HT.out] at ho4 hr d4 ⊢
        unfold SPutPost
        rw [if_neg (by rw [HN.out]; exact hbig)]
        exact .inl ⟨hr, _, rfl, ho4, HJ4.out.bel.trans (d4.below (fun k hk => by omega) HJ4.out.bel.size)⟩
      · obtain ⟨hL, hD, r2, r3, hb, hno⟩ := hX
        obtain ⟨W3, lo, hend, hW3⟩ := end_named (P := Tryz.prog) hL (by rw [hrec]; simp)
        rw [show (rec .done (some .ret)).pending = some .ret by rw [hrec]] at hend
        refine ⟨some .ret, W3, hend, ?_⟩
        have hD3 : W3.heap[w.heap.size + 6]? = some (.deferred (some [])) := by rw [← hW3]; exact (World.putObj_heap_other (by omega)).trans hD
        have r23 : W3.heap[w.heap.size]? = some (.cells #[.slice none 0 0] 25 (0, 0)) := by rw [← hW3]; exact (World.putObj_heap_other (by omega)).trans r2
        have r33 : W3.heap[w.heap.size + 1]? = some (.cells #[.int .i64 2] 35 (0, 0)) := by rw [← hW3]; exact (World.putObj_heap_other (by omega)).trans r3
        have hb3 : Below w.heap.size w W3 := by
          rw [← hW3]
          exact hb.trans (Only.below (F := fun k => k = w.heap.size + 7) ⟨rfl, rfl, rfl, by simp, fun k _ hk => World.putObj_heap_other hk⟩ (fun k hk => by omega) hb.size)
        obtain ⟨d2, d3, d4⟩ := leave_res0 r23 r33
        have H2 := Lib.hid d2
        have H3 := Lib.hid d3
        have HREC := Lib.hid hrec
        clear hend hW3 hL hD r2 r3 r23 r33 hrec d2 d3
        gi_wp2
        refine ⟨by simp, .inl ⟨_, _, rfl, run_takeDeferred hD3, ?_⟩⟩
        have d2 := H2.out
        have d3 := H3.out
        refine ⟨.tuple #[.slice none 0 0, .int .i64 2], by simp [results, Tryz.results69, go_sem, d2, d3], ?_⟩
        unfold SPutPost
        rw [if_neg (by rw [HN.out]; exact hbig)]
        exact .inr ⟨hno, rfl, hb3.trans (d4.below (fun k hk => by omega) hb3.size)⟩

end Go.Proofs.YtjnbdeopoohnmaaGreatDoor
