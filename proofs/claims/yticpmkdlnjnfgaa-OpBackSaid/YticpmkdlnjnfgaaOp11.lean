/- Layer 38 (op): the reference's Take: its numbers and its parts as they grow. -/
import Derived.Test.YticpmkdlnjnfgaaOp10
import Derived.Test.YticpmkdlnjnfgaaRReader
set_option linter.unusedSimpArgs false
namespace Go.Proofs.Yticpmkdlnjnfgaa
open Go.RowKit Go.Sort

theorem info_ob : (Try.prog.info? 24).map (fun i => (i.zero, i.size, i.bytes)) = some (some (.slice none 0 0), 1, 24) := by kernel_rfl
theorem elOB : ElTy Try.prog 107 24 (.slice none 0 0) 1 24 := ⟨Try.underlying107, info_parts info_ob, rfl, by decide⟩

abbrev Tri := Option Addr × Nat × Nat
def Tri.v (t : Tri) : Value := .slice t.1 t.2.1 t.2.2
def csI (x : Int) : List Value := [.int .i64 x]
def csB (t : Tri) : List Value := [t.v]
theorem layI : Lay 1 csI := ⟨fun _ => rfl, fun a u h => by simp only [csI, List.mem_singleton] at h; subst h; rfl, by decide⟩
theorem layB : Lay 1 csB := ⟨fun _ => rfl, fun a u h => by simp only [csB, List.mem_singleton] at h; subst h; rfl, by decide⟩

section
variable {α : Type} {s : Nat} {cs : α → List Value} {w w' : World} {B e : Nat} {v : Value} {l : List α}
theorem Gw.ne {g t : Nat} {A : Array Value} (h : Gw s cs w B e v l) (hg : w.heap[g]? = some (.cells A t (0, 0))) (hne : t ≠ e) : v.ownBlock ≠ some g := by
  rcases h.2 with ⟨rfl, _⟩ | ⟨g', cap, cur, rfl, _, hg', _⟩
  · simp [Value.ownBlock]
  · simp only [Value.ownBlock, ne_eq, Option.some.injEq]
    rintro rfl
    rw [hg] at hg'
    simp at hg'
    exact hne hg'.2
theorem Gw.only {F : Nat → Prop} (h : Gw s cs w B e v l) (ho : Only F w w') (hd : ∀ k, v.ownBlock = some k → ¬ F k) : Gw s cs w' B e v l := by
  refine ⟨h.1, ?_⟩
  rcases h.2 with h2 | ⟨g, cap, cur, rfl, hb, hg, r⟩
  · exact .inl h2
  · refine .inr ⟨g, cap, cur, rfl, hb, ?_, r⟩
    rw [ho.block g (Array.getElem?_eq_some_iff.1 hg).1 (hd g rfl)]
    exact hg
/-- an owned row's block and its type -/
theorem Gw.tag (h : Gw s cs w B e v l) : ∀ k, v.ownBlock = some k → ∃ A, w.heap[k]? = some (.cells A e (0, 0)) := by
  rcases h.2 with ⟨rfl, _⟩ | ⟨g, cap, cur, rfl, _, hg, _⟩
  · intro k hk; simp [Value.ownBlock] at hk
  · intro k hk
    simp only [Value.ownBlock, Option.some.injEq] at hk
    subst hk
    exact ⟨_, hg⟩
theorem Gw.grow {B' : Nat} {l' : List α} {v' : Value} (h : Gw s cs w' B' e v' l') : Gw s cs w' B' e v' l' := h
end
theorem Ob.tag {w : World} {B e : Nat} {v : Value} {l : List UInt8} (h : Ob w B e v l) : ∀ k, v.ownBlock = some k → ∃ A, w.heap[k]? = some (.cells A e (0, 0)) := by
  rcases h.2 with ⟨rfl, _⟩ | ⟨g, cap, cur, rfl, _, hg, _⟩
  · intro k hk; simp [Value.ownBlock] at hk
  · intro k hk
    simp only [Value.ownBlock, Option.some.injEq] at hk
    subst hk
    exact ⟨_, hg⟩

structure RK (w : World) (r g : Nat) (y : Value) (c : List UInt8) (vn : Value) (xs : List Int) (vp : Value) (ts : List Tri) (L : Nat → List UInt8) (pos bad : Nat) (W : World) : Prop where
  rd : RRd W g y c pos bad
  res : W.heap[r]? = some (.cells opZeroRow 44 (0, 0))
  nums : Gw 1 csI W w.heap.size 3 vn xs
  parts : Gw 1 csB W w.heap.size 24 vp ts
  own : ∀ j (t : Tri), ts[j]? = some t → Ob W w.heap.size 5 t.v (L j)
  bel : Below w.heap.size w W
  lr : w.heap.size ≤ r
  lg : w.heap.size ≤ g
  src : c ≠ [] → ∀ x, y.ownBlock = some x → x < w.heap.size

section
variable {w W W' : World} {r g : Nat} {y : Value} {c : List UInt8} {vn vp : Value} {xs : List Int} {ts : List Tri} {L : Nat → List UInt8} {pos bad pos' bad' : Nat}
theorem RK.below (h : RK w r g y c vn xs vp ts L pos bad W) (hb : Below W.heap.size W W') : RK w r g y c vn xs vp ts L pos bad W' :=
  ⟨h.rd.below hb, (hb.block r (heap_lt h.res)).trans h.res, h.nums.below hb, h.parts.below hb, fun j t ht => (h.own j t ht).below hb, h.bel.trans (hb.mono h.bel.size), h.lr, h.lg, h.src⟩
theorem RK.read (h : RK w r g y c vn xs vp ts L pos bad W) (h1 : RRd W' g y c pos' bad') (ho : Only (fun k => k = g) W W') : RK w r g y c vn xs vp ts L pos' bad' W' :=
  ⟨h1, (ho.block r (heap_lt h.res) (op_ne_tag h.res h.rd.cell (by decide))).trans h.res,
    h.nums.only ho fun k hk e => h.nums.ne h.rd.cell (by decide) (by rw [hk, e]), h.parts.only ho fun k hk e => h.parts.ne h.rd.cell (by decide) (by rw [hk, e]),
    fun j t ht => (h.own j t ht).only ho fun k hk e => (h.own j t ht).ne h.rd.cell (by decide) (by rw [hk, e]),
    h.bel.trans (ho.below (fun x hx => by have := h.lg; omega) h.bel.size), h.lr, h.lg, h.src⟩
/-- a number more -/
theorem RK.addn {vn' : Value} {xs' : List Int} (h : RK w r g y c vn xs vp ts L pos bad W) (hg : W.grownBy W' vn.ownBlock) (hn : Gw 1 csI W' w.heap.size 3 vn' xs') : RK w r g y c vn' xs' vp ts L pos bad W' := by
  have ho := grown_only hg
  refine ⟨h.rd.only ho (fun e => h.nums.ne h.rd.cell (by decide) e) (fun hc k hk e => ?_), (ho.block r (heap_lt h.res) (fun e => h.nums.ne h.res (by decide) e)).trans h.res, hn, h.parts.only ho fun k hk e => ?_,
    fun j t ht => (h.own j t ht).only ho fun k hk e => ?_, h.bel.trans (ho.below (fun x hx => (h.nums.lt x hx).1) h.bel.size), h.lr, h.lg, h.src⟩
  · have h1 := h.src hc k hk
    have h2 := (h.nums.lt k e).1
    omega
  · obtain ⟨A, hA⟩ := h.parts.tag k hk
    exact h.nums.ne hA (by decide) e
  · obtain ⟨A, hA⟩ := (h.own j t ht).tag k hk
    exact h.nums.ne hA (by decide) e
/-- a part more -/
theorem RK.addp {vp' : Value} {t' : Tri} {L' : Nat → List UInt8} (h : RK w r g y c vn xs vp ts L pos bad W) (hg : W.grownBy W' vp.ownBlock) (hn : Gw 1 csB W' w.heap.size 24 vp' (ts ++ [t']))
    (hL : ∀ j, j < ts.length → L' j = L j) (ht' : Ob W w.heap.size 5 t'.v (L' ts.length)) : RK w r g y c vn xs vp' (ts ++ [t']) L' pos bad W' := by
  have ho := grown_only hg
  have hob : ∀ (v : Value) (l : List UInt8), Ob W w.heap.size 5 v l → Ob W' w.heap.size 5 v l := fun v l hv => hv.only ho fun k hk e => by
    obtain ⟨A, hA⟩ := hv.tag k hk
    exact h.parts.ne hA (by decide) e
  refine ⟨h.rd.only ho (fun e => h.parts.ne h.rd.cell (by decide) e) (fun hc k hk e => ?_), (ho.block r (heap_lt h.res) (fun e => h.parts.ne h.res (by decide) e)).trans h.res, h.nums.only ho fun k hk e => ?_, hn,
    fun j t ht => ?_, h.bel.trans (ho.below (fun x hx => (h.parts.lt x hx).1) h.bel.size), h.lr, h.lg, h.src⟩
  · have h1 := h.src hc k hk
    have h2 := (h.parts.lt k e).1
    omega
  · obtain ⟨A, hA⟩ := h.nums.tag k hk
    exact h.parts.ne hA (by decide) e
  · by_cases hj : j < ts.length
    · rw [List.getElem?_append_left hj] at ht
      rw [hL j hj]
      exact hob _ _ (h.own j t ht)
    · rw [List.getElem?_append_right (by omega)] at ht
      have hj2 : j = ts.length := by
        have := (List.getElem?_eq_some_iff.1 ht).1
        simp at this
        omega
      subst hj2
      simp at ht
      subst ht
      exact hob _ _ ht'
end

end Go.Proofs.Yticpmkdlnjnfgaa
