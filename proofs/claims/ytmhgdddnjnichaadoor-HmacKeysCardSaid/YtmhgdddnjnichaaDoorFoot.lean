/- What may have changed: only the blocks of F. Small laws, over any program. -/
import Derived.Test.YtmhgdddnjnichaaDoorBase
import Derived.Test.YtmhgdddnjnichaaDoorBase2
namespace Go.Proofs.YtmhgdddnjnichaaDoor
open Go.RowKit

/-- Of the blocks that were there only those of F may have changed. -/
structure Only (F : Nat → Prop) (w w' : World) : Prop where
  os : w'.os = w.os
  tape : w'.tape = w.tape
  output : w'.output = w.output
  size : w.heap.size ≤ w'.heap.size
  block : ∀ k, k < w.heap.size → ¬ F k → w'.heap[k]? = w.heap[k]?

theorem Only.refl (F : Nat → Prop) (w : World) : Only F w w := ⟨rfl, rfl, rfl, Nat.le_refl _, fun _ _ _ => rfl⟩
theorem Only.of_below {F : Nat → Prop} {w w' : World} (h : Below w.heap.size w w') : Only F w w' := ⟨h.os, h.tape, h.output, h.size, fun k hk _ => h.block k hk⟩
theorem Only.mono {F G : Nat → Prop} {w w' : World} (h : Only F w w') (hF : ∀ k, k < w.heap.size → F k → G k) : Only G w w' :=
  ⟨h.os, h.tape, h.output, h.size, fun k hk hn => h.block k hk fun hf => hn (hF k hk hf)⟩
theorem Only.trans {F : Nat → Prop} {a b c : World} (h : Only F a b) (k : Only F b c) : Only F a c :=
  ⟨k.os.trans h.os, k.tape.trans h.tape, k.output.trans h.output, Nat.le_trans h.size k.size, fun i hi hn => (k.block i (Nat.lt_of_lt_of_le hi h.size) hn).trans (h.block i hi hn)⟩
/-- a second step that may change what the first has made -/
theorem Only.trans' {F G : Nat → Prop} {a b c : World} (h : Only F a b) (k : Only G b c) (hG : ∀ i, G i → F i ∨ a.heap.size ≤ i) : Only F a c :=
  ⟨k.os.trans h.os, k.tape.trans h.tape, k.output.trans h.output, Nat.le_trans h.size k.size, fun i hi hn =>
    (k.block i (Nat.lt_of_lt_of_le hi h.size) fun hg => (hG i hg).elim hn (by omega)).trans (h.block i hi hn)⟩
theorem Only.below {F : Nat → Prop} {w w' : World} {B : Nat} (h : Only F w w') (hF : ∀ k, F k → B ≤ k) (hB : B ≤ w.heap.size) : Below B w w' :=
  ⟨h.os, h.tape, h.output, h.size, fun k hk => h.block k (by omega) fun hf => by have := hF k hf; omega⟩
theorem Only.alloc (F : Nat → Prop) (w : World) (o : Obj) : Only F w (w.alloc o) := .of_below ((Below.refl _ _).alloc (Nat.le_refl _) o)

theorem Rd.only {F : Nat → Prop} {w w' : World} {s : Nat} {v : Value} {n : Nat} {xs : List Value} (h : Rd w s v n xs) (ho : Only F w w') (hd : ∀ k, v.ownBlock = some k → ¬ F k) : Rd w' s v n xs :=
  h.of_heap ho.size fun k hk hl => ho.block k hl (hd k hk)
theorem Bs.only {F : Nat → Prop} {w w' : World} {v : Value} {l : List UInt8} (h : Bs w v l) (ho : Only F w w') (hd : ∀ k, v.ownBlock = some k → ¬ F k) : Bs w' v l := Rd.only h ho hd

theorem Bs.only' {F : Nat → Prop} {w w' : World} {v : Value} {l : List UInt8} (h : Bs w v l) (ho : Only F w w') (hd : l ≠ [] → ∀ k, v.ownBlock = some k → ¬ F k) : Bs w' v l := by
  by_cases hl : l = []
  · subst hl
    obtain ⟨h1, a, c, rfl, h2, h3, h4, _⟩ := h
    exact ⟨h1, a, c, rfl, h2, h3, h4, .inl rfl⟩
  · exact h.only ho (hd hl)
theorem Bs.lt {w : World} {v : Value} {l : List UInt8} (h : Bs w v l) (hl : l ≠ []) : ∀ k, v.ownBlock = some k → k < w.heap.size := by
  obtain ⟨h1, a, c, rfl, h2, h3, h4, h5⟩ := h
  intro k hk
  rcases h5 with h5 | ⟨b, off, rfl, hlt, _⟩
  · exact absurd (List.eq_nil_of_length_eq_zero h5) hl
  · simp only [Value.ownBlock, Option.some.injEq] at hk
    omega
theorem only_cell {F : Nat → Prop} {w w' : World} (h : Only F w w') {a : Addr} (hF : ¬ F a.block) (hl : a.block < w.heap.size) : w'.cell? a = w.cell? a := World.cell?_of_block (w := w) (h.block a.block hl hF)
theorem Ob.lt {w : World} {B e : Nat} {v : Value} {l : List UInt8} (h : Ob w B e v l) : ∀ k, v.ownBlock = some k → B ≤ k ∧ k < w.heap.size := World.ownsRow.lt h
theorem Ob.only {F : Nat → Prop} {w w' : World} {B e : Nat} {v : Value} {l : List UInt8} (h : Ob w B e v l) (ho : Only F w w') (hd : ∀ k, v.ownBlock = some k → ¬ F k) : Ob w' B e v l := by
  refine ⟨h.1, ?_⟩
  rcases h.2 with h2 | ⟨g, cap, cur, rfl, hb, hg, r⟩
  · exact .inl h2
  · refine .inr ⟨g, cap, cur, rfl, hb, ?_, r⟩
    rw [ho.block g (Array.getElem?_eq_some_iff.1 hg).1 (hd g rfl)]
    exact hg
theorem Ob.shape {w : World} {B e : Nat} {v : Value} {l : List UInt8} (h : Ob w B e v l) : ∃ a c, v = .slice a l.length c := by
  rcases h.2 with ⟨rfl, h2⟩ | ⟨g, cap, cur, rfl, _⟩
  · exact ⟨none, 0, by rw [h2]⟩
  · exact ⟨_, cap, rfl⟩
theorem Bs.shape {w : World} {v : Value} {l : List UInt8} (h : Bs w v l) : ∃ a c, v = .slice a l.length c := by
  obtain ⟨_, a, c, h, _⟩ := h
  exact ⟨a, c, h⟩
theorem Ob.nil (w : World) (B e : Nat) : Ob w B e (.slice none 0 0) [] := World.ownsRow_nil w B e 1

/-- an owned row's block, seen by its element type -/
theorem Ob.ne {w : World} {B e g t : Nat} {v : Value} {l : List UInt8} {A : Array Value} (h : Ob w B e v l) (hg : w.heap[g]? = some (.cells A t (0, 0))) (hne : t ≠ e) : v.ownBlock ≠ some g := by
  rcases h.2 with ⟨rfl, _⟩ | ⟨g', cap, cur, rfl, _, hg', _⟩
  · simp [Value.ownBlock]
  · simp only [Value.ownBlock, ne_eq, Option.some.injEq]
    rintro rfl
    rw [hg] at hg'
    simp at hg'
    exact hne hg'.2

theorem grown_only {w w' : World} {row : Option Nat} (h : w.grownBy w' row) : Only (fun k => row = some k) w w' :=
  ⟨h.os, h.tape, h.output, h.size, fun k hk hn => h.block k hk fun e => hn e.symm⟩
theorem setCell_only (w : World) (a : Addr) (u : Value) : Only (fun k => k = a.block) w (w.setCell a u) :=
  ⟨rfl, rfl, rfl, by simp [World.setCell], fun k _ hn => Below.heap_setCell _ _ _ _ hn⟩

theorem heap_lt {W : World} {b : Nat} {o : Obj} (h : W.heap[b]? = some o) : b < W.heap.size := (Array.getElem?_eq_some_iff.1 h).1
theorem alloc_get (w : World) (o : Obj) (k : Nat) : (w.alloc o).heap[k]? = if k = w.heap.size then some o else w.heap[k]? := by
  split
  · next h => rw [h]; exact by show (w.heap.push o)[w.heap.size]? = some o; simp
  · next h =>
    rcases Nat.lt_or_ge k w.heap.size with hk | hk
    · exact Below.heap_alloc w o k hk
    · rw [Array.getElem?_eq_none (by simp; omega), Array.getElem?_eq_none hk]

theorem row_setCell {w : World} {g t : Nat} {fr : Nat × Nat} {cs : Array Value} (h : w.heap[g]? = some (.cells cs t fr)) (i : Nat) (u : Value) : (w.setCell ⟨g, i, none⟩ u).heap[g]? = some (.cells (cs.setIfInBounds i u) t fr) := by
  simp [World.setCell, Array.getElem?_modify, h]
theorem row_free {w : World} {g t : Nat} {cs : Array Value} (h : w.heap[g]? = some (.cells cs t (0, 0))) (i : Nat) : w.frozen? ⟨g, i, none⟩ = false := by
  simp [World.frozen?, h]

theorem set_only (w : World) (g i : Nat) (u : Value) : Only (fun k => k = g) w (w.setCell ⟨g, i, none⟩ u) := setCell_only w ⟨g, i, none⟩ u
theorem only_drewN {F : Nat → Prop} {a w : World} (h : Only F a w) (k : Nat) : Only F a (w.drewN k) := ⟨h.os, h.tape, h.output, h.size, h.block⟩
theorem only_drew {F : Nat → Prop} {a w : World} (h : Only F a w) : Only F a w.drew := ⟨h.os, h.tape, h.output, h.size, h.block⟩

section
variable {P : Program} {t e : TypeId} {z : Value} {size bytes : Nat} {w : World} {ops : Array Oper} {rest : List Oper} {o : Oper} {a : Act} {Q : Exit → Act → World → Prop}

/-- an append keeps the row or moves to a new one -/
theorem run_append_moves (E : ElTy P t e z size bytes) (ty : TypeId) (base : Nat) {v : Value} {n : Nat} {xs : List Value} (hown : w.ownsRow base e size v n xs)
    (ad : Addr) (m c : Nat) (news : List Value) (hl : news.length = m * size) (hnews : ∀ j u, news[j]? = some u → w.cell? (ad.add j) = some u) (h1 : ∀ u ∈ news, u.oneCell' = true)
    (h63 : n + m ≤ maxLen) (hbytes : (n + m) * bytes ≤ 140737488355328) {v' : Value} {w' : World}
    (hr : (Builtin.append_ #[t, t] ty #[v, .slice (some ad) m c]).run P w = .ok v' w') : v'.ownBlock = v.ownBlock ∨ v'.ownBlock = some w.heap.size := by
  obtain ⟨ht, ⟨i, hi, hz, rfl, rfl⟩, hzs, hp⟩ := E
  have h63' : n + m ≤ 9223372036854775807 := by simpa [maxLen] using h63
  rcases hown.2 with ⟨rfl, rfl⟩ | ⟨g, cap, cur, rfl, hbg, hg, hnc, hcm, hcs, htake⟩
  · by_cases hm : m = 0
    · subst hm
      have hn : news = [] := List.eq_nil_of_length_eq_zero (by simpa using hl)
      subst hn
      simp [Builtin.append_, run_underlying ht, sizeOf, typeInfo, hi, Builtin.lenOf, Builtin.firstCells, loadCells, loadCellsFrom] at hr
      left; rw [← hr.1]
    · have h := run_append_nil (P := P) w t ty e i z ht hi hz ad m c news hl hnews (by omega) (by omega) (by have hb := hbytes; simp only [Nat.zero_add] at hb; omega)
      rw [h] at hr
      injection hr with h1' h2'
      right; rw [← h1']; rfl
  · by_cases hroom : n + m ≤ cap
    · have hfit : n * i.size + news.length ≤ cur.size := by rw [hl, hcs, ← Nat.add_mul]; exact Nat.mul_le_mul_right _ hroom
      have h := run_append_room (P := P) w t ty e i ht hi g n cap cur hg ad m c news hl hnews h1 hroom hfit
      rw [h] at hr
      injection hr with h1' h2'
      left; rw [← h1']; rfl
    · have holds : ∀ j u, xs[j]? = some u → w.cell? ((⟨g, 0, none⟩ : Addr).add j) = some u := World.ownsRow.cells hown (g := g) rfl
      have h := run_append_grow (P := P) w t ty e i z ht hi hz ⟨g, 0, none⟩ n cap xs hown.1 holds ad m c news hl hnews (by omega) (by omega) (growslice_fits (by omega) hbytes)
      rw [h] at hr
      injection hr with h1' h2'
      right; rw [← h1']; rfl

/-- 'append(s, x...)', x any slice that can be read; where the row lies. -/
theorem wp_append_mv {K : Act → World → Prop} (s x : Operand) (t' : TypeId) (ho : o.op = .call { callee := .builtin .append, args := #[s, x], argTypes := #[t', t'] })
    (E : ElTy P t' e z size bytes) (base : Nat) (v : Value) (n : Nat) (xs : List Value) (y : Value) (m : Nat) (news : List Value) (hs : a.eval s = v) (hown : w.ownsRow base e size v n xs)
    (hx : a.eval x = y) (hrd : Rd w size y m news)
    (h1 : ∀ u ∈ news, u.oneCell' = true) (h63 : n + m ≤ maxLen) (hbytes : (n + m) * bytes ≤ 140737488355328) (hbase : base ≤ w.heap.size)
    (h : ∀ v' w', w'.ownsRow base e size v' (n + m) (xs ++ news) → w.grownBy w' v.ownBlock → (v'.ownBlock = v.ownBlock ∨ v'.ownBlock = some w.heap.size) → K (a.put o.dst v') w') : o.wp P a w K Q := by
  have E' := E
  obtain ⟨ht, ⟨i, hi, hz, hsz, hby⟩, hzs, hp⟩ := E
  have fin : ∀ v' w', (Builtin.append_ #[t', t'] o.type #[v, y]).run P w = .ok v' w' → K (a.put o.dst v') w' → o.wp P a w K Q := fun v' w' hr hk => by
    unfold Oper.wp execOp
    simp only [ho, resolve, invoke, builtin, Sem.run_bind, Sem.run_pure, Result.andThen_ok, List.map_toArray, List.map_cons, List.map_nil, hs, hx, hr]
    exact hk
  have key : ∀ (ad : Addr) c, y = .slice (some ad) m c → (∀ j u, news[j]? = some u → w.cell? (ad.add j) = some u) → o.wp P a w K Q := fun ad c hy hc => by
    subst hy
    obtain ⟨v', w', hr, h2, h3, h4⟩ := run_append_own (P := P) w base t' o.type e i z size bytes ht hi hz hsz hby hzs hp v n xs hown ad m c news hrd.1 hc h1 h63 hbytes hbase
    exact fin v' w' hr (h v' w' h2 h3 (run_append_moves E' o.type base hown ad m c news hrd.1 hc h1 h63 hbytes hr))
  obtain ⟨hl, b, c, hy, h2, h3, h4, h5⟩ := id hrd
  rcases h5 with rfl | ⟨g, off, rfl, hlt, hc⟩
  · have hnews : news = [] := List.eq_nil_of_length_eq_zero (by simpa using hl)
    cases b with
    | none =>
      obtain rfl := h4 rfl
      subst hy
      refine fin v w ?_ (h v w (by simpa [hnews] using hown) ⟨rfl, rfl, rfl, Nat.le_refl _, fun _ _ _ => rfl⟩ (.inl rfl))
      rcases hown.2 with ⟨rfl, rfl⟩ | ⟨g, cap, cur, rfl, _, _, hnc, _⟩
      · simp [Builtin.append_, run_underlying ht, sizeOf, typeInfo, hi, Builtin.lenOf, Builtin.firstCells]
      · simp [Builtin.append_, run_underlying ht, sizeOf, typeInfo, hi, Builtin.lenOf, Builtin.firstCells, hnc, storeCells]
    | some ad => exact key ad c hy (by simp [hnews])
  · exact key _ c hy fun j u hu => by rw [Addr.add_lit]; exact hc j u hu

theorem wpList_append_mv (hgd : o.guard = none) (s x : Operand) (t' : TypeId) (ho : o.op = .call { callee := .builtin .append, args := #[s, x], argTypes := #[t', t'] })
    (E : ElTy P t' e z size bytes) (base : Nat) (v : Value) (n : Nat) (xs : List Value) (y : Value) (m : Nat) (news : List Value) (hs : a.eval s = v) (hown : w.ownsRow base e size v n xs)
    (hx : a.eval x = y) (hrd : Rd w size y m news)
    (h1 : ∀ u ∈ news, u.oneCell' = true) (h63 : n + m ≤ maxLen) (hbytes : (n + m) * bytes ≤ 140737488355328) (hbase : base ≤ w.heap.size)
    (h : ∀ v' w', w'.ownsRow base e size v' (n + m) (xs ++ news) → w.grownBy w' v.ownBlock → (v'.ownBlock = v.ownBlock ∨ v'.ownBlock = some w.heap.size) → wpList P ops Q rest (a.put o.dst v') w') : wpList P ops Q (o :: rest) a w :=
  wpList_plain hgd fun _ hK => wp_append_mv s x t' ho E base v n xs y m news hs hown hx hrd h1 h63 hbytes hbase fun v' w' h2 h3 h4 => hK _ _ (h v' w' h2 h3 h4)

/-- the same in a region that draws its order -/
theorem step_append_bytes_mv {K : Act → World → Prop} {F : Prop} {base : Nat} {v : Value} {l : List UInt8} (hown : Ob w base e v l) {y : Value} {m : List UInt8} (hrd : Bs w y m) (E : ElTy P t e z 1 bytes) (h63 : (l.length + m.length) * bytes ≤ 140737488355328) (hmx : l.length + m.length ≤ 9223372036854775807) (hbase : base ≤ w.heap.size)
    (h : ∀ v' w', Ob w' base e v' (l ++ m) → w.grownBy w' v.ownBlock → (v'.ownBlock = v.ownBlock ∨ v'.ownBlock = some w.heap.size) → K (a.put o.dst v') w')
    (so xo : Operand) (hgd : o.guard = none) (ho : o.op = .call { callee := .builtin .append, args := #[so, xo], argTypes := #[t, t] })
    (hs : a.eval so = v) (hx : a.eval xo = y) : if Region.wanted o (yielded ops a.tmps) = true then Oper.wp P o a w K Q else F := by
  have hw : Region.wanted o (yielded ops a.tmps) = true := by simp [Region.wanted, hgd]
  rw [if_pos hw]
  refine wp_append_mv so xo t ho E base v l.length (l.map bv) y m.length (m.map bv) hs hown hx hrd (bv_one m) (by simpa [maxLen] using hmx) h63 hbase ?_
  intro v' w' h1 h2 h3
  exact h v' w' (by simpa [Ob] using h1) h2 h3

/-- the same at bytes -/
theorem wpList_append_bytes_mv {base : Nat} {v : Value} {l : List UInt8} (hown : Ob w base e v l) {y : Value} {m : List UInt8} (hrd : Bs w y m) (E : ElTy P t e z 1 bytes) (h63 : (l.length + m.length) * bytes ≤ 140737488355328) (hmx : l.length + m.length ≤ 9223372036854775807) (hbase : base ≤ w.heap.size)
    (h : ∀ v' w', Ob w' base e v' (l ++ m) → w.grownBy w' v.ownBlock → (v'.ownBlock = v.ownBlock ∨ v'.ownBlock = some w.heap.size) → wpList P ops Q rest (a.put o.dst v') w')
    (so xo : Operand) (hgd : o.guard = none) (ho : o.op = .call { callee := .builtin .append, args := #[so, xo], argTypes := #[t, t] })
    (hs : a.eval so = v) (hx : a.eval xo = y) : wpList P ops Q (o :: rest) a w := by
  refine wpList_append_mv hgd so xo t ho E base v l.length (l.map bv) y m.length (m.map bv) hs hown hx hrd (bv_one m) (by simpa [maxLen] using hmx) h63 hbase ?_
  intro v' w' h1 h2 h3
  exact h v' w' (by simpa [Ob] using h1) h2 h3
end

end Go.Proofs.YtmhgdddnjnichaaDoor
