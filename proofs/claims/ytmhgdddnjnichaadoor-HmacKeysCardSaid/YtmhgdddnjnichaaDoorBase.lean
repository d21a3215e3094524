/- Small laws on slices that are read (Rd) or owned (ownsRow), over any program: no function of the program stands here. -/
import Derived.WalkKit
import Derived.WalkLawsBesides
import Derived.WalkSpells
import Derived.Below
import Derived.Outline
import Derived.Deep.QuietTactic
import Derived.BigQuiet
import Derived.ScopeJumps
import Derived.WalkMore
import Derived.Lib.Hide
import Derived.Laws.AppendOwnNone
namespace Go.Proofs.YtmhgdddnjnichaaDoor
open Go.RowKit

theorem below_drewN {B : Nat} {a w : World} (h : Below B a w) (k : Nat) : Below B a (w.drewN k) := ⟨h.os, h.tape, h.output, h.size, h.block⟩

/-- v is a slice of n elements of s cells each, whose cells read xs. -/
def Rd (w : World) (s : Nat) (v : Value) (n : Nat) (xs : List Value) : Prop :=
  xs.length = n * s ∧ ∃ a c, v = .slice a n c ∧ n ≤ c ∧ c ≤ maxLen ∧ (a = none → c = 0) ∧
    (n = 0 ∨ ∃ b off, a = some ⟨b, off, none⟩ ∧ b < w.heap.size ∧ ∀ j u, xs[j]? = some u → w.cell? ⟨b, off + j, none⟩ = some u)

section
variable {w : World} {s : Nat} {v : Value} {n : Nat} {xs : List Value}
theorem Rd.of_heap {w' : World} (h : Rd w s v n xs) (hs : w.heap.size ≤ w'.heap.size)
    (hb : ∀ k, v.ownBlock = some k → k < w.heap.size → w'.heap[k]? = w.heap[k]?) : Rd w' s v n xs := by
  obtain ⟨h1, a, c, rfl, h2, h3, h4, h5⟩ := h
  refine ⟨h1, a, c, rfl, h2, h3, h4, ?_⟩
  rcases h5 with h5 | ⟨b, off, rfl, hlt, hc⟩
  · exact .inl h5
  · refine .inr ⟨b, off, rfl, by omega, fun j u hu => ?_⟩
    rw [World.cell?_of_block (w := w) (hb b rfl hlt)]
    exact hc j u hu

theorem Rd.below {w' : World} (h : Rd w s v n xs) (hb : Below w.heap.size w w') : Rd w' s v n xs :=
  h.of_heap hb.size fun k _ hk => hb.block k hk

theorem Rd.alloc (h : Rd w s v n xs) (o : Obj) : Rd (w.alloc o) s v n xs :=
  h.below ((Below.refl _ _).alloc (Nat.le_refl _) o)

theorem Rd.drewN (h : Rd w s v n xs) (k : Nat) : Rd (w.drewN k) s v n xs := h.below (below_drewN (Below.refl _ _) k)
theorem Rd.drew (h : Rd w s v n xs) : Rd w.drew s v n xs := h.below (Below.refl _ _).drew

theorem Rd.nil (w : World) (s : Nat) : Rd w s (.slice none 0 0) 0 [] := ⟨by simp, none, 0, rfl, by omega, by simp [maxLen], fun _ => rfl, .inl rfl⟩

theorem Rd.of_own {B e : Nat} (h : w.ownsRow B e s v n xs) : Rd w s v n xs := by
  obtain ⟨h1, h2⟩ := h
  refine ⟨h1, ?_⟩
  rcases h2 with ⟨rfl, rfl⟩ | ⟨g, cap, cur, rfl, hg, hh, hn, hm, hs, ht⟩
  · exact ⟨none, 0, rfl, by omega, by simp [maxLen], fun _ => rfl, .inl rfl⟩
  · refine ⟨_, cap, rfl, hn, hm, by simp, .inr ⟨g, 0, rfl, (Array.getElem?_eq_some_iff.1 hh).1, fun j u hu => ?_⟩⟩
    rw [cell_of_row w g (0 + j) cur e (0, 0) hh]
    rw [← ht, List.getElem?_take] at hu
    split at hu
    · simpa using hu
    · cases hu
end

/-- What a slice's type t with elements e is made of. -/
def ElTy (P : Program) (t e : TypeId) (z : Value) (size bytes : Nat) : Prop :=
  P.underlying t = some (.slice e) ∧ (∃ i, P.info? e = some i ∧ i.zero = some z ∧ i.size = size ∧ i.bytes = bytes) ∧ z.cells.size = size ∧ 0 < size

theorem ElTy.sizeOf {P : Program} {t e : TypeId} {z : Value} {size bytes : Nat} (h : ElTy P t e z size bytes) (W : World) : (Go.sizeOf e).run P W = .ok size W := by
  obtain ⟨_, ⟨i, hi, _, hs, _⟩, _⟩ := h
  simp [Go.sizeOf, typeInfo, hi, hs]

/-- reading: an address for each element. -/
theorem Rd.open_ {w : World} {P : Program} {t e : TypeId} {z : Value} {s bytes : Nat} (E : ElTy P t e z s bytes) {v : Value} {n : Nat} {xs : List Value} (h : Rd w s v n xs) :
    ∃ a c, ∃ adr : Nat → Addr, v = .slice a n c ∧ n ≤ c ∧ c ≤ 9223372036854775807 ∧ xs.length = n * s ∧
      (∀ (W : World) (i : Int), 0 ≤ i → i < n → (Instr.indexAt t (.slice a n c) (.int .i64 i)).run P W = .ok (.pointer (some (adr i.toNat))) W) ∧
      (∀ i, i < n → (adr i).block < w.heap.size) ∧
      (∀ i, i < n → ∀ j, j < s → w.cell? ((adr i).add j) = xs[i * s + j]?) := by
  have E' := E
  obtain ⟨hT, -, hz, hs⟩ := E'
  obtain ⟨h1, a, c, rfl, h2, h3, h4, h5⟩ := h
  have h3' : c ≤ 9223372036854775807 := by simpa [maxLen] using h3
  rcases h5 with rfl | ⟨b, off, rfl, hlt, hc⟩
  · exact ⟨a, c, fun _ => default, rfl, h2, by omega, by simpa using h1, fun _ _ h0 hi => by omega, fun i hi => by omega, fun i hi => by omega⟩
  · refine ⟨_, c, fun i => ⟨b, off + i * s, none⟩, rfl, h2, by omega, h1, ?_, fun i hi => hlt, fun i hi j hj => ?_⟩
    · intro W i h0 hi
      have hu : P.elem t = e := by simp [Program.elem, hT]
      rw [run_indexAt_slice W t _ n c .i64 i (by rw [hu]; exact hT), if_pos ⟨h0, hi⟩, hu, E.sizeOf]
      simp [Result.andThen, Addr.add_lit]
    · have hl : i * s + j < xs.length := by
        rw [h1]
        calc i * s + j < i * s + s := by omega
          _ = (i + 1) * s := by rw [Nat.succ_mul]
          _ ≤ n * s := Nat.mul_le_mul_right _ hi
      rw [List.getElem?_eq_getElem hl, Addr.add_lit, Nat.add_assoc]
      exact hc _ _ (List.getElem?_eq_getElem hl)

theorem grown_trans_alloc {w w' : World} {o : Obj} {row : Option Nat} (h : (w.alloc o).grownBy w' row) : w.grownBy w' row := by
  refine ⟨h.os, h.tape, h.output, ?_, fun k hk hne => ?_⟩
  · have := h.size; simp at this; omega
  · rw [h.block k (by simp; omega) hne, Below.heap_alloc w o k hk]

section
variable {P : Program} {t e : TypeId} {z : Value} {size bytes : Nat} {w : World} {ops : Array Oper} {rest : List Oper} {o : Oper} {a : Act} {Q : Exit → Act → World → Prop}

/-- 'append(s, x)': one element of one cell, boxed in a new block first. -/
theorem wpList_append_one (hgd : o.guard = none) (s x : Operand) (t' : TypeId) (ho : o.op = .call { callee := .builtin .append, args := #[s, x], argTypes := #[t', t'] })
    (E : ElTy P t' e z 1 bytes) (base : Nat) (v : Value) (n : Nat) (xs : List Value) (u : Value) (hs : a.eval s = v) (hown : w.ownsRow base e 1 v n xs) (hx : a.eval x = .slice (some ⟨w.heap.size, 0, none⟩) 1 1)
    (h1 : u.oneCell' = true) (h63 : n < maxLen) (hbytes : (n + 1) * bytes ≤ 140737488355328) (hbase : base ≤ w.heap.size)
    (h : ∀ v' w', w'.ownsRow base e 1 v' (n + 1) (xs ++ [u]) → w.grownBy w' v.ownBlock → Below base w w' → wpList P ops Q rest (a.put o.dst v') w') : wpList P ops Q (o :: rest) a (w.alloc (.cells #[u] e)) := by
  obtain ⟨ht, ⟨i, hi, hz, hsz, hby⟩, hzs, hp⟩ := E
  refine wpList_append_own _ hgd s x t' ho base e i z 1 bytes ht hi hz hsz hby hzs hp v n xs hs (hown.alloc _) ⟨w.heap.size, 0, none⟩ 1 1 [u] hx rfl ?_ (by simpa using h1) (by omega) hbytes (by simp; omega) ?_
  · intro j u' hu'
    cases j with
    | zero =>
      simp at hu'
      subst hu'
      rw [Addr.add_zero', World.cell?_alloc_at _ _ _ _ rfl]
      rfl
    | succ j => simp at hu'
  · intro v' w' h2 h3 _
    have h4 := grown_trans_alloc h3
    exact h v' w' h2 h4 ((Below.refl _ _).grown h4 hbase fun k hk => (hown.lt k hk).1)

/-- 'append(s, x...)', x any slice that can be read. -/
theorem wpList_append_rd (hgd : o.guard = none) (s x : Operand) (t' : TypeId) (ho : o.op = .call { callee := .builtin .append, args := #[s, x], argTypes := #[t', t'] })
    (E : ElTy P t' e z size bytes) (base : Nat) (v : Value) (n : Nat) (xs : List Value) (y : Value) (m : Nat) (news : List Value) (hs : a.eval s = v) (hown : w.ownsRow base e size v n xs)
    (hx : a.eval x = y) (hrd : Rd w size y m news)
    (h1 : ∀ u ∈ news, u.oneCell' = true) (h63 : n + m ≤ maxLen) (hbytes : (n + m) * bytes ≤ 140737488355328) (hbase : base ≤ w.heap.size)
    (h : ∀ v' w', w'.ownsRow base e size v' (n + m) (xs ++ news) → w.grownBy w' v.ownBlock → Below base w w' → (v' = .slice none 0 0 ↔ v = .slice none 0 0 ∧ m = 0) → wpList P ops Q rest (a.put o.dst v') w') : wpList P ops Q (o :: rest) a w := by
  obtain ⟨ht, ⟨i, hi, hz, hsz, hby⟩, hzs, hp⟩ := E
  have key : ∀ (ad : Addr) c, y = .slice (some ad) m c → (∀ j u, news[j]? = some u → w.cell? (ad.add j) = some u) → wpList P ops Q (o :: rest) a w := fun ad c hy hc =>
    wpList_append_own _ hgd s x t' ho base e i z size bytes ht hi hz hsz hby hzs hp v n xs hs hown ad m c news (hx.trans hy) hrd.1 hc h1 h63 hbytes hbase
      fun v' w' h2 h3 h4 => h v' w' h2 h3 ((Below.refl _ _).grown h3 hbase fun k hk => (hown.lt k hk).1) h4
  obtain ⟨hl, b, c, hy, h2, h3, h4, h5⟩ := hrd
  rcases h5 with rfl | ⟨g, off, rfl, hlt, hc⟩
  · have hnews : news = [] := List.eq_nil_of_length_eq_zero (by simpa using hl)
    cases b with
    | none =>
      obtain rfl := h4 rfl
      subst hy
      refine wpList_append_own_none hgd s x t' ho base e i size ht hi v n xs hs hown hx ?_
      exact h v w (by simpa [hnews] using hown) ⟨rfl, rfl, rfl, Nat.le_refl _, fun _ _ _ => rfl⟩ (Below.refl _ _) (by simp)
    | some ad => exact key ad c hy (by simp [hnews])
  · exact key _ c hy fun j u hu => by rw [Addr.add_lit]; exact hc j u hu
end

/-- wp_scope_jumps; the first way up to the label hands over to the passes. -/
theorem wp_scope_jumps2 {P : Program} {a : Act} {w : World} {Q : Exit → Act → World → Prop} {c rest : Code} (l : Nat) (J : Act → World → Prop) (μ : Act → World → Nat) (hf : findLabel c l = some (.seq .skip rest))
    (first : (∀ a w, J a w → rest.wp P (Exit.jump l J Q) a w) → c.wp P (Exit.jump l J Q) a w)
    (pass : ∀ a w, J a w → rest.wp P (Exit.jump l (fun a' w' => J a' w' ∧ μ a' w' < μ a w) Q) a w) : (Code.scope c).wp P Q a w := by
  refine wp_scope_jumps l J μ hf (first fun a w h => wp_mono (pass a w h) ?_) fun a w h => wp_seq (wp_skip (pass a w h))
  intro e a w h
  cases e with
  | goto l' => exact ⟨h.1, h.2.1⟩
  | _ => exact h

theorem ret_bool {a b : Bool} (h : a = b) : Ending.returned (.bool a) = .returned (.bool b) := by rw [h]
theorem ret_int {k : IntKind} {a b : Int} (h : a = b) : Ending.returned (.int k a) = .returned (.int k b) := by rw [h]

theorem ret_3 {k1 k2 k3 : IntKind} {a b c a' b' c' : Int} (h1 : a = a') (h2 : b = b') (h3 : c = c') : Ending.returned (.tuple #[.int k1 a, .int k2 b, .int k3 c]) = .returned (.tuple #[.int k1 a', .int k2 b', .int k3 c']) := by rw [h1, h2, h3]
theorem ret_2 {k1 k2 : IntKind} {a b a' b' : Int} (h1 : a = a') (h2 : b = b') : Ending.returned (.tuple #[.int k1 a, .int k2 b]) = .returned (.tuple #[.int k1 a', .int k2 b']) := by rw [h1, h2]

/-- bytes -/
def bv (x : UInt8) : Value := .int .u8 (x.toNat : Int)
def Bs (w : World) (v : Value) (l : List UInt8) : Prop := Rd w 1 v l.length (l.map bv)
/-- bytes of the call's own -/
def Ob (w : World) (B e : Nat) (v : Value) (l : List UInt8) : Prop := w.ownsRow B e 1 v l.length (l.map bv)

theorem Ob.bs {w : World} {B e : Nat} {v : Value} {l : List UInt8} (h : Ob w B e v l) : Bs w v l := Rd.of_own h
theorem Bs.below {w w' : World} {v : Value} {l : List UInt8} (h : Bs w v l) (hb : Below w.heap.size w w') : Bs w' v l := Rd.below h hb
theorem Bs.drew {w : World} {v : Value} {l : List UInt8} (h : Bs w v l) : Bs w.drew v l := Rd.drew h
theorem Bs.alloc {w : World} {v : Value} {l : List UInt8} (h : Bs w v l) (o : Obj) : Bs (w.alloc o) v l := Rd.alloc h o
theorem bv_one (l : List UInt8) : ∀ u ∈ l.map bv, u.oneCell' = true := by
  intro u hu
  obtain ⟨x, _, rfl⟩ := List.mem_map.1 hu
  rfl

section
variable {P : Program} {t e : TypeId} {z : Value} {bytes : Nat} {w : World} {ops : Array Oper} {rest : List Oper} {o : Oper} {a : Act} {Q : Exit → Act → World → Prop} {base : Nat} {v : Value} {l : List UInt8}

/-- 'append(s, x)' at bytes of the call's own. -/
theorem wpList_append_byte (hown : Ob w base e v l) (x : UInt8) (E : ElTy P t e z 1 bytes) (h63 : (l.length + 1) * bytes ≤ 140737488355328) (hmx : l.length < 9223372036854775807) (hbase : base ≤ w.heap.size)
    (h : ∀ v' w', Ob w' base e v' (l ++ [x]) → w.grownBy w' v.ownBlock → Below base w w' → wpList P ops Q rest (a.put o.dst v') w')
    (so xo : Operand) (hgd : o.guard = none) (ho : o.op = .call { callee := .builtin .append, args := #[so, xo], argTypes := #[t, t] })
    (u : Value) (hs : a.eval so = v) (hx : a.eval xo = .slice (some ⟨w.heap.size, 0, none⟩) 1 1)
    (hu : u = bv x) : wpList P ops Q (o :: rest) a (w.alloc (.cells #[u] e)) := by
  refine wpList_append_one hgd so xo t ho E base v l.length (l.map bv) u hs hown hx (by rw [hu]; rfl) (by simpa [maxLen] using hmx) h63 hbase ?_
  intro v' w' h1 h2 h3
  refine h v' w' ?_ h2 h3
  subst hu
  simpa [Ob] using h1

/-- 'append(s, x...)' at bytes of the call's own, x any bytes. -/
theorem wpList_append_bytes (hown : Ob w base e v l) {y : Value} {m : List UInt8} (hrd : Bs w y m) (E : ElTy P t e z 1 bytes) (h63 : (l.length + m.length) * bytes ≤ 140737488355328) (hmx : l.length + m.length ≤ 9223372036854775807) (hbase : base ≤ w.heap.size)
    (h : ∀ v' w', Ob w' base e v' (l ++ m) → w.grownBy w' v.ownBlock → Below base w w' → (v' = .slice none 0 0 ↔ v = .slice none 0 0 ∧ m = []) → wpList P ops Q rest (a.put o.dst v') w')
    (so xo : Operand) (hgd : o.guard = none) (ho : o.op = .call { callee := .builtin .append, args := #[so, xo], argTypes := #[t, t] })
    (hs : a.eval so = v) (hx : a.eval xo = y) : wpList P ops Q (o :: rest) a w := by
  refine wpList_append_rd hgd so xo t ho E base v l.length (l.map bv) y m.length (m.map bv) hs hown hx hrd (bv_one m) (by simpa [maxLen] using hmx) h63 hbase ?_
  intro v' w' h1 h2 h3 h4
  exact h v' w' (by simpa [Ob] using h1) h2 h3 (by simpa using h4)
end

/-- bytes that have just been written out. -/
theorem ob_lit (w : World) (e : Nat) (cs : Array Value) (l : List UInt8) (n : Nat) (hl : l.length = n) (hn : n ≤ maxLen) (hc : cs.toList = l.map bv) : Ob (w.alloc (.cells cs e)) w.heap.size e (.slice (some ⟨w.heap.size, 0, none⟩) n n) l := by
  subst hl
  refine ⟨by simp, .inr ⟨w.heap.size, l.length, cs, rfl, Nat.le_refl _, heap_alloc_new w _, Nat.le_refl _, hn, ?_, ?_⟩⟩
  · rw [← Array.length_toList, hc]; simp
  · rw [hc, List.take_of_length_le (by simp)]

theorem Bs.open_n {w : World} {P : Program} {t e : TypeId} {z : Value} {bytes : Nat} (E : ElTy P t e z 1 bytes) {v : Value} {l : List UInt8} (h : Bs w v l) (n : Nat) (hn : l.length = n) :
    ∃ a c, ∃ adr : Nat → Addr, v = .slice a n c ∧ n ≤ c ∧ c ≤ 9223372036854775807 ∧
      (∀ (W : World) (i : Int), 0 ≤ i → i < n → (Instr.indexAt t (.slice a n c) (.int .i64 i)).run P W = .ok (.pointer (some (adr i.toNat))) W) ∧
      (∀ i, i < n → (adr i).block < w.heap.size) ∧
      (∀ i x, l[i]? = some x → w.cell? (adr i) = some (.int .u8 x.toNat)) := by
  subst hn
  obtain ⟨a, c, adr, h1, h2, h3, h4, h5, h6, h7⟩ := Rd.open_ E h
  refine ⟨a, c, adr, h1, h2, h3, h5, h6, fun i x hx => ?_⟩
  have := h7 i (List.getElem?_eq_some_iff.1 hx).1 0 (by omega)
  rw [Addr.add_zero'] at this
  rw [this]
  simp [hx, bv]

theorem Bs.open_ {w : World} {P : Program} {t e : TypeId} {z : Value} {bytes : Nat} (E : ElTy P t e z 1 bytes) {v : Value} {l : List UInt8} (h : Bs w v l) :
    ∃ a c, ∃ adr : Nat → Addr, v = .slice a l.length c ∧ l.length ≤ c ∧ c ≤ 9223372036854775807 ∧
      (∀ (W : World) (i : Int), 0 ≤ i → i < l.length → (Instr.indexAt t (.slice a l.length c) (.int .i64 i)).run P W = .ok (.pointer (some (adr i.toNat))) W) ∧
      (∀ i, i < l.length → (adr i).block < w.heap.size) ∧
      (∀ i x, l[i]? = some x → w.cell? (adr i) = some (.int .u8 x.toNat)) := Bs.open_n E h l.length rfl

/-- a store of a whole aggregate into a block that has just been made. -/
theorem run_storeVar_new {P : Program} (w : World) (t ty : TypeId) (Z cs : Array Value) (hs : (P.info? ty).map (·.size) = some cs.size) (hz : Z.size = cs.size) (h1 : ∀ v ∈ cs.toList, v.oneCell' = true) :
    (storeVar ty ⟨w.heap.size, 0, none⟩ (.agg cs)).run P (w.alloc (.cells Z t)) = .ok () (w.alloc (.cells cs t)) := by
  have hg : (w.alloc (.cells Z t)).heap[w.heap.size]? = some (.cells Z t (0, 0)) := heap_alloc_new w _
  have hst := run_storeCells_at P w.heap.size 0 t cs.toList 0 Z (w.alloc (.cells Z t)) hg (by simp; omega) h1
  have hset : (w.alloc (.cells Z t)).setRow w.heap.size cs = w.alloc (.cells cs t) := by
    unfold World.setRow World.alloc
    congr 1
    apply Array.ext_getElem?
    intro i
    simp only [Array.getElem?_modify, Array.getElem?_push]
    by_cases e : w.heap.size = i
    · subst e; simp
    · rw [if_neg e]
      rw [if_neg (fun h => e h.symm), if_neg (fun h => e h.symm)]
  obtain ⟨i, hi, hsz⟩ := Option.map_eq_some_iff.1 hs
  have hz2 : (w.alloc (.cells Z t)).setRow w.heap.size (Z.toList.take (0 + 0) ++ cs.toList ++ Z.toList.drop (0 + 0 + cs.toList.length)).toArray = w.alloc (.cells cs t) := by
    rw [← hset]
    congr 1
    have : List.drop (0 + 0 + cs.toList.length) Z.toList = [] := List.drop_eq_nil_of_le (by simp; omega)
    rw [this]
    simp
  rw [hz2] at hst
  simp [storeVar, Value.cells, Go.sizeOf, typeInfo, hi, hsz, hst]

theorem wpList_store_new {P : Program} {w : World} {ops : Array Oper} {rest : List Oper} {o : Oper} {a : Act} {Q : Exit → Act → World → Prop} {t ty : TypeId} {Z cs : Array Value} (hgd : o.guard = none) (x y : Operand)
    (ho : o.op = .store ty x y) (hx : a.eval x = .pointer (some ⟨w.heap.size, 0, none⟩)) (hy : a.eval y = .agg cs)
    (hs : (P.info? ty).map (·.size) = some cs.size) (hz : Z.size = cs.size) (h1 : ∀ v ∈ cs.toList, v.oneCell' = true)
    (h : wpList P ops Q rest (a.put o.dst undef) (w.alloc (.cells cs t))) : wpList P ops Q (o :: rest) a (w.alloc (.cells Z t)) := by
  refine wpList_plain hgd fun K hK => ?_
  have hr := run_storeVar_new (P := P) w t ty Z cs hs hz h1
  unfold Oper.wp execOp
  simp only [ho, hx, hy, Instr.storeAt, Instr.sureAddr, Sem.run_bind, Sem.run_pure, Result.andThen_ok, hr]
  exact hK _ _ h

/-- a piece of a slice that is read. -/
theorem Rd.cut {w : World} {s n : Nat} {a : Option Addr} {c : Nat} {xs : List Value} (h : Rd w s (.slice a n c) n xs) (lo hi : Nat) (h1 : lo ≤ hi) (h2 : hi ≤ n) :
    Rd w s (.slice (if c = lo then a else a.map (·.add (lo * s))) (hi - lo) (c - lo)) (hi - lo) ((xs.drop (lo * s)).take ((hi - lo) * s)) := by
  obtain ⟨h3, a', c', he, h4, h5, h6, h7⟩ := h
  simp only [Value.slice.injEq, true_and] at he
  obtain ⟨rfl, rfl⟩ := he
  have hmul : (hi - lo) * s ≤ n * s - lo * s := by rw [← Nat.sub_mul]; exact Nat.mul_le_mul_right _ (by omega)
  refine ⟨by rw [List.length_take, List.length_drop]; omega, _, _, rfl, by omega, by omega, ?_, ?_⟩
  · intro hn
    by_cases hc : c = lo
    · omega
    · rw [if_neg hc] at hn
      have : a = none := by cases a <;> simp_all
      have := h6 this
      omega
  · by_cases hz : hi - lo = 0
    · exact .inl hz
    · right
      rcases h7 with h7 | ⟨b, off, rfl, hlt, hc⟩
      · omega
      · refine ⟨b, off + lo * s, by rw [if_neg (by omega)]; simp [Addr.add_lit], hlt, fun j u hu => ?_⟩
        rw [List.getElem?_take] at hu
        split at hu
        · rw [List.getElem?_drop] at hu
          rw [Nat.add_assoc]
          exact hc _ _ hu
        · cases hu

theorem Bs.cut {w : World} {n : Nat} {a : Option Addr} {c : Nat} {l : List UInt8} (h : Bs w (.slice a n c) l) (lo hi : Nat) (h1 : lo ≤ hi) (h2 : hi ≤ l.length) :
    Bs w (.slice (if c = lo then a else a.map (·.add lo)) (hi - lo) (c - lo)) ((l.drop lo).take (hi - lo)) := by
  have hn : n = l.length := by
    obtain ⟨_, a', c', he, _⟩ := h
    simp only [Value.slice.injEq] at he
    exact he.2.1
  subst hn
  have := Rd.cut h lo hi h1 h2
  unfold Bs
  rw [List.length_take, List.length_drop, show min (hi - lo) (l.length - lo) = hi - lo by omega]
  simpa [List.map_take, List.map_drop] using this

theorem Bs.take {w : World} {n : Nat} {a : Option Addr} {c : Nat} {l : List UInt8} (h : Bs w (.slice a n c) l) (k : Nat) (hk : k ≤ l.length) : Bs w (.slice a k c) (l.take k) := by
  have := h.cut 0 k (by omega) hk
  simpa [Addr.add_zero'] using this

theorem Bs.drop {w : World} {n : Nat} {a : Option Addr} {c : Nat} {l : List UInt8} (h : Bs w (.slice a n c) l) (k : Nat) (hk : k ≤ l.length) :
    Bs w (.slice (if c = k then a else a.map (·.add k)) (l.length - k) (c - k)) (l.drop k) := by
  have := h.cut k l.length hk (Nat.le_refl _)
  rwa [List.take_of_length_le (by simp)] at this

theorem ob_made (w : World) (e : Nat) : Ob (w.alloc (.cells #[] e)) w.heap.size e (.slice (some ⟨w.heap.size, 0, none⟩) 0 0) [] :=
  World.ownsRow_made w #[] 0 (Nat.le_refl _) (by simp [maxLen]) (by simp)

theorem beq_self_true (l : List UInt8) : (l == l) = true := by simp

end Go.Proofs.YtmhgdddnjnichaaDoor
