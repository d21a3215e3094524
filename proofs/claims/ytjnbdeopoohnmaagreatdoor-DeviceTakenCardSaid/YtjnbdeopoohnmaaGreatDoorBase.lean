/- Base: Base, Base2, Foot, Base3, Gen, Make, Mark, RowB, Sbase as one text. -/
import Derived.WalkKit
import Derived.WalkLawsBesides
import Derived.WalkSpells
import Derived.Below
import Derived.Outline
import Derived.Deep.QuietTactic
import Derived.BigQuiet
import Derived.ScopeJumps
import Derived.WalkMore
import Derived.Lib.Hide
import Derived.Laws.AppendOwnNone
import Derived.Laws.IdiomStrings
import Derived.Laws.CopyOwn
import Derived.Laws.MakeOwn
/- Small laws on slices that are read (Rd) or owned (ownsRow), over any program: no function of the program stands here. -/
namespace Go.Proofs.YtjnbdeopoohnmaaGreatDoor
open Go.RowKit

theorem below_drewN {B : Nat} {a w : World} (h : Below B a w) (k : Nat) : Below B a (w.drewN k) := ⟨h.os, h.tape, h.output, h.size, h.block⟩

/-- v is a slice of n elements of s cells each, whose cells read xs. -/
def Rd (w : World) (s : Nat) (v : Value) (n : Nat) (xs : List Value) : Prop :=
  xs.length = n * s ∧ ∃ a c, v = .slice a n c ∧ n ≤ c ∧ c ≤ maxLen ∧ (a = none → c = 0) ∧
    (n = 0 ∨ ∃ b off, a = some ⟨b, off, none⟩ ∧ b < w.heap.size ∧ ∀ j u, xs[j]? = some u → w.cell? ⟨b, off + j, none⟩ = some u)

section
variable {w : World} {s : Nat} {v : Value} {n : Nat} {xs : List Value}
theorem Rd.of_heap {w' : World} (h : Rd w s v n xs) (hs : w.heap.size ≤ w'.heap.size)
    (hb : ∀ k, v.ownBlock = some k → k < w.heap.size → w'.heap[k]? = w.heap[k]?) : Rd w' s v n xs := by
  obtain ⟨h1, a, c, rfl, h2, h3, h4, h5⟩ := h
  refine ⟨h1, a, c, rfl, h2, h3, h4, ?_⟩
  rcases h5 with h5 | ⟨b, off, rfl, hlt, hc⟩
  · exact .inl h5
  · refine .inr ⟨b, off, rfl, by omega, fun j u hu => ?_⟩
    rw [World.cell?_of_block (w := w) (hb b rfl hlt)]
    exact hc j u hu

theorem Rd.below {w' : World} (h : Rd w s v n xs) (hb : Below w.heap.size w w') : Rd w' s v n xs :=
  h.of_heap hb.size fun k _ hk => hb.block k hk

theorem Rd.alloc (h : Rd w s v n xs) (o : Obj) : Rd (w.alloc o) s v n xs :=
  h.below ((Below.refl _ _).alloc (Nat.le_refl _) o)

theorem Rd.drewN (h : Rd w s v n xs) (k : Nat) : Rd (w.drewN k) s v n xs := h.below (below_drewN (Below.refl _ _) k)
theorem Rd.drew (h : Rd w s v n xs) : Rd w.drew s v n xs := h.below (Below.refl _ _).drew

theorem Rd.nil (w : World) (s : Nat) : Rd w s (.slice none 0 0) 0 [] := ⟨by simp, none, 0, rfl, by omega, by simp [maxLen], fun _ => rfl, .inl rfl⟩

theorem Rd.of_own {B e : Nat} (h : w.ownsRow B e s v n xs) : Rd w s v n xs := by
  obtain ⟨h1, h2⟩ := h
  refine ⟨h1, ?_⟩
  rcases h2 with ⟨rfl, rfl⟩ | ⟨g, cap, cur, rfl, hg, hh, hn, hm, hs, ht⟩
  · exact ⟨none, 0, rfl, by omega, by simp [maxLen], fun _ => rfl, .inl rfl⟩
  · refine ⟨_, cap, rfl, hn, hm, by simp, .inr ⟨g, 0, rfl, (Array.getElem?_eq_some_iff.1 hh).1, fun j u hu => ?_⟩⟩
    rw [cell_of_row w g (0 + j) cur e (0, 0) hh]
    rw [← ht, List.getElem?_take] at hu
    split at hu
    · simpa using hu
    · cases hu
end

/-- What a slice's type t with elements e is made of. -/
def ElTy (P : Program) (t e : TypeId) (z : Value) (size bytes : Nat) : Prop :=
  P.underlying t = some (.slice e) ∧ (∃ i, P.info? e = some i ∧ i.zero = some z ∧ i.size = size ∧ i.bytes = bytes) ∧ z.cells.size = size ∧ 0 < size

theorem ElTy.sizeOf {P : Program} {t e : TypeId} {z : Value} {size bytes : Nat} (h : ElTy P t e z size bytes) (W : World) : (Go.sizeOf e).run P W = .ok size W := by
  obtain ⟨_, ⟨i, hi, _, hs, _⟩, _⟩ := h
  simp [Go.sizeOf, typeInfo, hi, hs]

/-- reading: an address for each element. -/
theorem Rd.open_ {w : World} {P : Program} {t e : TypeId} {z : Value} {s bytes : Nat} (E : ElTy P t e z s bytes) {v : Value} {n : Nat} {xs : List Value} (h : Rd w s v n xs) :
    ∃ a c, ∃ adr : Nat → Addr, v = .slice a n c ∧ n ≤ c ∧ c ≤ 9223372036854775807 ∧ xs.length = n * s ∧
      (∀ (W : World) (i : Int), 0 ≤ i → i < n → (Instr.indexAt t (.slice a n c) (.int .i64 i)).run P W = .ok (.pointer (some (adr i.toNat))) W) ∧
      (∀ i, i < n → (adr i).block < w.heap.size) ∧
      (∀ i, i < n → ∀ j, j < s → w.cell? ((adr i).add j) = xs[i * s + j]?) := by
  have E' := E
  obtain ⟨hT, -, hz, hs⟩ := E'
  obtain ⟨h1, a, c, rfl, h2, h3, h4, h5⟩ := h
  have h3' : c ≤ 9223372036854775807 := by simpa [maxLen] using h3
  rcases h5 with rfl | ⟨b, off, rfl, hlt, hc⟩
  · exact ⟨a, c, fun _ => default, rfl, h2, by omega, by simpa using h1, fun _ _ h0 hi => by omega, fun i hi => by omega, fun i hi => by omega⟩
  · refine ⟨_, c, fun i => ⟨b, off + i * s, none⟩, rfl, h2, by omega, h1, ?_, fun i hi => hlt, fun i hi j hj => ?_⟩
    · intro W i h0 hi
      have hu : P.elem t = e := by simp [Program.elem, hT]
      rw [run_indexAt_slice W t _ n c .i64 i (by rw [hu]; exact hT), if_pos ⟨h0, hi⟩, hu, E.sizeOf]
      simp [Result.andThen, Addr.add_lit]
    · have hl : i * s + j < xs.length := by
        rw [h1]
        calc i * s + j < i * s + s := by omega
          _ = (i + 1) * s := by rw [Nat.succ_mul]
          _ ≤ n * s := Nat.mul_le_mul_right _ hi
      rw [List.getElem?_eq_getElem hl, Addr.add_lit, Nat.add_assoc]
      exact hc _ _ (List.getElem?_eq_getElem hl)

theorem grown_trans_alloc {w w' : World} {o : Obj} {row : Option Nat} (h : (w.alloc o).grownBy w' row) : w.grownBy w' row := by
  refine ⟨h.os, h.tape, h.output, ?_, fun k hk hne => ?_⟩
  · have := h.size; simp at this; omega
  · rw [h.block k (by simp; omega) hne, Below.heap_alloc w o k hk]

section
variable {P : Program} {t e : TypeId} {z : Value} {size bytes : Nat} {w : World} {ops : Array Oper} {rest : List Oper} {o : Oper} {a : Act} {Q : Exit → Act → World → Prop}

/-- 'append(s, x)': one element of one cell, boxed in a new block first. -/
theorem wpList_append_one (hgd : o.guard = none) (s x : Operand) (t' : TypeId) (ho : o.op = .call { callee := .builtin .append, args := #[s, x], argTypes := #[t', t'] })
    (E : ElTy P t' e z 1 bytes) (base : Nat) (v : Value) (n : Nat) (xs : List Value) (u : Value) (hs : a.eval s = v) (hown : w.ownsRow base e 1 v n xs) (hx : a.eval x = .slice (some ⟨w.heap.size, 0, none⟩) 1 1)
    (h1 : u.oneCell' = true) (h63 : n < maxLen) (hbytes : (n + 1) * bytes ≤ 140737488355328) (hbase : base ≤ w.heap.size)
    (h : ∀ v' w', w'.ownsRow base e 1 v' (n + 1) (xs ++ [u]) → w.grownBy w' v.ownBlock → Below base w w' → wpList P ops Q rest (a.put o.dst v') w') : wpList P ops Q (o :: rest) a (w.alloc (.cells #[u] e)) := by
  obtain ⟨ht, ⟨i, hi, hz, hsz, hby⟩, hzs, hp⟩ := E
  refine wpList_append_own _ hgd s x t' ho base e i z 1 bytes ht hi hz hsz hby hzs hp v n xs hs (hown.alloc _) ⟨w.heap.size, 0, none⟩ 1 1 [u] hx rfl ?_ (by simpa using h1) (by omega) hbytes (by simp; omega) ?_
  · intro j u' hu'
    cases j with
    | zero =>
      simp at hu'
      subst hu'
      rw [Addr.add_zero', World.cell?_alloc_at _ _ _ _ rfl]
      rfl
    | succ j => simp at hu'
  · intro v' w' h2 h3 _
    have h4 := grown_trans_alloc h3
    exact h v' w' h2 h4 ((Below.refl _ _).grown h4 hbase fun k hk => (hown.lt k hk).1)

/-- 'append(s, x...)', x any slice that can be read. -/
theorem wpList_append_rd (hgd : o.guard = none) (s x : Operand) (t' : TypeId) (ho : o.op = .call { callee := .builtin .append, args := #[s, x], argTypes := #[t', t'] })
    (E : ElTy P t' e z size bytes) (base : Nat) (v : Value) (n : Nat) (xs : List Value) (y : Value) (m : Nat) (news : List Value) (hs : a.eval s = v) (hown : w.ownsRow base e size v n xs)
    (hx : a.eval x = y) (hrd : Rd w size y m news)
    (h1 : ∀ u ∈ news, u.oneCell' = true) (h63 : n + m ≤ maxLen) (hbytes : (n + m) * bytes ≤ 140737488355328) (hbase : base ≤ w.heap.size)
    (h : ∀ v' w', w'.ownsRow base e size v' (n + m) (xs ++ news) → w.grownBy w' v.ownBlock → Below base w w' → (v' = .slice none 0 0 ↔ v = .slice none 0 0 ∧ m = 0) → wpList P ops Q rest (a.put o.dst v') w') : wpList P ops Q (o :: rest) a w := by
  obtain ⟨ht, ⟨i, hi, hz, hsz, hby⟩, hzs, hp⟩ := E
  have key : ∀ (ad : Addr) c, y = .slice (some ad) m c → (∀ j u, news[j]? = some u → w.cell? (ad.add j) = some u) → wpList P ops Q (o :: rest) a w := fun ad c hy hc =>
    wpList_append_own _ hgd s x t' ho base e i z size bytes ht hi hz hsz hby hzs hp v n xs hs hown ad m c news (hx.trans hy) hrd.1 hc h1 h63 hbytes hbase
      fun v' w' h2 h3 h4 => h v' w' h2 h3 ((Below.refl _ _).grown h3 hbase fun k hk => (hown.lt k hk).1) h4
  obtain ⟨hl, b, c, hy, h2, h3, h4, h5⟩ := hrd
  rcases h5 with rfl | ⟨g, off, rfl, hlt, hc⟩
  · have hnews : news = [] := List.eq_nil_of_length_eq_zero (by simpa using hl)
    cases b with
    | none =>
      obtain rfl := h4 rfl
      subst hy
      refine wpList_append_own_none hgd s x t' ho base e i size ht hi v n xs hs hown hx ?_
      exact h v w (by simpa [hnews] using hown) ⟨rfl, rfl, rfl, Nat.le_refl _, fun _ _ _ => rfl⟩ (Below.refl _ _) (by simp)
    | some ad => exact key ad c hy (by simp [hnews])
  · exact key _ c hy fun j u hu => by rw [Addr.add_lit]; exact hc j u hu
end

/-- wp_scope_jumps; the first way up to the label hands over to the passes. -/
theorem wp_scope_jumps2 {P : Program} {a : Act} {w : World} {Q : Exit → Act → World → Prop} {c rest : Code} (l : Nat) (J : Act → World → Prop) (μ : Act → World → Nat) (hf : findLabel c l = some (.seq .skip rest))
    (first : (∀ a w, J a w → rest.wp P (Exit.jump l J Q) a w) → c.wp P (Exit.jump l J Q) a w)
    (pass : ∀ a w, J a w → rest.wp P (Exit.jump l (fun a' w' => J a' w' ∧ μ a' w' < μ a w) Q) a w) : (Code.scope c).wp P Q a w := by
  refine wp_scope_jumps l J μ hf (first fun a w h => wp_mono (pass a w h) ?_) fun a w h => wp_seq (wp_skip (pass a w h))
  intro e a w h
  cases e with
  | goto l' => exact ⟨h.1, h.2.1⟩
  | _ => exact h

theorem ret_bool {a b : Bool} (h : a = b) : Ending.returned (.bool a) = .returned (.bool b) := by rw [h]
theorem ret_int {k : IntKind} {a b : Int} (h : a = b) : Ending.returned (.int k a) = .returned (.int k b) := by rw [h]

theorem ret_3 {k1 k2 k3 : IntKind} {a b c a' b' c' : Int} (h1 : a = a') (h2 : b = b') (h3 : c = c') : Ending.returned (.tuple #[.int k1 a, .int k2 b, .int k3 c]) = .returned (.tuple #[.int k1 a', .int k2 b', .int k3 c']) := by rw [h1, h2, h3]
theorem ret_2 {k1 k2 : IntKind} {a b a' b' : Int} (h1 : a = a') (h2 : b = b') : Ending.returned (.tuple #[.int k1 a, .int k2 b]) = .returned (.tuple #[.int k1 a', .int k2 b']) := by rw [h1, h2]

/-- bytes -/
def bv (x : UInt8) : Value := .int .u8 (x.toNat : Int)
def Bs (w : World) (v : Value) (l : List UInt8) : Prop := Rd w 1 v l.length (l.map bv)
/-- bytes of the call's own -/
def Ob (w : World) (B e : Nat) (v : Value) (l : List UInt8) : Prop := w.ownsRow B e 1 v l.length (l.map bv)

theorem Ob.bs {w : World} {B e : Nat} {v : Value} {l : List UInt8} (h : Ob w B e v l) : Bs w v l := Rd.of_own h
theorem Bs.below {w w' : World} {v : Value} {l : List UInt8} (h : Bs w v l) (hb : Below w.heap.size w w') : Bs w' v l := Rd.below h hb
theorem Bs.drew {w : World} {v : Value} {l : List UInt8} (h : Bs w v l) : Bs w.drew v l := Rd.drew h
theorem Bs.alloc {w : World} {v : Value} {l : List UInt8} (h : Bs w v l) (o : Obj) : Bs (w.alloc o) v l := Rd.alloc h o
theorem bv_one (l : List UInt8) : ∀ u ∈ l.map bv, u.oneCell' = true := by
  intro u hu
  obtain ⟨x, _, rfl⟩ := List.mem_map.1 hu
  rfl

section
variable {P : Program} {t e : TypeId} {z : Value} {bytes : Nat} {w : World} {ops : Array Oper} {rest : List Oper} {o : Oper} {a : Act} {Q : Exit → Act → World → Prop} {base : Nat} {v : Value} {l : List UInt8}

/-- 'append(s, x)' at bytes of the call's own. -/
theorem wpList_append_byte (hown : Ob w base e v l) (x : UInt8) (E : ElTy P t e z 1 bytes) (h63 : (l.length + 1) * bytes ≤ 140737488355328) (hmx : l.length < 9223372036854775807) (hbase : base ≤ w.heap.size)
    (h : ∀ v' w', Ob w' base e v' (l ++ [x]) → w.grownBy w' v.ownBlock → Below base w w' → wpList P ops Q rest (a.put o.dst v') w')
    (so xo : Operand) (hgd : o.guard = none) (ho : o.op = .call { callee := .builtin .append, args := #[so, xo], argTypes := #[t, t] })
    (u : Value) (hs : a.eval so = v) (hx : a.eval xo = .slice (some ⟨w.heap.size, 0, none⟩) 1 1)
    (hu : u = bv x) : wpList P ops Q (o :: rest) a (w.alloc (.cells #[u] e)) := by
  refine wpList_append_one hgd so xo t ho E base v l.length (l.map bv) u hs hown hx (by rw [hu]; rfl) (by simpa [maxLen] using hmx) h63 hbase ?_
  intro v' w' h1 h2 h3
  refine h v' w' ?_ h2 h3
  subst hu
  simpa [Ob] using h1

/-- 'append(s, x...)' at bytes of the call's own, x any bytes. -/
theorem wpList_append_bytes (hown : Ob w base e v l) {y : Value} {m : List UInt8} (hrd : Bs w y m) (E : ElTy P t e z 1 bytes) (h63 : (l.length + m.length) * bytes ≤ 140737488355328) (hmx : l.length + m.length ≤ 9223372036854775807) (hbase : base ≤ w.heap.size)
    (h : ∀ v' w', Ob w' base e v' (l ++ m) → w.grownBy w' v.ownBlock → Below base w w' → (v' = .slice none 0 0 ↔ v = .slice none 0 0 ∧ m = []) → wpList P ops Q rest (a.put o.dst v') w')
    (so xo : Operand) (hgd : o.guard = none) (ho : o.op = .call { callee := .builtin .append, args := #[so, xo], argTypes := #[t, t] })
    (hs : a.eval so = v) (hx : a.eval xo = y) : wpList P ops Q (o :: rest) a w := by
  refine wpList_append_rd hgd so xo t ho E base v l.length (l.map bv) y m.length (m.map bv) hs hown hx hrd (bv_one m) (by simpa [maxLen] using hmx) h63 hbase ?_
  intro v' w' h1 h2 h3 h4
  exact h v' w' (by simpa [Ob] using h1) h2 h3 (by simpa using h4)
end

/-- bytes that have just been written out. -/
theorem ob_lit (w : World) (e : Nat) (cs : Array Value) (l : List UInt8) (n : Nat) (hl : l.length = n) (hn : n ≤ maxLen) (hc : cs.toList = l.map bv) : Ob (w.alloc (.cells cs e)) w.heap.size e (.slice (some ⟨w.heap.size, 0, none⟩) n n) l := by
  subst hl
  refine ⟨by simp, .inr ⟨w.heap.size, l.length, cs, rfl, Nat.le_refl _, heap_alloc_new w _, Nat.le_refl _, hn, ?_, ?_⟩⟩
  · rw [← Array.length_toList, hc]; simp
  · rw [hc, List.take_of_length_le (by simp)]

theorem Bs.open_n {w : World} {P : Program} {t e : TypeId} {z : Value} {bytes : Nat} (E : ElTy P t e z 1 bytes) {v : Value} {l : List UInt8} (h : Bs w v l) (n : Nat) (hn : l.length = n) :
    ∃ a c, ∃ adr : Nat → Addr, v = .slice a n c ∧ n ≤ c ∧ c ≤ 9223372036854775807 ∧
      (∀ (W : World) (i : Int), 0 ≤ i → i < n → (Instr.indexAt t (.slice a n c) (.int .i64 i)).run P W = .ok (.pointer (some (adr i.toNat))) W) ∧
      (∀ i, i < n → (adr i).block < w.heap.size) ∧
      (∀ i x, l[i]? = some x → w.cell? (adr i) = some (.int .u8 x.toNat)) := by
  subst hn
  obtain ⟨a, c, adr, h1, h2, h3, h4, h5, h6, h7⟩ := Rd.open_ E h
  refine ⟨a, c, adr, h1, h2, h3, h5, h6, fun i x hx => ?_⟩
  have := h7 i (List.getElem?_eq_some_iff.1 hx).1 0 (by omega)
  rw [Addr.add_zero'] at this
  rw [this]
  simp [hx, bv]

theorem Bs.open_ {w : World} {P : Program} {t e : TypeId} {z : Value} {bytes : Nat} (E : ElTy P t e z 1 bytes) {v : Value} {l : List UInt8} (h : Bs w v l) :
    ∃ a c, ∃ adr : Nat → Addr, v = .slice a l.length c ∧ l.length ≤ c ∧ c ≤ 9223372036854775807 ∧
      (∀ (W : World) (i : Int), 0 ≤ i → i < l.length → (Instr.indexAt t (.slice a l.length c) (.int .i64 i)).run P W = .ok (.pointer (some (adr i.toNat))) W) ∧
      (∀ i, i < l.length → (adr i).block < w.heap.size) ∧
      (∀ i x, l[i]? = some x → w.cell? (adr i) = some (.int .u8 x.toNat)) := Bs.open_n E h l.length rfl

/-- a store of a whole aggregate into a block that has just been made. -/
theorem run_storeVar_new {P : Program} (w : World) (t ty : TypeId) (Z cs : Array Value) (hs : (P.info? ty).map (·.size) = some cs.size) (hz : Z.size = cs.size) (h1 : ∀ v ∈ cs.toList, v.oneCell' = true) :
    (storeVar ty ⟨w.heap.size, 0, none⟩ (.agg cs)).run P (w.alloc (.cells Z t)) = .ok () (w.alloc (.cells cs t)) := by
  have hg : (w.alloc (.cells Z t)).heap[w.heap.size]? = some (.cells Z t (0, 0)) := heap_alloc_new w _
  have hst := run_storeCells_at P w.heap.size 0 t cs.toList 0 Z (w.alloc (.cells Z t)) hg (by simp; omega) h1
  have hset : (w.alloc (.cells Z t)).setRow w.heap.size cs = w.alloc (.cells cs t) := by
    unfold World.setRow World.alloc
    congr 1
    apply Array.ext_getElem?
    intro i
    simp only [Array.getElem?_modify, Array.getElem?_push]
    by_cases e : w.heap.size = i
    · subst e; simp
    · rw [if_neg e]
      rw [if_neg (fun h => e h.symm), if_neg (fun h => e h.symm)]
  obtain ⟨i, hi, hsz⟩ := Option.map_eq_some_iff.1 hs
  have hz2 : (w.alloc (.cells Z t)).setRow w.heap.size (Z.toList.take (0 + 0) ++ cs.toList ++ Z.toList.drop (0 + 0 + cs.toList.length)).toArray = w.alloc (.cells cs t) := by
    rw [← hset]
    congr 1
    have : List.drop (0 + 0 + cs.toList.length) Z.toList = [] := List.drop_eq_nil_of_le (by simp; omega)
    rw [this]
    simp
  rw [hz2] at hst
  simp [storeVar, Value.cells, Go.sizeOf, typeInfo, hi, hsz, hst]

theorem wpList_store_new {P : Program} {w : World} {ops : Array Oper} {rest : List Oper} {o : Oper} {a : Act} {Q : Exit → Act → World → Prop} {t ty : TypeId} {Z cs : Array Value} (hgd : o.guard = none) (x y : Operand)
    (ho : o.op = .store ty x y) (hx : a.eval x = .pointer (some ⟨w.heap.size, 0, none⟩)) (hy : a.eval y = .agg cs)
    (hs : (P.info? ty).map (·.size) = some cs.size) (hz : Z.size = cs.size) (h1 : ∀ v ∈ cs.toList, v.oneCell' = true)
    (h : wpList P ops Q rest (a.put o.dst undef) (w.alloc (.cells cs t))) : wpList P ops Q (o :: rest) a (w.alloc (.cells Z t)) := by
  refine wpList_plain hgd fun K hK => ?_
  have hr := run_storeVar_new (P := P) w t ty Z cs hs hz h1
  unfold Oper.wp execOp
  simp only [ho, hx, hy, Instr.storeAt, Instr.sureAddr, Sem.run_bind, Sem.run_pure, Result.andThen_ok, hr]
  exact hK _ _ h

/-- a piece of a slice that is read. -/
theorem Rd.cut {w : World} {s n : Nat} {a : Option Addr} {c : Nat} {xs : List Value} (h : Rd w s (.slice a n c) n xs) (lo hi : Nat) (h1 : lo ≤ hi) (h2 : hi ≤ n) :
    Rd w s (.slice (if c = lo then a else a.map (·.add (lo * s))) (hi - lo) (c - lo)) (hi - lo) ((xs.drop (lo * s)).take ((hi - lo) * s)) := by
  obtain ⟨h3, a', c', he, h4, h5, h6, h7⟩ := h
  simp only [Value.slice.injEq, true_and] at he
  obtain ⟨rfl, rfl⟩ := he
  have hmul : (hi - lo) * s ≤ n * s - lo * s := by rw [← Nat.sub_mul]; exact Nat.mul_le_mul_right _ (by omega)
  refine ⟨by rw [List.length_take, List.length_drop]; omega, _, _, rfl, by omega, by omega, ?_, ?_⟩
  · intro hn
    by_cases hc : c = lo
    · omega
    · rw [if_neg hc] at hn
      have : a = none := by cases a <;> simp_all
      have := h6 this
      omega
  · by_cases hz : hi - lo = 0
    · exact .inl hz
    · right
      rcases h7 with h7 | ⟨b, off, rfl, hlt, hc⟩
      · omega
      · refine ⟨b, off + lo * s, by rw [if_neg (by omega)]; simp [Addr.add_lit], hlt, fun j u hu => ?_⟩
        rw [List.getElem?_take] at hu
        split at hu
        · rw [List.getElem?_drop] at hu
          rw [Nat.add_assoc]
          exact hc _ _ hu
        · cases hu

theorem Bs.cut {w : World} {n : Nat} {a : Option Addr} {c : Nat} {l : List UInt8} (h : Bs w (.slice a n c) l) (lo hi : Nat) (h1 : lo ≤ hi) (h2 : hi ≤ l.length) :
    Bs w (.slice (if c = lo then a else a.map (·.add lo)) (hi - lo) (c - lo)) ((l.drop lo).take (hi - lo)) := by
  have hn : n = l.length := by
    obtain ⟨_, a', c', he, _⟩ := h
    simp only [Value.slice.injEq] at he
    exact he.2.1
  subst hn
  have := Rd.cut h lo hi h1 h2
  unfold Bs
  rw [List.length_take, List.length_drop, show min (hi - lo) (l.length - lo) = hi - lo by omega]
  simpa [List.map_take, List.map_drop] using this

theorem Bs.take {w : World} {n : Nat} {a : Option Addr} {c : Nat} {l : List UInt8} (h : Bs w (.slice a n c) l) (k : Nat) (hk : k ≤ l.length) : Bs w (.slice a k c) (l.take k) := by
  have := h.cut 0 k (by omega) hk
  simpa [Addr.add_zero'] using this

theorem Bs.drop {w : World} {n : Nat} {a : Option Addr} {c : Nat} {l : List UInt8} (h : Bs w (.slice a n c) l) (k : Nat) (hk : k ≤ l.length) :
    Bs w (.slice (if c = k then a else a.map (·.add k)) (l.length - k) (c - k)) (l.drop k) := by
  have := h.cut k l.length hk (Nat.le_refl _)
  rwa [List.take_of_length_le (by simp)] at this

theorem ob_made (w : World) (e : Nat) : Ob (w.alloc (.cells #[] e)) w.heap.size e (.slice (some ⟨w.heap.size, 0, none⟩) 0 0) [] :=
  World.ownsRow_made w #[] 0 (Nat.le_refl _) (by simp [maxLen]) (by simp)

theorem beq_self_true (l : List UInt8) : (l == l) = true := by simp

end Go.Proofs.YtjnbdeopoohnmaaGreatDoor
/- More small laws: bytes of the call's own, opened and stored into. -/
namespace Go.Proofs.YtjnbdeopoohnmaaGreatDoor
open Go.RowKit

theorem Ob.open_ {w : World} {B e : Nat} {v : Value} {l : List UInt8} (h : Ob w B e v l) (hl : 0 < l.length) :
    ∃ g c, v = .slice (some ⟨g, 0, none⟩) l.length c ∧ l.length ≤ c ∧ c ≤ 9223372036854775807 ∧ B ≤ g ∧ g < w.heap.size ∧
      (∀ i x, l[i]? = some x → w.cell? ⟨g, i, none⟩ = some (.int .u8 x.toNat)) ∧ (∀ i, w.frozen? ⟨g, i, none⟩ = false) := by
  have h' := h
  obtain ⟨h1, h2⟩ := h'
  rcases h2 with ⟨rfl, h2⟩ | ⟨g, c, cur, rfl, hg, hh, hn, hm, hs, ht⟩
  · omega
  · refine ⟨g, c, rfl, hn, by simpa [maxLen] using hm, hg, (Array.getElem?_eq_some_iff.1 hh).1, fun i x hx => ?_, fun i => World.ownsRow.frozenAt h i⟩
    have hi := (List.getElem?_eq_some_iff.1 hx).1
    rw [World.ownsRow.cellAt h i (by omega)]
    simp [hx, bv]

theorem Ob.set {w : World} {B e g c n : Nat} {l : List UInt8} (h : Ob w B e (.slice (some ⟨g, 0, none⟩) n c) l) (i : Nat) (x : UInt8) :
    Ob (w.setCell ⟨g, i, none⟩ (.int .u8 x.toNat)) B e (.slice (some ⟨g, 0, none⟩) n c) (l.set i x) := by
  have hn : n = l.length := by
    rcases h.2 with ⟨h', _⟩ | ⟨_, _, _, h', _⟩
    · simp at h'
    · simp only [Value.slice.injEq] at h'
      exact h'.2.1
  subst hn
  have := (World.ownsRow.stored h i (bv x)).1
  unfold Ob
  show World.ownsRow (w.setCell _ (bv x)) _ _ _ _ _ _
  simpa [List.map_set] using this

theorem Ob.below {w w' : World} {B e : Nat} {v : Value} {l : List UInt8} (h : Ob w B e v l) (hb : Below w.heap.size w w') : Ob w' B e v l := by
  refine World.ownsRow.kept (row := none) h ⟨hb.os, hb.tape, hb.output, hb.size, fun k hk _ => hb.block k hk⟩ ?_
  cases hv : v.ownBlock <;> simp

theorem Ob.drew {w : World} {B e : Nat} {v : Value} {l : List UInt8} (h : Ob w B e v l) : Ob w.drew B e v l := h.below (Below.refl _ _).drew
theorem Ob.drewN {w : World} {B e : Nat} {v : Value} {l : List UInt8} (h : Ob w B e v l) (k : Nat) : Ob (w.drewN k) B e v l := h.below (below_drewN (Below.refl _ _) k)
theorem Ob.alloc {w : World} {B e : Nat} {v : Value} {l : List UInt8} (h : Ob w B e v l) (o : Obj) : Ob (w.alloc o) B e v l := h.below ((Below.refl _ _).alloc (Nat.le_refl _) o)
theorem Ob.mono {w : World} {B B' e : Nat} {v : Value} {l : List UInt8} (h : Ob w B e v l) (hB : B' ≤ B) : Ob w B' e v l := by
  refine ⟨h.1, ?_⟩
  rcases h.2 with h2 | ⟨g, c, cur, h1, h2, r⟩
  · exact .inl h2
  · exact .inr ⟨g, c, cur, h1, by omega, r⟩

end Go.Proofs.YtjnbdeopoohnmaaGreatDoor
/- What may have changed: only the blocks of F. Small laws, over any program. -/
namespace Go.Proofs.YtjnbdeopoohnmaaGreatDoor
open Go.RowKit

/-- Of the blocks that were there only those of F may have changed. -/
structure Only (F : Nat → Prop) (w w' : World) : Prop where
  os : w'.os = w.os
  tape : w'.tape = w.tape
  output : w'.output = w.output
  size : w.heap.size ≤ w'.heap.size
  block : ∀ k, k < w.heap.size → ¬ F k → w'.heap[k]? = w.heap[k]?

theorem Only.refl (F : Nat → Prop) (w : World) : Only F w w := ⟨rfl, rfl, rfl, Nat.le_refl _, fun _ _ _ => rfl⟩
theorem Only.of_below {F : Nat → Prop} {w w' : World} (h : Below w.heap.size w w') : Only F w w' := ⟨h.os, h.tape, h.output, h.size, fun k hk _ => h.block k hk⟩
theorem Only.mono {F G : Nat → Prop} {w w' : World} (h : Only F w w') (hF : ∀ k, k < w.heap.size → F k → G k) : Only G w w' :=
  ⟨h.os, h.tape, h.output, h.size, fun k hk hn => h.block k hk fun hf => hn (hF k hk hf)⟩
theorem Only.trans {F : Nat → Prop} {a b c : World} (h : Only F a b) (k : Only F b c) : Only F a c :=
  ⟨k.os.trans h.os, k.tape.trans h.tape, k.output.trans h.output, Nat.le_trans h.size k.size, fun i hi hn => (k.block i (Nat.lt_of_lt_of_le hi h.size) hn).trans (h.block i hi hn)⟩
/-- a second step that may change what the first has made -/
theorem Only.trans' {F G : Nat → Prop} {a b c : World} (h : Only F a b) (k : Only G b c) (hG : ∀ i, G i → F i ∨ a.heap.size ≤ i) : Only F a c :=
  ⟨k.os.trans h.os, k.tape.trans h.tape, k.output.trans h.output, Nat.le_trans h.size k.size, fun i hi hn =>
    (k.block i (Nat.lt_of_lt_of_le hi h.size) fun hg => (hG i hg).elim hn (by omega)).trans (h.block i hi hn)⟩
theorem Only.below {F : Nat → Prop} {w w' : World} {B : Nat} (h : Only F w w') (hF : ∀ k, F k → B ≤ k) (hB : B ≤ w.heap.size) : Below B w w' :=
  ⟨h.os, h.tape, h.output, h.size, fun k hk => h.block k (by omega) fun hf => by have := hF k hf; omega⟩
theorem Only.alloc (F : Nat → Prop) (w : World) (o : Obj) : Only F w (w.alloc o) := .of_below ((Below.refl _ _).alloc (Nat.le_refl _) o)

theorem Rd.only {F : Nat → Prop} {w w' : World} {s : Nat} {v : Value} {n : Nat} {xs : List Value} (h : Rd w s v n xs) (ho : Only F w w') (hd : ∀ k, v.ownBlock = some k → ¬ F k) : Rd w' s v n xs :=
  h.of_heap ho.size fun k hk hl => ho.block k hl (hd k hk)
theorem Bs.only {F : Nat → Prop} {w w' : World} {v : Value} {l : List UInt8} (h : Bs w v l) (ho : Only F w w') (hd : ∀ k, v.ownBlock = some k → ¬ F k) : Bs w' v l := Rd.only h ho hd

theorem Bs.only' {F : Nat → Prop} {w w' : World} {v : Value} {l : List UInt8} (h : Bs w v l) (ho : Only F w w') (hd : l ≠ [] → ∀ k, v.ownBlock = some k → ¬ F k) : Bs w' v l := by
  by_cases hl : l = []
  · subst hl
    obtain ⟨h1, a, c, rfl, h2, h3, h4, _⟩ := h
    exact ⟨h1, a, c, rfl, h2, h3, h4, .inl rfl⟩
  · exact h.only ho (hd hl)
theorem Bs.lt {w : World} {v : Value} {l : List UInt8} (h : Bs w v l) (hl : l ≠ []) : ∀ k, v.ownBlock = some k → k < w.heap.size := by
  obtain ⟨h1, a, c, rfl, h2, h3, h4, h5⟩ := h
  intro k hk
  rcases h5 with h5 | ⟨b, off, rfl, hlt, _⟩
  · exact absurd (List.eq_nil_of_length_eq_zero h5) hl
  · simp only [Value.ownBlock, Option.some.injEq] at hk
    omega
theorem only_cell {F : Nat → Prop} {w w' : World} (h : Only F w w') {a : Addr} (hF : ¬ F a.block) (hl : a.block < w.heap.size) : w'.cell? a = w.cell? a := World.cell?_of_block (w := w) (h.block a.block hl hF)
theorem Ob.lt {w : World} {B e : Nat} {v : Value} {l : List UInt8} (h : Ob w B e v l) : ∀ k, v.ownBlock = some k → B ≤ k ∧ k < w.heap.size := World.ownsRow.lt h
theorem Ob.only {F : Nat → Prop} {w w' : World} {B e : Nat} {v : Value} {l : List UInt8} (h : Ob w B e v l) (ho : Only F w w') (hd : ∀ k, v.ownBlock = some k → ¬ F k) : Ob w' B e v l := by
  refine ⟨h.1, ?_⟩
  rcases h.2 with h2 | ⟨g, cap, cur, rfl, hb, hg, r⟩
  · exact .inl h2
  · refine .inr ⟨g, cap, cur, rfl, hb, ?_, r⟩
    rw [ho.block g (Array.getElem?_eq_some_iff.1 hg).1 (hd g rfl)]
    exact hg
theorem Ob.shape {w : World} {B e : Nat} {v : Value} {l : List UInt8} (h : Ob w B e v l) : ∃ a c, v = .slice a l.length c := by
  rcases h.2 with ⟨rfl, h2⟩ | ⟨g, cap, cur, rfl, _⟩
  · exact ⟨none, 0, by rw [h2]⟩
  · exact ⟨_, cap, rfl⟩
theorem Bs.shape {w : World} {v : Value} {l : List UInt8} (h : Bs w v l) : ∃ a c, v = .slice a l.length c := by
  obtain ⟨_, a, c, h, _⟩ := h
  exact ⟨a, c, h⟩
theorem Ob.nil (w : World) (B e : Nat) : Ob w B e (.slice none 0 0) [] := World.ownsRow_nil w B e 1

/-- an owned row's block, seen by its element type -/
theorem Ob.ne {w : World} {B e g t : Nat} {v : Value} {l : List UInt8} {A : Array Value} (h : Ob w B e v l) (hg : w.heap[g]? = some (.cells A t (0, 0))) (hne : t ≠ e) : v.ownBlock ≠ some g := by
  rcases h.2 with ⟨rfl, _⟩ | ⟨g', cap, cur, rfl, _, hg', _⟩
  · simp [Value.ownBlock]
  · simp only [Value.ownBlock, ne_eq, Option.some.injEq]
    rintro rfl
    rw [hg] at hg'
    simp at hg'
    exact hne hg'.2

theorem grown_only {w w' : World} {row : Option Nat} (h : w.grownBy w' row) : Only (fun k => row = some k) w w' :=
  ⟨h.os, h.tape, h.output, h.size, fun k hk hn => h.block k hk fun e => hn e.symm⟩
theorem setCell_only (w : World) (a : Addr) (u : Value) : Only (fun k => k = a.block) w (w.setCell a u) :=
  ⟨rfl, rfl, rfl, by simp [World.setCell], fun k _ hn => Below.heap_setCell _ _ _ _ hn⟩

theorem heap_lt {W : World} {b : Nat} {o : Obj} (h : W.heap[b]? = some o) : b < W.heap.size := (Array.getElem?_eq_some_iff.1 h).1
theorem alloc_get (w : World) (o : Obj) (k : Nat) : (w.alloc o).heap[k]? = if k = w.heap.size then some o else w.heap[k]? := by
  split
  · next h => rw [h]; exact by show (w.heap.push o)[w.heap.size]? = some o; simp
  · next h =>
    rcases Nat.lt_or_ge k w.heap.size with hk | hk
    · exact Below.heap_alloc w o k hk
    · rw [Array.getElem?_eq_none (by simp; omega), Array.getElem?_eq_none hk]

theorem row_setCell {w : World} {g t : Nat} {fr : Nat × Nat} {cs : Array Value} (h : w.heap[g]? = some (.cells cs t fr)) (i : Nat) (u : Value) : (w.setCell ⟨g, i, none⟩ u).heap[g]? = some (.cells (cs.setIfInBounds i u) t fr) := by
  simp [World.setCell, Array.getElem?_modify, h]
theorem row_free {w : World} {g t : Nat} {cs : Array Value} (h : w.heap[g]? = some (.cells cs t (0, 0))) (i : Nat) : w.frozen? ⟨g, i, none⟩ = false := by
  simp [World.frozen?, h]

theorem set_only (w : World) (g i : Nat) (u : Value) : Only (fun k => k = g) w (w.setCell ⟨g, i, none⟩ u) := setCell_only w ⟨g, i, none⟩ u
theorem only_drewN {F : Nat → Prop} {a w : World} (h : Only F a w) (k : Nat) : Only F a (w.drewN k) := ⟨h.os, h.tape, h.output, h.size, h.block⟩
theorem only_drew {F : Nat → Prop} {a w : World} (h : Only F a w) : Only F a w.drew := ⟨h.os, h.tape, h.output, h.size, h.block⟩

section
variable {P : Program} {t e : TypeId} {z : Value} {size bytes : Nat} {w : World} {ops : Array Oper} {rest : List Oper} {o : Oper} {a : Act} {Q : Exit → Act → World → Prop}

/-- an append keeps the row or moves to a new one -/
theorem run_append_moves (E : ElTy P t e z size bytes) (ty : TypeId) (base : Nat) {v : Value} {n : Nat} {xs : List Value} (hown : w.ownsRow base e size v n xs)
    (ad : Addr) (m c : Nat) (news : List Value) (hl : news.length = m * size) (hnews : ∀ j u, news[j]? = some u → w.cell? (ad.add j) = some u) (h1 : ∀ u ∈ news, u.oneCell' = true)
    (h63 : n + m ≤ maxLen) (hbytes : (n + m) * bytes ≤ 140737488355328) {v' : Value} {w' : World}
    (hr : (Builtin.append_ #[t, t] ty #[v, .slice (some ad) m c]).run P w = .ok v' w') : v'.ownBlock = v.ownBlock ∨ v'.ownBlock = some w.heap.size := by
  obtain ⟨ht, ⟨i, hi, hz, rfl, rfl⟩, hzs, hp⟩ := E
  have h63' : n + m ≤ 9223372036854775807 := by simpa [maxLen] using h63
  rcases hown.2 with ⟨rfl, rfl⟩ | ⟨g, cap, cur, rfl, hbg, hg, hnc, hcm, hcs, htake⟩
  · by_cases hm : m = 0
    · subst hm
      have hn : news = [] := List.eq_nil_of_length_eq_zero (by simpa using hl)
      subst hn
      simp [Builtin.append_, run_underlying ht, sizeOf, typeInfo, hi, Builtin.lenOf, Builtin.firstCells, loadCells, loadCellsFrom] at hr
      left; rw [← hr.1]
    · have h := run_append_nil (P := P) w t ty e i z ht hi hz ad m c news hl hnews (by omega) (by omega) (by have hb := hbytes; simp only [Nat.zero_add] at hb; omega)
      rw [h] at hr
      injection hr with h1' h2'
      right; rw [← h1']; rfl
  · by_cases hroom : n + m ≤ cap
    · have hfit : n * i.size + news.length ≤ cur.size := by rw [hl, hcs, ← Nat.add_mul]; exact Nat.mul_le_mul_right _ hroom
      have h := run_append_room (P := P) w t ty e i ht hi g n cap cur hg ad m c news hl hnews h1 hroom hfit
      rw [h] at hr
      injection hr with h1' h2'
      left; rw [← h1']; rfl
    · have holds : ∀ j u, xs[j]? = some u → w.cell? ((⟨g, 0, none⟩ : Addr).add j) = some u := World.ownsRow.cells hown (g := g) rfl
      have h := run_append_grow (P := P) w t ty e i z ht hi hz ⟨g, 0, none⟩ n cap xs hown.1 holds ad m c news hl hnews (by omega) (by omega) (growslice_fits (by omega) hbytes)
      rw [h] at hr
      injection hr with h1' h2'
      right; rw [← h1']; rfl

/-- 'append(s, x...)', x any slice that can be read; where the row lies. -/
theorem wp_append_mv {K : Act → World → Prop} (s x : Operand) (t' : TypeId) (ho : o.op = .call { callee := .builtin .append, args := #[s, x], argTypes := #[t', t'] })
    (E : ElTy P t' e z size bytes) (base : Nat) (v : Value) (n : Nat) (xs : List Value) (y : Value) (m : Nat) (news : List Value) (hs : a.eval s = v) (hown : w.ownsRow base e size v n xs)
    (hx : a.eval x = y) (hrd : Rd w size y m news)
    (h1 : ∀ u ∈ news, u.oneCell' = true) (h63 : n + m ≤ maxLen) (hbytes : (n + m) * bytes ≤ 140737488355328) (hbase : base ≤ w.heap.size)
    (h : ∀ v' w', w'.ownsRow base e size v' (n + m) (xs ++ news) → w.grownBy w' v.ownBlock → (v'.ownBlock = v.ownBlock ∨ v'.ownBlock = some w.heap.size) → K (a.put o.dst v') w') : o.wp P a w K Q := by
  have E' := E
  obtain ⟨ht, ⟨i, hi, hz, hsz, hby⟩, hzs, hp⟩ := E
  have fin : ∀ v' w', (Builtin.append_ #[t', t'] o.type #[v, y]).run P w = .ok v' w' → K (a.put o.dst v') w' → o.wp P a w K Q := fun v' w' hr hk => by
    unfold Oper.wp execOp
    simp only [ho, resolve, invoke, builtin, Sem.run_bind, Sem.run_pure, Result.andThen_ok, List.map_toArray, List.map_cons, List.map_nil, hs, hx, hr]
    exact hk
  have key : ∀ (ad : Addr) c, y = .slice (some ad) m c → (∀ j u, news[j]? = some u → w.cell? (ad.add j) = some u) → o.wp P a w K Q := fun ad c hy hc => by
    subst hy
    obtain ⟨v', w', hr, h2, h3, h4⟩ := run_append_own (P := P) w base t' o.type e i z size bytes ht hi hz hsz hby hzs hp v n xs hown ad m c news hrd.1 hc h1 h63 hbytes hbase
    exact fin v' w' hr (h v' w' h2 h3 (run_append_moves E' o.type base hown ad m c news hrd.1 hc h1 h63 hbytes hr))
  obtain ⟨hl, b, c, hy, h2, h3, h4, h5⟩ := id hrd
  rcases h5 with rfl | ⟨g, off, rfl, hlt, hc⟩
  · have hnews : news = [] := List.eq_nil_of_length_eq_zero (by simpa using hl)
    cases b with
    | none =>
      obtain rfl := h4 rfl
      subst hy
      refine fin v w ?_ (h v w (by simpa [hnews] using hown) ⟨rfl, rfl, rfl, Nat.le_refl _, fun _ _ _ => rfl⟩ (.inl rfl))
      rcases hown.2 with ⟨rfl, rfl⟩ | ⟨g, cap, cur, rfl, _, _, hnc, _⟩
      · simp [Builtin.append_, run_underlying ht, sizeOf, typeInfo, hi, Builtin.lenOf, Builtin.firstCells]
      · simp [Builtin.append_, run_underlying ht, sizeOf, typeInfo, hi, Builtin.lenOf, Builtin.firstCells, hnc, storeCells]
    | some ad => exact key ad c hy (by simp [hnews])
  · exact key _ c hy fun j u hu => by rw [Addr.add_lit]; exact hc j u hu

theorem wpList_append_mv (hgd : o.guard = none) (s x : Operand) (t' : TypeId) (ho : o.op = .call { callee := .builtin .append, args := #[s, x], argTypes := #[t', t'] })
    (E : ElTy P t' e z size bytes) (base : Nat) (v : Value) (n : Nat) (xs : List Value) (y : Value) (m : Nat) (news : List Value) (hs : a.eval s = v) (hown : w.ownsRow base e size v n xs)
    (hx : a.eval x = y) (hrd : Rd w size y m news)
    (h1 : ∀ u ∈ news, u.oneCell' = true) (h63 : n + m ≤ maxLen) (hbytes : (n + m) * bytes ≤ 140737488355328) (hbase : base ≤ w.heap.size)
    (h : ∀ v' w', w'.ownsRow base e size v' (n + m) (xs ++ news) → w.grownBy w' v.ownBlock → (v'.ownBlock = v.ownBlock ∨ v'.ownBlock = some w.heap.size) → wpList P ops Q rest (a.put o.dst v') w') : wpList P ops Q (o :: rest) a w :=
  wpList_plain hgd fun _ hK => wp_append_mv s x t' ho E base v n xs y m news hs hown hx hrd h1 h63 hbytes hbase fun v' w' h2 h3 h4 => hK _ _ (h v' w' h2 h3 h4)

/-- the same in a region that draws its order -/
theorem step_append_bytes_mv {K : Act → World → Prop} {F : Prop} {base : Nat} {v : Value} {l : List UInt8} (hown : Ob w base e v l) {y : Value} {m : List UInt8} (hrd : Bs w y m) (E : ElTy P t e z 1 bytes) (h63 : (l.length + m.length) * bytes ≤ 140737488355328) (hmx : l.length + m.length ≤ 9223372036854775807) (hbase : base ≤ w.heap.size)
    (h : ∀ v' w', Ob w' base e v' (l ++ m) → w.grownBy w' v.ownBlock → (v'.ownBlock = v.ownBlock ∨ v'.ownBlock = some w.heap.size) → K (a.put o.dst v') w')
    (so xo : Operand) (hgd : o.guard = none) (ho : o.op = .call { callee := .builtin .append, args := #[so, xo], argTypes := #[t, t] })
    (hs : a.eval so = v) (hx : a.eval xo = y) : if Region.wanted o (yielded ops a.tmps) = true then Oper.wp P o a w K Q else F := by
  have hw : Region.wanted o (yielded ops a.tmps) = true := by simp [Region.wanted, hgd]
  rw [if_pos hw]
  refine wp_append_mv so xo t ho E base v l.length (l.map bv) y m.length (m.map bv) hs hown hx hrd (bv_one m) (by simpa [maxLen] using hmx) h63 hbase ?_
  intro v' w' h1 h2 h3
  exact h v' w' (by simpa [Ob] using h1) h2 h3

/-- the same at bytes -/
theorem wpList_append_bytes_mv {base : Nat} {v : Value} {l : List UInt8} (hown : Ob w base e v l) {y : Value} {m : List UInt8} (hrd : Bs w y m) (E : ElTy P t e z 1 bytes) (h63 : (l.length + m.length) * bytes ≤ 140737488355328) (hmx : l.length + m.length ≤ 9223372036854775807) (hbase : base ≤ w.heap.size)
    (h : ∀ v' w', Ob w' base e v' (l ++ m) → w.grownBy w' v.ownBlock → (v'.ownBlock = v.ownBlock ∨ v'.ownBlock = some w.heap.size) → wpList P ops Q rest (a.put o.dst v') w')
    (so xo : Operand) (hgd : o.guard = none) (ho : o.op = .call { callee := .builtin .append, args := #[so, xo], argTypes := #[t, t] })
    (hs : a.eval so = v) (hx : a.eval xo = y) : wpList P ops Q (o :: rest) a w := by
  refine wpList_append_mv hgd so xo t ho E base v l.length (l.map bv) y m.length (m.map bv) hs hown hx hrd (bv_one m) (by simpa [maxLen] using hmx) h63 hbase ?_
  intro v' w' h1 h2 h3
  exact h v' w' (by simpa [Ob] using h1) h2 h3
end

end Go.Proofs.YtjnbdeopoohnmaaGreatDoor
/- Pieces of a slice, as values without a shape: a rewrite rule each, so that the walk never parts on where a piece lies. -/
namespace Go.Proofs.YtjnbdeopoohnmaaGreatDoor
open Go.RowKit

section
variable {w : World} {P : Program} {t e : TypeId} {z : Value} {bytes : Nat} {a : Option Addr} {n c : Nat} {l : List UInt8}

theorem Bs.len_eq (h : Bs w (.slice a n c) l) : n = l.length ∧ n ≤ c ∧ c ≤ 9223372036854775807 := by
  obtain ⟨_, a', c', he, h2, h3, _⟩ := h
  simp only [Value.slice.injEq] at he
  obtain ⟨_, rfl, rfl⟩ := he
  exact ⟨rfl, h2, by simpa [maxLen] using h3⟩

theorem Bs.piece (E : ElTy P t e z 1 bytes) (h : Bs w (.slice a n c) l) (lo hi : Nat) (h1 : lo ≤ hi) (h2 : hi ≤ l.length) :
    ∃ Y, (∀ W : World, (Instr.sliceAt t (.slice a n c) (some (.int .i64 (lo : Int))) (some (.int .i64 (hi : Int))) none).run P W = .ok Y W) ∧ Bs w Y ((l.drop lo).take (hi - lo)) := by
  have hT := E.1
  have hel : P.elem t = e := by simp [Program.elem, hT]
  have hs := E.sizeOf
  obtain ⟨hn, hc, _⟩ := h.len_eq
  refine ⟨_, fun W => ?_, h.cut lo hi h1 h2⟩
  rw [run_sliceAt_slice (h := by rw [hel]; exact hT), run_slice_lh (ht := by rw [hel]; exact hT) (h0 := by omega) (h1 := by omega) (h2 := by omega), hel, hs]
  simp [Result.andThen, sliced]

theorem Bs.from (E : ElTy P t e z 1 bytes) (h : Bs w (.slice a n c) l) (lo : Nat) (h1 : lo ≤ l.length) :
    ∃ Y, (∀ W : World, (Instr.sliceAt t (.slice a n c) (some (.int .i64 (lo : Int))) none none).run P W = .ok Y W) ∧ Bs w Y (l.drop lo) := by
  have hT := E.1
  have hel : P.elem t = e := by simp [Program.elem, hT]
  have hs := E.sizeOf
  obtain ⟨hn, hc, _⟩ := h.len_eq
  refine ⟨_, fun W => ?_, h.drop lo h1⟩
  rw [run_sliceAt_slice (h := by rw [hel]; exact hT), run_slice_l (ht := by rw [hel]; exact hT) (h0 := by omega) (h1 := by omega), hel, hs]
  simp [Result.andThen, sliced, hn]

theorem Bs.upto (E : ElTy P t e z 1 bytes) (h : Bs w (.slice a n c) l) (hi : Nat) (h1 : hi ≤ l.length) :
    ∃ Y, (∀ W : World, (Instr.sliceAt t (.slice a n c) none (some (.int .i64 (hi : Int))) none).run P W = .ok Y W) ∧ Bs w Y (l.take hi) := by
  have hT := E.1
  have hel : P.elem t = e := by simp [Program.elem, hT]
  have hs := E.sizeOf
  obtain ⟨hn, hc, _⟩ := h.len_eq
  refine ⟨_, fun W => ?_, h.take hi h1⟩
  rw [run_sliceAt_slice (h := by rw [hel]; exact hT), run_slice_h (ht := by rw [hel]; exact hT) (h0 := by omega) (h2 := by omega), hel, hs]
  simp [Result.andThen, sliced, Addr.add_zero']
end

end Go.Proofs.YtjnbdeopoohnmaaGreatDoor
/- Slices of whatever elements of s cells each, read or owned, over any program. No function of the program stands here. -/
namespace Go.Proofs.YtjnbdeopoohnmaaGreatDoor
open Go.RowKit

section
variable {α : Type} {s : Nat} {cs : α → List Value}

/-- the elements' cells: s of them, one cell each -/
structure Lay (s : Nat) (cs : α → List Value) : Prop where
  len : ∀ a, (cs a).length = s
  one : ∀ a, ∀ u ∈ cs a, u.oneCell' = true
  pos : 0 < s

def gcells (cs : α → List Value) (l : List α) : List Value := l.flatMap cs
theorem gcells_len (L : Lay s cs) (l : List α) : (gcells cs l).length = l.length * s := by
  induction l with
  | nil => simp [gcells]
  | cons a l ih =>
    simp only [gcells, List.flatMap_cons, List.length_append, List.length_cons] at *
    rw [ih, L.len, Nat.succ_mul, Nat.add_comm]
theorem gcells_get (L : Lay s cs) (l : List α) : ∀ (i j : Nat) (a : α), l[i]? = some a → j < s → (gcells cs l)[i * s + j]? = (cs a)[j]? := by
  induction l with
  | nil => intro i j a h; simp at h
  | cons b l ih =>
    intro i j a h hj
    have e : gcells cs (b :: l) = cs b ++ gcells cs l := rfl
    rw [e]
    cases i with
    | zero =>
      simp at h
      subst h
      rw [Nat.zero_mul, Nat.zero_add, List.getElem?_append_left (by rw [L.len]; exact hj)]
    | succ i =>
      rw [List.getElem?_append_right (by rw [L.len, Nat.succ_mul]; omega), L.len]
      have : (i + 1) * s + j - s = i * s + j := by rw [Nat.succ_mul]; omega
      rw [this]
      exact ih i j a (by simpa using h) hj
theorem gcells_append (a b : List α) : gcells cs (a ++ b) = gcells cs a ++ gcells cs b := by simp [gcells]
theorem gcells_one (L : Lay s cs) (l : List α) : ∀ u ∈ gcells cs l, u.oneCell' = true := by
  intro u hu
  simp only [gcells, List.mem_flatMap] at hu
  obtain ⟨a, _, h⟩ := hu
  exact L.one a u h
theorem gcells_take (L : Lay s cs) (l : List α) : ∀ k, (gcells cs l).take (k * s) = gcells cs (l.take k) := by
  induction l with
  | nil => intro k; simp [gcells]
  | cons a l ih =>
    intro k
    cases k with
    | zero => simp [gcells]
    | succ k =>
      have e : gcells cs (a :: l) = cs a ++ gcells cs l := rfl
      have e2 : gcells cs ((a :: l).take (k + 1)) = cs a ++ gcells cs (l.take k) := rfl
      rw [e, e2, List.take_append, L.len, show (k + 1) * s - s = k * s by rw [Nat.succ_mul]; omega, ih, List.take_of_length_le (by rw [L.len, Nat.succ_mul]; omega)]
theorem gcells_drop (L : Lay s cs) (l : List α) : ∀ k, (gcells cs l).drop (k * s) = gcells cs (l.drop k) := by
  induction l with
  | nil => intro k; simp [gcells]
  | cons a l ih =>
    intro k
    cases k with
    | zero => simp [gcells]
    | succ k =>
      have e : gcells cs (a :: l) = cs a ++ gcells cs l := rfl
      rw [e, List.drop_append, L.len, show (k + 1) * s - s = k * s by rw [Nat.succ_mul]; omega, ih, List.drop_of_length_le (by rw [L.len, Nat.succ_mul]; omega)]
      rfl

def Gs (s : Nat) (cs : α → List Value) (w : World) (v : Value) (l : List α) : Prop := Rd w s v l.length (gcells cs l)
def Gw (s : Nat) (cs : α → List Value) (w : World) (B e : Nat) (v : Value) (l : List α) : Prop := w.ownsRow B e s v l.length (gcells cs l)

variable {w w' : World} {B e : Nat} {v : Value} {l : List α}
theorem Gw.gs (h : Gw s cs w B e v l) : Gs s cs w v l := Rd.of_own h
theorem Gs.below (h : Gs s cs w v l) (hb : Below w.heap.size w w') : Gs s cs w' v l := Rd.below h hb
theorem Gs.only {F : Nat → Prop} (h : Gs s cs w v l) (ho : Only F w w') (hd : ∀ k, v.ownBlock = some k → ¬ F k) : Gs s cs w' v l := Rd.only h ho hd
theorem Gw.below (h : Gw s cs w B e v l) (hb : Below w.heap.size w w') : Gw s cs w' B e v l := by
  refine World.ownsRow.kept (row := none) h ⟨hb.os, hb.tape, hb.output, hb.size, fun k hk _ => hb.block k hk⟩ ?_
  cases hv : v.ownBlock <;> simp
theorem Gw.lt (h : Gw s cs w B e v l) : ∀ k, v.ownBlock = some k → B ≤ k ∧ k < w.heap.size := World.ownsRow.lt h
theorem Gw.mono {B' : Nat} (h : Gw s cs w B e v l) (hB : B' ≤ B) : Gw s cs w B' e v l := by
  refine ⟨h.1, ?_⟩
  rcases h.2 with h2 | ⟨g, c, cur, h1, h2, r⟩
  · exact .inl h2
  · exact .inr ⟨g, c, cur, h1, by omega, r⟩
theorem Gw.nil (w : World) (B e : Nat) : Gw s cs w B e (.slice none 0 0) [] := World.ownsRow_nil w B e s
theorem Gs.nil (w : World) : Gs s cs w (.slice none 0 0) ([] : List α) := Rd.nil w s
theorem Gs.shape (h : Gs s cs w v l) : ∃ a c, v = .slice a l.length c := by
  obtain ⟨_, a, c, h, _⟩ := h
  exact ⟨a, c, h⟩
theorem Gs.len_eq {n : Nat} {a : Option Addr} {c : Nat} (h : Gs s cs w (.slice a n c) l) : n = l.length ∧ n ≤ c ∧ c ≤ 9223372036854775807 := by
  obtain ⟨_, a', c', he, h2, h3, _⟩ := h
  simp only [Value.slice.injEq] at he
  obtain ⟨_, rfl, rfl⟩ := he
  exact ⟨rfl, h2, by simpa [maxLen] using h3⟩

/-- a literal row -/
theorem gw_lit (L : Lay s cs) (w : World) (e : Nat) (ucs : Array Value) (l : List α) (n : Nat) (hl : l.length = n) (hn : n ≤ maxLen) (hc : ucs.toList = gcells cs l) :
    Gw s cs (w.alloc (.cells ucs e)) w.heap.size e (.slice (some ⟨w.heap.size, 0, none⟩) n n) l := by
  subst hl
  unfold Gw
  rw [← hc]
  exact World.ownsRow_lit w ucs l.length (Nat.le_refl _) hn (by rw [← Array.length_toList, hc, gcells_len L])

/-- reading: a block and an offset for each element. -/
theorem Gs.open_n (L : Lay s cs) {P : Program} {t e : TypeId} {z : Value} {bytes : Nat} (E : ElTy P t e z s bytes) {v : Value} {l : List α} (h : Gs s cs w v l) (n : Nat) (hn : l.length = n) :
    ∃ a c b, ∃ o : Nat → Nat, v = .slice a n c ∧ n ≤ c ∧ c ≤ 9223372036854775807 ∧
      (∀ (W : World) (i : Nat), i < n → (Instr.indexAt t (.slice a n c) (.int .i64 (i : Int))).run P W = .ok (.pointer (some ⟨b, o i, none⟩)) W) ∧
      (∀ i, i < n → b < w.heap.size) ∧
      (∀ i x, l[i]? = some x → ∀ j u, (cs x)[j]? = some u → w.cell? ⟨b, o i + j, none⟩ = some u) ∧ (∀ i, i < n → (Value.slice a n c).ownBlock = some b) := by
  subst hn
  obtain ⟨hT, -, hz, hs⟩ := id E
  obtain ⟨h1, a, c, rfl, h2, h3, h4, h5⟩ := h
  have h3' : c ≤ 9223372036854775807 := by simpa [maxLen] using h3
  rcases h5 with h0 | ⟨b, off, rfl, hlt, hc⟩
  · refine ⟨a, c, 0, fun _ => 0, rfl, h2, h3', fun _ _ hi => by omega, fun i hi => by omega, fun i x hi => ?_, fun i hi => by omega⟩
    have := (List.getElem?_eq_some_iff.1 hi).1
    omega
  · refine ⟨_, c, b, fun i => off + i * s, rfl, h2, h3', ?_, fun i hi => hlt, fun i x hi j u hu => ?_, fun i hi => rfl⟩
    · intro W i hi
      have hu : P.elem t = e := by simp [Program.elem, hT]
      rw [run_indexAt_slice W t _ l.length c .i64 i (by rw [hu]; exact hT), if_pos ⟨by omega, by omega⟩, hu, E.sizeOf]
      simp [Result.andThen, Addr.add_lit]
    · have hj : j < s := by have := (List.getElem?_eq_some_iff.1 hu).1; rwa [L.len] at this
      have g := gcells_get L l i j x hi hj
      rw [hu] at g
      have := hc _ _ g
      rwa [← Nat.add_assoc] at this

theorem Gs.cut (L : Lay s cs) {n : Nat} {a : Option Addr} {c : Nat} {l : List α} (h : Gs s cs w (.slice a n c) l) (lo hi : Nat) (h1 : lo ≤ hi) (h2 : hi ≤ l.length) :
    Gs s cs w (.slice (if c = lo then a else a.map (·.add (lo * s))) (hi - lo) (c - lo)) ((l.drop lo).take (hi - lo)) := by
  have hn : n = l.length := h.len_eq.1
  subst hn
  have := Rd.cut h lo hi h1 h2
  unfold Gs
  rw [List.length_take, List.length_drop, show min (hi - lo) (l.length - lo) = hi - lo by omega, ← gcells_take L, ← gcells_drop L]
  exact this

section
variable {P : Program} {t e : TypeId} {z : Value} {bytes : Nat} {a : Option Addr} {n c : Nat} {l : List α}
theorem Gs.upto (L : Lay s cs) (E : ElTy P t e z s bytes) (h : Gs s cs w (.slice a n c) l) (hi : Nat) (h1 : hi ≤ l.length) :
    ∃ Y, (∀ W : World, (Instr.sliceAt t (.slice a n c) none (some (.int .i64 (hi : Int))) none).run P W = .ok Y W) ∧ Gs s cs w Y (l.take hi) := by
  have hT := E.1
  have hel : P.elem t = e := by simp [Program.elem, hT]
  have hs := E.sizeOf
  obtain ⟨hn, hc, _⟩ := h.len_eq
  refine ⟨_, fun W => ?_, by simpa using h.cut L 0 hi (by omega) h1⟩
  rw [run_sliceAt_slice (h := by rw [hel]; exact hT), run_slice_h (ht := by rw [hel]; exact hT) (h0 := by omega) (h2 := by omega), hel, hs]
  simp [Result.andThen, sliced, Addr.add_zero']
theorem Gs.from (L : Lay s cs) (E : ElTy P t e z s bytes) (h : Gs s cs w (.slice a n c) l) (lo : Nat) (h1 : lo ≤ l.length) :
    ∃ Y, (∀ W : World, (Instr.sliceAt t (.slice a n c) (some (.int .i64 (lo : Int))) none none).run P W = .ok Y W) ∧ Gs s cs w Y (l.drop lo) := by
  have hT := E.1
  have hel : P.elem t = e := by simp [Program.elem, hT]
  have hs := E.sizeOf
  obtain ⟨hn, hc, _⟩ := h.len_eq
  refine ⟨_, fun W => ?_, by have := h.cut L lo l.length h1 (Nat.le_refl _); rwa [List.take_of_length_le (by simp)] at this⟩
  rw [run_sliceAt_slice (h := by rw [hel]; exact hT), run_slice_l (ht := by rw [hel]; exact hT) (h0 := by omega) (h1 := by omega), hel, hs]
  simp [Result.andThen, sliced, hn]
theorem Gs.piece (L : Lay s cs) (E : ElTy P t e z s bytes) (h : Gs s cs w (.slice a n c) l) (lo hi : Nat) (h1 : lo ≤ hi) (h2 : hi ≤ l.length) :
    ∃ Y, (∀ W : World, (Instr.sliceAt t (.slice a n c) (some (.int .i64 (lo : Int))) (some (.int .i64 (hi : Int))) none).run P W = .ok Y W) ∧ Gs s cs w Y ((l.drop lo).take (hi - lo)) := by
  have hT := E.1
  have hel : P.elem t = e := by simp [Program.elem, hT]
  have hs := E.sizeOf
  obtain ⟨hn, hc, _⟩ := h.len_eq
  refine ⟨_, fun W => ?_, h.cut L lo hi h1 h2⟩
  rw [run_sliceAt_slice (h := by rw [hel]; exact hT), run_slice_lh (ht := by rw [hel]; exact hT) (h0 := by omega) (h1 := by omega) (h2 := by omega), hel, hs]
  simp [Result.andThen, sliced]

variable {ops : Array Oper} {rest : List Oper} {o : Oper} {A : Act} {Q : Exit → Act → World → Prop} {base : Nat} {v : Value}
/-- 'append(s, xs...)', xs any slice that can be read. -/
theorem wpList_append_gs (L : Lay s cs) (hown : Gw s cs w base e v l) {y : Value} {m : List α} (hrd : Gs s cs w y m) (E : ElTy P t e z s bytes) (h63 : (l.length + m.length) * bytes ≤ 140737488355328) (hmx : l.length + m.length ≤ 9223372036854775807) (hbase : base ≤ w.heap.size)
    (h : ∀ v' w', Gw s cs w' base e v' (l ++ m) → w.grownBy w' v.ownBlock → Below base w w' → (v'.ownBlock = v.ownBlock ∨ v'.ownBlock = some w.heap.size) → wpList P ops Q rest (A.put o.dst v') w')
    (so xo : Operand) (hgd : o.guard = none) (ho : o.op = .call { callee := .builtin .append, args := #[so, xo], argTypes := #[t, t] })
    (hs : A.eval so = v) (hx : A.eval xo = y) : wpList P ops Q (o :: rest) A w := by
  refine wpList_append_mv hgd so xo t ho E base v l.length (gcells cs l) y m.length (gcells cs m) hs hown hx hrd (gcells_one L m) (by simpa [maxLen] using hmx) h63 hbase ?_
  intro v' w' h1 h2 h3
  refine h v' w' ?_ h2 ((Below.refl _ _).grown h2 hbase fun k hk => (World.ownsRow.lt hown k hk).1) h3
  unfold Gw
  rw [gcells_append, List.length_append]
  exact h1
/-- 'append(s, x)', x boxed just ahead of it -/
theorem wpList_append_g1 (L : Lay s cs) (hown : Gw s cs w base e v l) (x : α) (E : ElTy P t e z s bytes) (h63 : (l.length + 1) * bytes ≤ 140737488355328) (hmx : l.length < 9223372036854775807) (hbase : base ≤ w.heap.size) (g : Nat) (hg : g = w.heap.size)
    (h : ∀ v' w', Gw s cs w' base e v' (l ++ [x]) → Below base w w' → wpList P ops Q rest (A.put o.dst v') w')
    (so xo : Operand) (hgd : o.guard = none) (ho : o.op = .call { callee := .builtin .append, args := #[so, xo], argTypes := #[t, t] })
    (ucs : Array Value) (hs : A.eval so = v) (hx : A.eval xo = .slice (some ⟨g, 0, none⟩) 1 1) (hu : ucs.toList = cs x) : wpList P ops Q (o :: rest) A (w.alloc (.cells ucs e)) := by
  subst hg
  have hba : Below w.heap.size w (w.alloc (.cells ucs e)) := (Below.refl _ _).alloc (Nat.le_refl _) _
  have hlit : Gs s cs (w.alloc (.cells ucs e)) (.slice (some ⟨w.heap.size, 0, none⟩) 1 1) [x] := (gw_lit L w e ucs [x] 1 rfl (by decide) (by rw [hu]; simp [gcells])).gs
  refine wpList_append_gs L (hown.below hba) hlit E (by simpa using h63) (by simp; omega) (by have := hba.size; omega) ?_ so xo hgd ho hs hx
  intro v' w' h1 _ h2 _
  exact h v' w' h1 ((hba.mono hbase).trans h2)
end
end

end Go.Proofs.YtjnbdeopoohnmaaGreatDoor
/- make of bytes. No function of the program stands here. -/
namespace Go.Proofs.YtjnbdeopoohnmaaGreatDoor
open Go.RowKit

theorem madeCells_zero (n : Nat) : (madeCells #[.int .u8 0] (n * 1)).toList = (List.replicate n (0 : UInt8)).map bv := by
  unfold madeCells
  apply List.ext_getElem
  · simp
  · intro i h1 h2
    simp [bv, Nat.mod_one]

theorem wpList_make_bytes {P : Program} (w : World) {ops : Array Oper} {rest : List Oper} {o : Oper} {a : Act} {Q : Exit → Act → World → Prop} {t e : TypeId} {bytes : Nat}
    (E : ElTy P t e (.int .u8 0) 1 bytes) (n : Nat) (b2 : bytes * n ≤ 281474976710656) (b3 : n ≤ maxLen)
    (hg : o.guard = none) (l c : Operand) (hop : o.op = Op.makeSlice t l c)
    (kl kc : IntKind) (hl : a.eval l = .int kl (n : Int)) (hc : a.eval c = .int kc (n : Int))
    (hK : ∀ v w', Ob w' w.heap.size e v (List.replicate n 0) → Below w.heap.size w w' → wpList P ops Q rest (a.put o.dst v) w') :
    wpList P ops Q (o :: rest) a w := by
  obtain ⟨h1, ⟨i, hi, hz, hs, hb⟩, _⟩ := E
  refine wpList_make_full w hg l c t hop w.heap.size e i _ 1 h1 hi hz hs kl kc n n n hl hc rfl rfl (by rw [hb]; exact b2) b3 (Nat.le_refl _) fun w' h g => ?_
  refine hK _ _ ?_ ((grown_only g).below (by simp) (Nat.le_refl _))
  have e1 : (madeCells (Value.int .u8 0).cells (n * 1)).toList = (List.replicate n (0 : UInt8)).map bv := madeCells_zero n
  rw [e1] at h
  unfold Ob
  rw [List.length_replicate]
  exact h

end Go.Proofs.YtjnbdeopoohnmaaGreatDoor
/- Bytes made out of a string: a row that bears the run-time's mark behind its last cell; appended to. No function of the program stands here. -/
namespace Go.Proofs.YtjnbdeopoohnmaaGreatDoor
open Go.RowKit

/-- bytes of the call's own, or of a string: with the mark behind the last cell -/
def Om (w : World) (B e : Nat) (v : Value) (l : List UInt8) : Prop :=
  Ob w B e v l ∨ ∃ g cap cur, v = .slice (some ⟨g, 0, none⟩) l.length cap ∧ B ≤ g ∧ w.heap[g]? = some (.cells cur e (cap, cap + 1)) ∧ l.length ≤ cap ∧ cap ≤ maxLen ∧ cur.size = cap ∧ cur.toList.take l.length = l.map bv

section
variable {w w' : World} {B e : Nat} {v : Value} {l : List UInt8}
theorem Om.bs (h : Om w B e v l) : Bs w v l := by
  rcases h with h | ⟨g, cap, cur, rfl, hB, hg, h1, h2, h3, h4⟩
  · exact h.bs
  · refine ⟨by simp, _, cap, rfl, h1, h2, by simp, .inr ⟨g, 0, rfl, heap_lt hg, fun j u hu => ?_⟩⟩
    rw [cell_of_row w g (0 + j) cur e _ hg]
    rw [← h4, List.getElem?_take] at hu
    split at hu
    · simpa using hu
    · cases hu
theorem Om.below (h : Om w B e v l) (hb : Below w.heap.size w w') : Om w' B e v l := by
  rcases h with h | ⟨g, cap, cur, rfl, hB, hg, r⟩
  · exact .inl (Ob.below h hb)
  · exact .inr ⟨g, cap, cur, rfl, hB, (hb.block g (heap_lt hg)).trans hg, r⟩
theorem Om.mono {B' : Nat} (h : Om w B e v l) (hB' : B' ≤ B) : Om w B' e v l := by
  rcases h with h | ⟨g, cap, cur, rfl, hB, r⟩
  · exact .inl (h.mono hB')
  · exact .inr ⟨g, cap, cur, rfl, by omega, r⟩
end

theorem run_storeCells_mark {P : Program} (g o : Nat) (t : TypeId) (cap : Nat) : ∀ (vs : List Value) (i : Nat) (cur : Array Value) (w : World), w.heap[g]? = some (.cells cur t (cap, cap + 1)) → cur.size = cap → o + i + vs.length ≤ cur.size → (∀ v ∈ vs, v.oneCell' = true) →
    (storeCells ⟨g, o, none⟩ vs i).run P w = .ok () (w.setRow g (cur.toList.take (o + i) ++ vs ++ cur.toList.drop (o + i + vs.length)).toArray)
  | [], i, cur, w, hg, _, _, _ => by
    simp only [storeCells, List.append_nil, List.length_nil, Nat.add_zero, List.take_append_drop, Array.toArray_toList]
    rw [setRow_self w g cur t _ hg]
    rfl
  | v :: rest, i, cur, w, hg, hs, hl, h1 => by
    have hi : o + i < cur.size := by simp at hl; omega
    have hadd : (⟨g, o, none⟩ : Addr).add i = ⟨g, o + i, none⟩ := by unfold Addr.add; split <;> simp_all
    have hcell : w.cell? ⟨g, o + i, none⟩ = some cur[o + i] := by simp [World.cell?, hg, hi]
    have hfro : w.frozen? ⟨g, o + i, none⟩ = false := by
      simp only [World.frozen?, hg]
      simp
      omega
    have hst : (store ((⟨g, o, none⟩ : Addr).add i) v).run P w = .ok () (w.setRow g (cur.setIfInBounds (o + i) v)) := by
      rw [hadd, run_store P w _ v _ (h1 v (by simp)), hcell]
      simp [hfro, setCell_eq_setRow w g (o + i) cur t _ v hg]
    have ih := run_storeCells_mark (P := P) g o t cap rest (i + 1) (cur.setIfInBounds (o + i) v) (w.setRow g (cur.setIfInBounds (o + i) v)) (setRow_heap w g cur _ t _ hg) (by simpa using hs) (by simp at hl ⊢; omega) (fun x hx => h1 x (by simp [hx]))
    simp only [storeCells, Sem.run_bind, hst, Result.andThen_ok, ih, setRow_setRow]
    congr 3
    have e := list_seg_step cur.toList (o + i) v rest (by simp at hl ⊢; omega)
    simpa [Array.toList_setIfInBounds, Nat.add_assoc] using e

section
variable {P : Program} {t e : TypeId} {z : Value} {bytes : Nat} {w : World} {ops : Array Oper} {rest : List Oper} {o : Oper} {a : Act} {Q : Exit → Act → World → Prop} {base : Nat} {v : Value} {l : List UInt8}

theorem wp_append_mark {K : Act → World → Prop} (hown : Om w base e v l) {y : Value} {m : List UInt8} (hrd : Bs w y m) (E : ElTy P t e z 1 bytes) (h63 : (l.length + m.length) * bytes ≤ 140737488355328) (hmx : l.length + m.length ≤ 9223372036854775807) (hbase : base ≤ w.heap.size)
    (h : ∀ v' w', Om w' base e v' (l ++ m) → Below base w w' → K (a.put o.dst v') w')
    (so xo : Operand) (ho : o.op = .call { callee := .builtin .append, args := #[so, xo], argTypes := #[t, t] })
    (hs : a.eval so = v) (hx : a.eval xo = y) : o.wp P a w K Q := by
  rcases hown with hown | ⟨g, cap, cur, rfl, hB, hg, hnc, hcm, hcs, htake⟩
  · refine wp_append_mv so xo t ho E base v l.length (l.map bv) y m.length (m.map bv) hs hown hx hrd (bv_one m) (by simpa [maxLen] using hmx) h63 hbase ?_
    intro v' w' h1 h2 _
    exact h v' w' (.inl (by simpa [Ob] using h1)) ((Below.refl _ _).grown h2 hbase fun k hk => (World.ownsRow.lt hown k hk).1)
  · obtain ⟨ht, ⟨i, hi, hz, hsz, hby⟩, hzs, hp⟩ := E
    have fin : ∀ v' w', (Builtin.append_ #[t, t] o.type #[.slice (some ⟨g, 0, none⟩) l.length cap, y]).run P w = .ok v' w' → K (a.put o.dst v') w' → o.wp P a w K Q := fun v' w' hr hk => by
      unfold Oper.wp execOp
      simp only [ho, resolve, invoke, builtin, Sem.run_bind, Sem.run_pure, Result.andThen_ok, List.map_toArray, List.map_cons, List.map_nil, hs, hx, hr]
      exact hk
    have key : ∀ (ad : Addr) c, y = .slice (some ad) m.length c → (∀ j u, (m.map bv)[j]? = some u → w.cell? (ad.add j) = some u) → o.wp P a w K Q := fun ad c hy hc => by
      subst hy
      by_cases hroom : l.length + m.length ≤ cap
      · have hf := run_firstCells_some (P := P) w i.size m.length ad m.length c (m.map bv) (by simp [hsz]) hc
        have hst := run_storeCells_mark (P := P) g (l.length * i.size) e cap (m.map bv) 0 cur w hg hcs (by simp [hsz, hcs]; omega) (bv_one m)
        simp only [Nat.add_zero] at hst
        refine fin (.slice (some ⟨g, 0, none⟩) (l.length + m.length) cap) (w.setRow g (cur.toList.take (l.length * i.size) ++ m.map bv ++ cur.toList.drop (l.length * i.size + (m.map bv).length)).toArray) ?_ (h _ _ (.inr ⟨g, cap, _, by simp, hB, setRow_heap w g cur _ e _ hg, by simpa using hroom, hcm, ?_, ?_⟩) ⟨rfl, rfl, rfl, by simp, fun k hk => setRow_other w g k _ (fun e => by omega)⟩)
        · simp [Builtin.append_, run_underlying ht, sizeOf, typeInfo, hi, Builtin.lenOf, hroom, hf, Addr.add_lit, hst]
        · simp only [List.size_toArray, List.length_append, List.length_take, List.length_drop, Array.length_toList, List.length_map, hsz, Nat.mul_one, hcs]
          omega
        · simp only [hsz, Nat.mul_one, List.map_append, List.length_append, htake]
          rw [← List.length_map (f := bv) (as := l), ← List.length_map (f := bv) (as := m), ← List.length_append]
          exact List.take_left
      · have holds : ∀ j u, (l.map bv)[j]? = some u → w.cell? ((⟨g, 0, none⟩ : Addr).add j) = some u := by
          intro j u hu
          rw [Addr.add_lit, cell_of_row w g (0 + j) cur e _ hg]
          rw [← htake, List.getElem?_take] at hu
          split at hu
          · simpa using hu
          · cases hu
        have hr := run_append_grow (P := P) w t o.type e i z ht hi hz ⟨g, 0, none⟩ l.length cap (l.map bv) (by simp [hsz]) holds ad m.length c (m.map bv) (by simp [hsz]) hc (by omega) (by omega) (growslice_fits (by omega) (by rw [hby]; exact h63))
        have hge := grownCap_ge w (l.length + m.length) cap e
        have hcm2 : grownCap w (l.length + m.length) cap e ≤ maxLen := grownCap_le_maxLen w (l.length + m.length) cap e (by simpa [maxLen] using hmx)
        refine fin _ _ hr (h _ _ (.inl ⟨by simp, .inr ⟨w.heap.size, _, _, by simp, hbase, heap_alloc_new w.drew _, by simpa using hge, hcm2, ?_, ?_⟩⟩) (((Below.refl _ _).drew).alloc hbase _))
        · simp only [Array.size_append, List.size_toArray, size_zeroCells, hzs, List.length_map]
          omega
        · simp only [Array.toList_append, List.append_assoc, List.map_append]
          rw [← List.append_assoc]
          rw [show (l ++ m).length * 1 = (l.map bv ++ m.map bv).length by simp]
          exact List.take_left
    obtain ⟨hl, b, c, hy, h2, h3, h4, h5⟩ := id hrd
    rcases h5 with h0 | ⟨g', off, rfl, hlt, hc⟩
    · have hm : m = [] := List.eq_nil_of_length_eq_zero h0
      cases b with
      | none =>
        obtain rfl := h4 rfl
        subst hm
        subst hy
        refine fin (.slice (some ⟨g, 0, none⟩) l.length cap) w ?_ (h _ w (.inr ⟨g, cap, cur, by simp, hB, hg, by simpa using hnc, hcm, hcs, by simpa using htake⟩) (Below.refl _ _))
        simp [Builtin.append_, run_underlying ht, sizeOf, typeInfo, hi, Builtin.lenOf, Builtin.firstCells, hnc, storeCells]
      | some ad => exact key ad c hy (by simp [hm])
    · exact key _ c hy fun j u hu => by rw [Addr.add_lit]; exact hc j u hu

theorem wpList_append_mark (hown : Om w base e v l) {y : Value} {m : List UInt8} (hrd : Bs w y m) (E : ElTy P t e z 1 bytes) (h63 : (l.length + m.length) * bytes ≤ 140737488355328) (hmx : l.length + m.length ≤ 9223372036854775807) (hbase : base ≤ w.heap.size)
    (h : ∀ v' w', Om w' base e v' (l ++ m) → Below base w w' → wpList P ops Q rest (a.put o.dst v') w')
    (so xo : Operand) (hgd : o.guard = none) (ho : o.op = .call { callee := .builtin .append, args := #[so, xo], argTypes := #[t, t] })
    (hs : a.eval so = v) (hx : a.eval xo = y) : wpList P ops Q (o :: rest) a w :=
  wpList_plain hgd fun _ hK => wp_append_mark hown hrd E h63 hmx hbase (fun v' w' h2 h3 => hK _ _ (h v' w' h2 h3)) so xo ho hs hx

/-- an append of bytes written out just ahead of it -/
theorem wpList_append_mark_lit (hown : Om w base e v l) (m : List UInt8) (n : Nat) (hn : m.length = n) (E : ElTy P t e z 1 bytes) (h63 : (l.length + m.length) * bytes ≤ 140737488355328) (hmx : l.length + m.length ≤ 9223372036854775807) (hbase : base ≤ w.heap.size)
    (h : ∀ v' w', Om w' base e v' (l ++ m) → Below base w w' → wpList P ops Q rest (a.put o.dst v') w')
    (so xo : Operand) (hgd : o.guard = none) (ho : o.op = .call { callee := .builtin .append, args := #[so, xo], argTypes := #[t, t] })
    (cs : Array Value) (hs : a.eval so = v) (hx : a.eval xo = .slice (some ⟨w.heap.size, 0, none⟩) n n)
    (hc : cs.toList = m.map bv) : wpList P ops Q (o :: rest) a (w.alloc (.cells cs e)) := by
  have hx1 := ob_lit w e cs m n hn (by simp [maxLen]; omega) hc
  have hba : Below w.heap.size w (w.alloc (.cells cs e)) := (Below.refl _ _).alloc (Nat.le_refl _) _
  refine wpList_append_mark (hown.below hba) hx1.bs E h63 hmx (by have := hba.size; omega) ?_ so xo hgd ho hs hx
  intro v' w' h1 h2
  exact h v' w' h1 ((hba.mono hbase).trans h2)

/-- '[]byte(s)' -/
theorem run_mark (w : World) (src : TypeId) (s : ByteArray) (hs : P.underlying src = some .string) (ht : P.underlying t = some (.slice e)) (he : P.underlying e = some (.int .u8)) (hm : s.size ≤ maxLen) :
    ∃ v w', (convert src t (.string s)).run P w = .ok v w' ∧ Om w' w.heap.size e v s.data.toList ∧ Below w.heap.size w w' := by
  have hge := grownCap_ge w s.size 0 e
  have hcm : grownCap w s.size 0 e ≤ maxLen := grownCap_le_maxLen w s.size 0 e hm
  have hsz : s.data.toList.length = s.size := by rw [Array.length_toList]; rfl
  have hrow : (bytesRow s (grownCap w s.size 0 e)).size = grownCap w s.size 0 e := by
    have h1 : s.data.size = s.size := rfl
    unfold bytesRow
    rw [Array.size_append, Array.size_map, Array.size_replicate]
    omega
  refine ⟨_, _, run_bytes_of_string w src t e s hs ht he, .inr ⟨w.heap.size, grownCap w s.size 0 e, bytesRow s (grownCap w s.size 0 e), by rw [hsz], Nat.le_refl _, ?_, by rw [hsz]; exact hge, hcm, hrow, ?_⟩, ((Below.refl _ _).drew).alloc (Nat.le_refl _) _⟩
  · rw [hrow]
    exact heap_alloc_new w.drew _
  · rw [hsz]
    have h1 : (bytesRow s (grownCap w s.size 0 e)).toList = s.data.toList.map bv ++ List.replicate (grownCap w s.size 0 e - s.size) (.int .u8 0) := by
      simp [bytesRow]
      intro a _
      rfl
    rw [h1, ← hsz, ← List.length_map (f := bv)]
    exact List.take_left
end

end Go.Proofs.YtjnbdeopoohnmaaGreatDoor
/- Rows of bytes that are known whole, as functions of the place: made, stored into, copied into, seen as slices. No function of the program stands here. -/
namespace Go.Proofs.YtjnbdeopoohnmaaGreatDoor
open Go.RowKit

def rowb (n : Nat) (f : Nat → UInt8) : Array Value := ((List.range n).map fun j => bv (f j)).toArray
theorem rowb_len (n : Nat) (f : Nat → UInt8) : (rowb n f).size = n := by simp [rowb]
theorem rowb_get {n : Nat} (f : Nat → UInt8) {j : Nat} (h : j < n) : (rowb n f)[j]? = some (bv (f j)) := by
  unfold rowb
  simp [h]
theorem rowb_at {n : Nat} (f : Nat → UInt8) {j : Nat} (h : j < (rowb n f).size) : (rowb n f)[j] = bv (f j) := by simp [rowb]
theorem rowb_set {n : Nat} (f : Nat → UInt8) (k : Nat) (x : UInt8) : (rowb n f).setIfInBounds k (bv x) = rowb n fun j => if j = k then x else f j := by
  apply Array.ext
  · simp [rowb_len]
  · intro i h1 h2
    rw [Array.getElem_setIfInBounds, rowb_at, rowb_at]
    · by_cases e : k = i
      · subst e
        simp
      · rw [if_neg e, if_neg (fun h => e h.symm)]
    · simpa using h1
theorem rowb_congr {n : Nat} {f g : Nat → UInt8} (h : ∀ j, j < n → f j = g j) : rowb n f = rowb n g := by
  apply Array.ext
  · simp [rowb_len]
  · intro i h1 h2
    rw [rowb_at, rowb_at, h i (by simpa [rowb_len] using h1)]
theorem madeCells_rowb (n : Nat) : madeCells (Value.int .u8 0).cells (n * 1) = rowb n fun _ => 0 := by
  apply Array.ext
  · simp [rowb_len, size_madeCells]
  · intro i h1 h2
    rw [rowb_at]
    simp [madeCells, Value.cells, bv, Nat.mod_one]

section
variable {P : Program} {t e : TypeId} {bytes : Nat} {w : World}
theorem wpList_make_rowb {ops : Array Oper} {rest : List Oper} {o : Oper} {a : Act} {Q : Exit → Act → World → Prop}
    (E : ElTy P t e (.int .u8 0) 1 bytes) (n c : Nat) (hnc : n ≤ c) (b2 : bytes * c ≤ 281474976710656) (b3 : c ≤ maxLen)
    (hg : o.guard = none) (l k : Operand) (hop : o.op = Op.makeSlice t l k)
    (kl kc : IntKind) (hl : a.eval l = .int kl (n : Int)) (hc : a.eval k = .int kc (c : Int))
    (hK : wpList P ops Q rest (a.put o.dst (.slice (some ⟨w.heap.size, 0, none⟩) n c)) (w.alloc (.cells (rowb c fun _ => 0) e))) :
    wpList P ops Q (o :: rest) a w := by
  obtain ⟨h1, ⟨i, hi, hz, hs, hb⟩, _⟩ := E
  refine wpList_plain hg fun K hK' => ?_
  have h63 : (c : Int) ≤ 9223372036854775807 := by simp only [maxLen] at b3; omega
  have hb' : (i.bytes : Int) * (c : Int) ≤ 281474976710656 := by
    have h : ((i.bytes * c : Nat) : Int) ≤ 281474976710656 := by rw [hb]; omega
    rwa [Int.natCast_mul] at h
  have hrun := run_make (P := P) w t e i _ h1 hi hz kl kc n c (by omega) (by omega) hb' h63
  rw [hs] at hrun
  simp only [Int.toNat_natCast, madeCells_rowb] at hrun
  unfold Oper.wp
  simp [execOp, hop, hl, hc, hrun, Result.andThen]
  exact hK' _ _ hK

/-- an append of bytes written out, in a region that draws its order -/
theorem step_append_lit {ops : Array Oper} {o : Oper} {a : Act} {Q : Exit → Act → World → Prop} {K : Act → World → Prop} {F : Prop} {z : Value} {base : Nat} {v : Value} {l : List UInt8} (hown : Ob w base e v l) (m : List UInt8) (n : Nat) (hn : m.length = n) (E : ElTy P t e z 1 bytes)
    (h63 : (l.length + m.length) * bytes ≤ 140737488355328) (hmx : l.length + m.length ≤ 9223372036854775807) (hbase : base ≤ w.heap.size)
    (h : ∀ v' w', Ob w' base e v' (l ++ m) → Below base w w' → K (a.put o.dst v') w')
    (so xo : Operand) (hgd : o.guard = none) (ho : o.op = .call { callee := .builtin .append, args := #[so, xo], argTypes := #[t, t] })
    (cs : Array Value) (hs : a.eval so = v) (hx : a.eval xo = .slice (some ⟨w.heap.size, 0, none⟩) n n)
    (hc : cs.toList = m.map bv) : if Region.wanted o (yielded ops a.tmps) = true then Oper.wp P o a (w.alloc (.cells cs e)) K Q else F := by
  have hx1 := ob_lit w e cs m n hn (by simp [maxLen]; omega) hc
  have hba : Below w.heap.size w (w.alloc (.cells cs e)) := (Below.refl _ _).alloc (Nat.le_refl _) _
  have ho1 : Ob (w.alloc (.cells cs e)) base e v l := hown.below hba
  refine step_append_bytes_mv ho1 hx1.bs E h63 hmx (by have := hba.size; omega) ?_ so xo hgd ho hs hx
  intro v' w' h1 h2 h3
  exact h v' w' h1 ((hba.mono hbase).trans ((Below.refl _ _).grown h2 (by have := hba.size; omega) fun k hk => (ho1.lt k hk).1))

variable {W : World} {g c : Nat} {f : Nat → UInt8}
/-- such a row as bytes -/
theorem bs_rowb (h : W.heap[g]? = some (.cells (rowb c f) e (0, 0))) (lo n : Nat) (hn : lo + n ≤ c) (hc : c ≤ maxLen) : Bs W (.slice (some ⟨g, lo, none⟩) n (c - lo)) ((List.range n).map fun j => f (lo + j)) := by
  have hl : ((List.range n).map fun j => f (lo + j)).length = n := by simp
  refine ⟨by simp, _, _, by rw [hl], by omega, by omega, by simp, .inr ⟨g, lo, rfl, heap_lt h, fun j u hu => ?_⟩⟩
  rw [List.getElem?_map, List.getElem?_map] at hu
  by_cases hj : j < n
  · rw [List.getElem?_range hj] at hu
    rw [cell_of_row W _ _ _ _ _ h, rowb_get _ (by omega)]
    simpa using hu
  · rw [List.getElem?_eq_none (by simp; omega)] at hu
    simp at hu
theorem ob_rowb (h : W.heap[g]? = some (.cells (rowb c f) e (0, 0))) (B n : Nat) (hB : B ≤ g) (hn : n ≤ c) (hc : c ≤ maxLen) : Ob W B e (.slice (some ⟨g, 0, none⟩) n c) ((List.range n).map f) := by
  refine ⟨by simp, .inr ⟨g, c, _, by simp, hB, h, by simpa using hn, hc, by simp [rowb_len], ?_⟩⟩
  apply List.ext_getElem?
  intro j
  rw [List.getElem?_take]
  by_cases hj : j < n
  · rw [if_pos (by simp; omega), Array.getElem?_toList, rowb_get _ (by omega)]
    simp [hj]
  · rw [if_neg (by simp; omega), List.getElem?_eq_none (by simp; omega)]

/-- the source of a copy -/
theorem Bs.src {a : Option Addr} {n k : Nat} {l : List UInt8} (h : Bs W (.slice a n k) l) (h0 : 0 < l.length) :
    ∃ ad, a = some ad ∧ ∀ j v, (l.map bv)[j]? = some v → W.cell? (ad.add j) = some v := by
  obtain ⟨_, a', c', he, _, _, _, h5⟩ := h
  simp only [Value.slice.injEq] at he
  obtain ⟨rfl, _, _⟩ := he
  rcases h5 with h5 | ⟨b, off, rfl, _, hc⟩
  · omega
  · exact ⟨_, rfl, fun j v hv => by rw [Addr.add_lit]; exact hc j v hv⟩

theorem Bs.from_own {z : Value} {l : List UInt8} {a : Option Addr} {n k : Nat} (E : ElTy P t e z 1 bytes) (h : Bs w (.slice a n k) l) (lo : Nat) (h1 : lo ≤ l.length) :
    ∃ Y, (∀ W : World, (Instr.sliceAt t (.slice a n k) (some (.int .i64 (lo : Int))) none none).run P W = .ok Y W) ∧ Bs w Y (l.drop lo) ∧ Y.ownBlock = (Value.slice a n k).ownBlock := by
  have hT := E.1
  have hel : P.elem t = e := by simp [Program.elem, hT]
  have hs := E.sizeOf
  obtain ⟨hn, hc, _⟩ := h.len_eq
  refine ⟨_, fun W => ?_, h.drop lo h1, ?_⟩
  · rw [run_sliceAt_slice (h := by rw [hel]; exact hT), run_slice_l (ht := by rw [hel]; exact hT) (h0 := by omega) (h1 := by omega), hel, hs]
    simp [Result.andThen, sliced, hn]
  · split
    · cases a <;> rfl
    · cases a with
      | none => rfl
      | some ad => simp only [Option.map_some, Value.ownBlock, Addr.add]; split <;> rfl

theorem rowb_splice (n : Nat) (f : Nat → UInt8) (off : Nat) (l : List UInt8) (h : off + l.length ≤ n) :
    (splice (rowb n f).toList off (l.map bv)).toArray = rowb n fun j => if off ≤ j ∧ j < off + l.length then l[j - off]?.getD 0 else f j := by
  apply Array.ext'
  apply List.ext_getElem?
  intro j
  unfold splice
  by_cases hj : j < n
  · rw [Array.getElem?_toList (xs := rowb n fun j => _), rowb_get _ hj]
    by_cases h1 : j < off
    · rw [List.getElem?_append_left (by simp [rowb_len]; omega), List.getElem?_take, if_pos h1, Array.getElem?_toList, rowb_get _ hj, if_neg (by omega)]
    · rw [List.getElem?_append_right (by simp [rowb_len]; omega)]
      have e1 : (List.take off (rowb n f).toList).length = off := by simp [rowb_len]; omega
      rw [e1]
      by_cases h2 : j < off + l.length
      · rw [List.getElem?_append_left (by simp; omega), List.getElem?_map, if_pos ⟨by omega, h2⟩, List.getElem?_eq_getElem (by omega)]
        simp
      · rw [List.getElem?_append_right (by simp; omega), List.getElem?_drop, List.length_map, Array.getElem?_toList, rowb_get _ (by omega), if_neg (by omega)]
        congr 3
        omega
  · rw [List.getElem?_eq_none (by simp [rowb_len]; omega), List.getElem?_eq_none (by simp [rowb_len]; omega)]
end

end Go.Proofs.YtjnbdeopoohnmaaGreatDoor
/- Slices of samples that are read or owned, over any program; the plain laws of samples. -/
namespace Go.Proofs.YtjnbdeopoohnmaaGreatDoor
open Go.RowKit

structure Smp where
  t : Int
  x : Int
  y : Int

def Smp.cells (s : Smp) : List Value := [.int .i64 s.t, .int .i64 s.x, .int .i64 s.y]
def scells (l : List Smp) : List Value := l.flatMap Smp.cells

theorem scells_len (l : List Smp) : (scells l).length = l.length * 3 := by
  induction l with
  | nil => rfl
  | cons s l ih => simp only [scells, List.flatMap_cons, List.length_append, List.length_cons] at *; rw [ih]; simp [Smp.cells]; omega

theorem scells_get (l : List Smp) : ∀ (i j : Nat) (s : Smp), l[i]? = some s → j < 3 → (scells l)[i * 3 + j]? = s.cells[j]? := by
  induction l with
  | nil => intro i j s h; simp at h
  | cons a l ih =>
    intro i j s h hj
    have e : scells (a :: l) = a.cells ++ scells l := rfl
    rw [e]
    cases i with
    | zero =>
      simp at h
      subst h
      rw [Nat.zero_mul, Nat.zero_add, List.getElem?_append_left (by simp [Smp.cells]; omega)]
    | succ i =>
      rw [List.getElem?_append_right (by simp [Smp.cells]; omega)]
      have : (i + 1) * 3 + j - a.cells.length = i * 3 + j := by simp [Smp.cells]; omega
      rw [this]
      exact ih i j s (by simpa using h) hj

theorem scells_append (a b : List Smp) : scells (a ++ b) = scells a ++ scells b := by simp [scells]
theorem scells_one (l : List Smp) : ∀ u ∈ scells l, u.oneCell' = true := by
  intro u hu
  simp only [scells, List.mem_flatMap, Smp.cells] at hu
  obtain ⟨s, _, h⟩ := hu
  simp at h
  rcases h with rfl | rfl | rfl <;> rfl

def Ss (w : World) (v : Value) (l : List Smp) : Prop := Rd w 3 v l.length (scells l)
def Os (w : World) (B e : Nat) (v : Value) (l : List Smp) : Prop := w.ownsRow B e 3 v l.length (scells l)

theorem Os.ss {w : World} {B e : Nat} {v : Value} {l : List Smp} (h : Os w B e v l) : Ss w v l := Rd.of_own h
theorem Ss.below {w w' : World} {v : Value} {l : List Smp} (h : Ss w v l) (hb : Below w.heap.size w w') : Ss w' v l := Rd.below h hb
theorem Ss.alloc {w : World} {v : Value} {l : List Smp} (h : Ss w v l) (o : Obj) : Ss (w.alloc o) v l := Rd.alloc h o
theorem Ss.drew {w : World} {v : Value} {l : List Smp} (h : Ss w v l) : Ss w.drew v l := Rd.drew h
theorem Os.below {w w' : World} {B e : Nat} {v : Value} {l : List Smp} (h : Os w B e v l) (hb : Below w.heap.size w w') : Os w' B e v l := by
  refine World.ownsRow.kept (row := none) h ⟨hb.os, hb.tape, hb.output, hb.size, fun k hk _ => hb.block k hk⟩ ?_
  cases hv : v.ownBlock <;> simp
theorem Os.alloc {w : World} {B e : Nat} {v : Value} {l : List Smp} (h : Os w B e v l) (o : Obj) : Os (w.alloc o) B e v l := h.below ((Below.refl _ _).alloc (Nat.le_refl _) o)
theorem Os.nil (w : World) (B e : Nat) : Os w B e (.slice none 0 0) [] := World.ownsRow_nil w B e 3

/-- reading: a block and an offset for each element. -/
theorem Ss.open_b {w : World} {P : Program} {t e : TypeId} {z : Value} {bytes : Nat} (E : ElTy P t e z 3 bytes) {v : Value} {l : List Smp} (h : Ss w v l) (n : Nat) (hn : l.length = n) :
    ∃ a c b, ∃ o : Nat → Nat, v = .slice a n c ∧ n ≤ c ∧ c ≤ 9223372036854775807 ∧
      (∀ (W : World) (i : Int), 0 ≤ i → i < n → (Instr.indexAt t (.slice a n c) (.int .i64 i)).run P W = .ok (.pointer (some ⟨b, o i.toNat, none⟩)) W) ∧
      (∀ i, i < n → b < w.heap.size) ∧
      (∀ i s, l[i]? = some s → w.cell? ⟨b, o i, none⟩ = some (.int .i64 s.t) ∧ w.cell? ⟨b, o i + 1, none⟩ = some (.int .i64 s.x) ∧ w.cell? ⟨b, o i + 2, none⟩ = some (.int .i64 s.y)) ∧ (∀ i, i < n → (Value.slice a n c).ownBlock = some b) := by
  subst hn
  obtain ⟨hT, -, hz, hs⟩ := id E
  obtain ⟨h1, a, c, rfl, h2, h3, h4, h5⟩ := h
  have h3' : c ≤ 9223372036854775807 := by simpa [maxLen] using h3
  rcases h5 with h0 | ⟨b, off, rfl, hlt, hc⟩
  · refine ⟨a, c, 0, fun _ => 0, rfl, h2, h3', fun _ _ h0' hi => by omega, fun i hi => by omega, fun i s hi => ?_, fun i hi => by omega⟩
    have := (List.getElem?_eq_some_iff.1 hi).1
    omega
  · refine ⟨_, c, b, fun i => off + i * 3, rfl, h2, h3', ?_, fun i hi => hlt, fun i s hi => ?_, fun i hi => rfl⟩
    · intro W i h0 hi
      have hu : P.elem t = e := by simp [Program.elem, hT]
      rw [run_indexAt_slice W t _ l.length c .i64 i (by rw [hu]; exact hT), if_pos ⟨h0, hi⟩, hu, E.sizeOf]
      simp [Result.andThen, Addr.add_lit]
    · have g0 := scells_get l i 0 s hi (by omega)
      have g1 := scells_get l i 1 s hi (by omega)
      have g2 := scells_get l i 2 s hi (by omega)
      refine ⟨?_, ?_, ?_⟩
      · have := hc _ _ g0; simpa using this
      · have := hc _ _ g1; rw [← Nat.add_assoc] at this; simpa using this
      · have := hc _ _ g2; rw [← Nat.add_assoc] at this; simpa using this

theorem Ss.open_n {w : World} {P : Program} {t e : TypeId} {z : Value} {bytes : Nat} (E : ElTy P t e z 3 bytes) {v : Value} {l : List Smp} (h : Ss w v l) (n : Nat) (hn : l.length = n) :
    ∃ a c b, ∃ o : Nat → Nat, v = .slice a n c ∧ n ≤ c ∧ c ≤ 9223372036854775807 ∧
      (∀ (W : World) (i : Int), 0 ≤ i → i < n → (Instr.indexAt t (.slice a n c) (.int .i64 i)).run P W = .ok (.pointer (some ⟨b, o i.toNat, none⟩)) W) ∧
      (∀ i, i < n → b < w.heap.size) ∧
      (∀ i s, l[i]? = some s → w.cell? ⟨b, o i, none⟩ = some (.int .i64 s.t) ∧ w.cell? ⟨b, o i + 1, none⟩ = some (.int .i64 s.x) ∧ w.cell? ⟨b, o i + 2, none⟩ = some (.int .i64 s.y)) := by
  obtain ⟨a, c, b, o, h1, h2, h3, h4, h5, h6, _⟩ := Ss.open_b E h n hn
  exact ⟨a, c, b, o, h1, h2, h3, h4, h5, h6⟩

section
variable {P : Program} {t e : TypeId} {z : Value} {bytes : Nat} {w : World} {ops : Array Oper} {rest : List Oper} {o : Oper} {a : Act} {Q : Exit → Act → World → Prop} {base : Nat} {v : Value} {l : List Smp}

/-- 'append(s, x)' at samples of the call's own. -/
theorem wpList_append_smp (hown : Os w base e v l) (x : Smp) (E : ElTy P t e z 3 bytes) (h63 : (l.length + 1) * bytes ≤ 140737488355328) (hmx : l.length < 9223372036854775807) (hbase : base ≤ w.heap.size)
    (h : ∀ v' w', Os w' base e v' (l ++ [x]) → w.grownBy w' v.ownBlock → Below base w w' → wpList P ops Q rest (a.put o.dst v') w')
    (so xo : Operand) (hgd : o.guard = none) (ho : o.op = .call { callee := .builtin .append, args := #[so, xo], argTypes := #[t, t] })
    (u0 u1 u2 : Value) (hs : a.eval so = v) (hx : a.eval xo = .slice (some ⟨w.heap.size, 0, none⟩) 1 1)
    (hu0 : u0 = .int .i64 x.t) (hu1 : u1 = .int .i64 x.x) (hu2 : u2 = .int .i64 x.y) : wpList P ops Q (o :: rest) a (w.alloc (.cells #[u0, u1, u2] e)) := by
  subst hu0 hu1 hu2
  obtain ⟨ht, ⟨i, hi, hz, hsz, hby⟩, hzs, hp⟩ := E
  refine wpList_append_own _ hgd so xo t ho base e i z 3 bytes ht hi hz hsz hby hzs hp v l.length (scells l) hs (World.ownsRow.alloc hown _) ⟨w.heap.size, 0, none⟩ 1 1 x.cells hx rfl ?_ ?_ (by simp only [maxLen]; omega) h63 (by simp; omega) ?_
  · intro j u hu
    rw [Addr.add_lit, Nat.zero_add, World.cell?_alloc_at _ _ _ _ rfl]
    have : (#[Value.int .i64 x.t, .int .i64 x.x, .int .i64 x.y] : Array Value)[j]? = x.cells[j]? := by simp [Smp.cells]
    rw [this]
    exact hu
  · intro u hu
    exact scells_one [x] u (by simpa [scells] using hu)
  · intro v' w' h2 h3 _
    have h4 := grown_trans_alloc h3
    refine h v' w' ?_ h4 ((Below.refl _ _).grown h4 hbase fun k hk => (World.ownsRow.lt hown k hk).1)
    unfold Os
    rw [scells_append]
    simpa [scells] using h2
end

theorem ss_lit (w : World) (e : Nat) (cs : Array Value) (l : List Smp) (n : Nat) (hl : l.length = n) (hn : n ≤ maxLen) (hc : cs.toList = scells l) : Ss (w.alloc (.cells cs e)) (.slice (some ⟨w.heap.size, 0, none⟩) n n) l := by
  subst hl
  have h : (w.alloc (.cells cs e)).ownsRow w.heap.size e 3 (.slice (some ⟨w.heap.size, 0, none⟩) l.length l.length) l.length (scells l) := by
    rw [← hc]
    exact World.ownsRow_lit w cs l.length (Nat.le_refl _) hn (by rw [← Array.length_toList, hc, scells_len])
  exact Rd.of_own h

section
variable {P : Program} {t e : TypeId} {z : Value} {bytes : Nat} {w : World} {ops : Array Oper} {rest : List Oper} {o : Oper} {a : Act} {Q : Exit → Act → World → Prop} {base : Nat} {v : Value} {l : List Smp}
/-- wpList_append_smp, the new block's number spelled otherwise. -/
theorem wpList_append_smp_at (hown : Os w base e v l) (x : Smp) (E : ElTy P t e z 3 bytes) (h63 : (l.length + 1) * bytes ≤ 140737488355328) (hmx : l.length < 9223372036854775807) (hbase : base ≤ w.heap.size) (g : Nat) (hg : g = w.heap.size)
    (h : ∀ v' w', Os w' base e v' (l ++ [x]) → w.grownBy w' v.ownBlock → Below base w w' → wpList P ops Q rest (a.put o.dst v') w')
    (so xo : Operand) (hgd : o.guard = none) (ho : o.op = .call { callee := .builtin .append, args := #[so, xo], argTypes := #[t, t] })
    (u0 u1 u2 : Value) (hs : a.eval so = v) (hx : a.eval xo = .slice (some ⟨g, 0, none⟩) 1 1)
    (hu0 : u0 = .int .i64 x.t) (hu1 : u1 = .int .i64 x.x) (hu2 : u2 = .int .i64 x.y) : wpList P ops Q (o :: rest) a (w.alloc (.cells #[u0, u1, u2] e)) := by
  subst hg
  exact wpList_append_smp hown x E h63 hmx hbase h so xo hgd ho u0 u1 u2 hs hx hu0 hu1 hu2
end

theorem Ss.shape {w : World} {v : Value} {l : List Smp} (h : Ss w v l) : ∃ a c, v = .slice a l.length c := by
  obtain ⟨_, a, c, h, _⟩ := h
  exact ⟨a, c, h⟩

theorem scells_take (l : List Smp) : ∀ k, (scells l).take (k * 3) = scells (l.take k) := by
  induction l with
  | nil => intro k; simp [scells]
  | cons s l ih =>
    intro k
    cases k with
    | zero => simp [scells]
    | succ k =>
      have e : scells (s :: l) = s.cells ++ scells l := rfl
      have e2 : scells ((s :: l).take (k + 1)) = s.cells ++ scells (l.take k) := rfl
      have hl : s.cells.length = 3 := rfl
      rw [e, e2, List.take_append, hl, show (k + 1) * 3 - 3 = k * 3 by omega, ih, List.take_of_length_le (by rw [hl]; omega)]

theorem scells_drop (l : List Smp) : ∀ k, (scells l).drop (k * 3) = scells (l.drop k) := by
  induction l with
  | nil => intro k; simp [scells]
  | cons s l ih =>
    intro k
    cases k with
    | zero => simp [scells]
    | succ k =>
      have e : scells (s :: l) = s.cells ++ scells l := rfl
      have hl : s.cells.length = 3 := rfl
      rw [e, List.drop_append, hl, show (k + 1) * 3 - 3 = k * 3 by omega, ih, List.drop_of_length_le (by rw [hl]; omega)]
      rfl

theorem Ss.cut {w : World} {n : Nat} {a : Option Addr} {c : Nat} {l : List Smp} (h : Ss w (.slice a n c) l) (lo hi : Nat) (h1 : lo ≤ hi) (h2 : hi ≤ l.length) :
    Ss w (.slice (if c = lo then a else a.map (·.add (lo * 3))) (hi - lo) (c - lo)) ((l.drop lo).take (hi - lo)) := by
  have hn : n = l.length := by
    obtain ⟨_, a', c', he, _⟩ := h
    simp only [Value.slice.injEq] at he
    exact he.2.1
  subst hn
  have := Rd.cut h lo hi h1 h2
  unfold Ss
  rw [List.length_take, List.length_drop, show min (hi - lo) (l.length - lo) = hi - lo by omega, ← scells_take, ← scells_drop]
  exact this

theorem Ss.len_eq {w : World} {n : Nat} {a : Option Addr} {c : Nat} {l : List Smp} (h : Ss w (.slice a n c) l) : n = l.length ∧ n ≤ c ∧ c ≤ 9223372036854775807 := by
  obtain ⟨_, a', c', he, h2, h3, _⟩ := h
  simp only [Value.slice.injEq] at he
  obtain ⟨_, rfl, rfl⟩ := he
  exact ⟨rfl, h2, by simpa [maxLen] using h3⟩

section
variable {w : World} {P : Program} {t e : TypeId} {z : Value} {bytes : Nat} {a : Option Addr} {n c : Nat} {l : List Smp}
theorem Ss.upto (E : ElTy P t e z 3 bytes) (h : Ss w (.slice a n c) l) (hi : Nat) (h1 : hi ≤ l.length) :
    ∃ Y, (∀ W : World, (Instr.sliceAt t (.slice a n c) none (some (.int .i64 (hi : Int))) none).run P W = .ok Y W) ∧ Ss w Y (l.take hi) := by
  have hT := E.1
  have hel : P.elem t = e := by simp [Program.elem, hT]
  have hs := E.sizeOf
  obtain ⟨hn, hc, _⟩ := h.len_eq
  refine ⟨_, fun W => ?_, by simpa using h.cut 0 hi (by omega) h1⟩
  rw [run_sliceAt_slice (h := by rw [hel]; exact hT), run_slice_h (ht := by rw [hel]; exact hT) (h0 := by omega) (h2 := by omega), hel, hs]
  simp [Result.andThen, sliced, Addr.add_zero']
theorem Ss.from (E : ElTy P t e z 3 bytes) (h : Ss w (.slice a n c) l) (lo : Nat) (h1 : lo ≤ l.length) :
    ∃ Y, (∀ W : World, (Instr.sliceAt t (.slice a n c) (some (.int .i64 (lo : Int))) none none).run P W = .ok Y W) ∧ Ss w Y (l.drop lo) := by
  have hT := E.1
  have hel : P.elem t = e := by simp [Program.elem, hT]
  have hs := E.sizeOf
  obtain ⟨hn, hc, _⟩ := h.len_eq
  refine ⟨_, fun W => ?_, by have := h.cut lo l.length h1 (Nat.le_refl _); rwa [List.take_of_length_le (by simp)] at this⟩
  rw [run_sliceAt_slice (h := by rw [hel]; exact hT), run_slice_l (ht := by rw [hel]; exact hT) (h0 := by omega) (h1 := by omega), hel, hs]
  simp [Result.andThen, sliced, hn]
end

/-! ### plain -/
def SMay (s : Smp) : Prop := 0 ≤ s.t ∧ s.t ≤ 1099511627776 ∧ 0 ≤ s.x ∧ s.x < 67108864 ∧ 0 ≤ s.y ∧ s.y < 67108864
def SRight (l : List Smp) : Prop := ∀ i s, l[i]? = some s → SMay s ∧ (0 < i → ∀ p, l[i - 1]? = some p → p.t < s.t)

def sabs (n : Int) : Int := if n < 0 then -n else n
def sfar (a b : Smp) : Int := max (sabs (b.x - a.x)) (sabs (b.y - a.y))

def slen : Int → List Smp → Int
  | acc, a :: b :: r => slen (acc + sfar a b) (b :: r)
  | acc, _ => acc
def sgap : Int → List Smp → Int
  | acc, a :: b :: r => sgap (max acc (b.t - a.t)) (b :: r)
  | acc, _ => acc

theorem slen_step (l : List Smp) (k : Nat) (a b : Smp) (acc : Int) (ha : l[k]? = some a) (hb : l[k + 1]? = some b) : slen acc (l.drop k) = slen (acc + sfar a b) (l.drop (k + 1)) := by
  obtain ⟨h1, h1'⟩ := List.getElem?_eq_some_iff.1 ha
  obtain ⟨h2, h2'⟩ := List.getElem?_eq_some_iff.1 hb
  rw [List.drop_eq_getElem_cons h1, List.drop_eq_getElem_cons h2, h1', h2', slen]
theorem sgap_step (l : List Smp) (k : Nat) (a b : Smp) (acc : Int) (ha : l[k]? = some a) (hb : l[k + 1]? = some b) : sgap acc (l.drop k) = sgap (max acc (b.t - a.t)) (l.drop (k + 1)) := by
  obtain ⟨h1, h1'⟩ := List.getElem?_eq_some_iff.1 ha
  obtain ⟨h2, h2'⟩ := List.getElem?_eq_some_iff.1 hb
  rw [List.drop_eq_getElem_cons h1, List.drop_eq_getElem_cons h2, h1', h2', sgap]
theorem slen_end (l : List Smp) (k : Nat) (acc : Int) (h : l.length ≤ k + 1) : slen acc (l.drop k) = acc := by
  have : (l.drop k).length ≤ 1 := by simp; omega
  match l.drop k, this with
  | [], _ => rfl
  | [a], _ => rfl
theorem sgap_end (l : List Smp) (k : Nat) (acc : Int) (h : l.length ≤ k + 1) : sgap acc (l.drop k) = acc := by
  have : (l.drop k).length ≤ 1 := by simp; omega
  match l.drop k, this with
  | [], _ => rfl
  | [a], _ => rfl

theorem sabs_range (n : Int) (h : -67108864 < n ∧ n < 67108864) : 0 ≤ sabs n ∧ sabs n ≤ 67108864 := by unfold sabs; split <;> omega
theorem sfar_range (a b : Smp) (ha : SMay a) (hb : SMay b) : 0 ≤ sfar a b ∧ sfar a b ≤ 67108864 := by
  unfold SMay at *; unfold sfar sabs; constructor <;> (split <;> split <;> omega)

end Go.Proofs.YtjnbdeopoohnmaaGreatDoor
