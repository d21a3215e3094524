/- Slices of samples that are read or owned, over any program; the plain laws of samples. -/
import Derived.Test.YtmhgdddnjnichaaDoorBase
import Derived.Test.YtmhgdddnjnichaaDoorBase2
namespace Go.Proofs.YtmhgdddnjnichaaDoor
open Go.RowKit

structure Smp where
  t : Int
  x : Int
  y : Int

def Smp.cells (s : Smp) : List Value := [.int .i64 s.t, .int .i64 s.x, .int .i64 s.y]
def scells (l : List Smp) : List Value := l.flatMap Smp.cells

theorem scells_len (l : List Smp) : (scells l).length = l.length * 3 := by
  induction l with
  | nil => rfl
  | cons s l ih => simp only [scells, List.flatMap_cons, List.length_append, List.length_cons] at *; rw [ih]; simp [Smp.cells]; omega

theorem scells_get (l : List Smp) : ∀ (i j : Nat) (s : Smp), l[i]? = some s → j < 3 → (scells l)[i * 3 + j]? = s.cells[j]? := by
  induction l with
  | nil => intro i j s h; simp at h
  | cons a l ih =>
    intro i j s h hj
    have e : scells (a :: l) = a.cells ++ scells l := rfl
    rw [e]
    cases i with
    | zero =>
      simp at h
      subst h
      rw [Nat.zero_mul, Nat.zero_add, List.getElem?_append_left (by simp [Smp.cells]; omega)]
    | succ i =>
      rw [List.getElem?_append_right (by simp [Smp.cells]; omega)]
      have : (i + 1) * 3 + j - a.cells.length = i * 3 + j := by simp [Smp.cells]; omega
      rw [this]
      exact ih i j s (by simpa using h) hj

theorem scells_append (a b : List Smp) : scells (a ++ b) = scells a ++ scells b := by simp [scells]
theorem scells_one (l : List Smp) : ∀ u ∈ scells l, u.oneCell' = true := by
  intro u hu
  simp only [scells, List.mem_flatMap, Smp.cells] at hu
  obtain ⟨s, _, h⟩ := hu
  simp at h
  rcases h with rfl | rfl | rfl <;> rfl

def Ss (w : World) (v : Value) (l : List Smp) : Prop := Rd w 3 v l.length (scells l)
def Os (w : World) (B e : Nat) (v : Value) (l : List Smp) : Prop := w.ownsRow B e 3 v l.length (scells l)

theorem Os.ss {w : World} {B e : Nat} {v : Value} {l : List Smp} (h : Os w B e v l) : Ss w v l := Rd.of_own h
theorem Ss.below {w w' : World} {v : Value} {l : List Smp} (h : Ss w v l) (hb : Below w.heap.size w w') : Ss w' v l := Rd.below h hb
theorem Ss.alloc {w : World} {v : Value} {l : List Smp} (h : Ss w v l) (o : Obj) : Ss (w.alloc o) v l := Rd.alloc h o
theorem Ss.drew {w : World} {v : Value} {l : List Smp} (h : Ss w v l) : Ss w.drew v l := Rd.drew h
theorem Os.below {w w' : World} {B e : Nat} {v : Value} {l : List Smp} (h : Os w B e v l) (hb : Below w.heap.size w w') : Os w' B e v l := by
  refine World.ownsRow.kept (row := none) h ⟨hb.os, hb.tape, hb.output, hb.size, fun k hk _ => hb.block k hk⟩ ?_
  cases hv : v.ownBlock <;> simp
theorem Os.alloc {w : World} {B e : Nat} {v : Value} {l : List Smp} (h : Os w B e v l) (o : Obj) : Os (w.alloc o) B e v l := h.below ((Below.refl _ _).alloc (Nat.le_refl _) o)
theorem Os.nil (w : World) (B e : Nat) : Os w B e (.slice none 0 0) [] := World.ownsRow_nil w B e 3

/-- reading: a block and an offset for each element. -/
theorem Ss.open_b {w : World} {P : Program} {t e : TypeId} {z : Value} {bytes : Nat} (E : ElTy P t e z 3 bytes) {v : Value} {l : List Smp} (h : Ss w v l) (n : Nat) (hn : l.length = n) :
    ∃ a c b, ∃ o : Nat → Nat, v = .slice a n c ∧ n ≤ c ∧ c ≤ 9223372036854775807 ∧
      (∀ (W : World) (i : Int), 0 ≤ i → i < n → (Instr.indexAt t (.slice a n c) (.int .i64 i)).run P W = .ok (.pointer (some ⟨b, o i.toNat, none⟩)) W) ∧
      (∀ i, i < n → b < w.heap.size) ∧
      (∀ i s, l[i]? = some s → w.cell? ⟨b, o i, none⟩ = some (.int .i64 s.t) ∧ w.cell? ⟨b, o i + 1, none⟩ = some (.int .i64 s.x) ∧ w.cell? ⟨b, o i + 2, none⟩ = some (.int .i64 s.y)) ∧ (∀ i, i < n → (Value.slice a n c).ownBlock = some b) := by
  subst hn
  obtain ⟨hT, -, hz, hs⟩ := id E
  obtain ⟨h1, a, c, rfl, h2, h3, h4, h5⟩ := h
  have h3' : c ≤ 9223372036854775807 := by simpa [maxLen] using h3
  rcases h5 with h0 | ⟨b, off, rfl, hlt, hc⟩
  · refine ⟨a, c, 0, fun _ => 0, rfl, h2, h3', fun _ _ h0' hi => by omega, fun i hi => by omega, fun i s hi => ?_, fun i hi => by omega⟩
    have := (List.getElem?_eq_some_iff.1 hi).1
    omega
  · refine ⟨_, c, b, fun i => off + i * 3, rfl, h2, h3', ?_, fun i hi => hlt, fun i s hi => ?_, fun i hi => rfl⟩
    · intro W i h0 hi
      have hu : P.elem t = e := by simp [Program.elem, hT]
      rw [run_indexAt_slice W t _ l.length c .i64 i (by rw [hu]; exact hT), if_pos ⟨h0, hi⟩, hu, E.sizeOf]
      simp [Result.andThen, Addr.add_lit]
    · have g0 := scells_get l i 0 s hi (by omega)
      have g1 := scells_get l i 1 s hi (by omega)
      have g2 := scells_get l i 2 s hi (by omega)
      refine ⟨?_, ?_, ?_⟩
      · have := hc _ _ g0; simpa using this
      · have := hc _ _ g1; rw [← Nat.add_assoc] at this; simpa using this
      · have := hc _ _ g2; rw [← Nat.add_assoc] at this; simpa using this

theorem Ss.open_n {w : World} {P : Program} {t e : TypeId} {z : Value} {bytes : Nat} (E : ElTy P t e z 3 bytes) {v : Value} {l : List Smp} (h : Ss w v l) (n : Nat) (hn : l.length = n) :
    ∃ a c b, ∃ o : Nat → Nat, v = .slice a n c ∧ n ≤ c ∧ c ≤ 9223372036854775807 ∧
      (∀ (W : World) (i : Int), 0 ≤ i → i < n → (Instr.indexAt t (.slice a n c) (.int .i64 i)).run P W = .ok (.pointer (some ⟨b, o i.toNat, none⟩)) W) ∧
      (∀ i, i < n → b < w.heap.size) ∧
      (∀ i s, l[i]? = some s → w.cell? ⟨b, o i, none⟩ = some (.int .i64 s.t) ∧ w.cell? ⟨b, o i + 1, none⟩ = some (.int .i64 s.x) ∧ w.cell? ⟨b, o i + 2, none⟩ = some (.int .i64 s.y)) := by
  obtain ⟨a, c, b, o, h1, h2, h3, h4, h5, h6, _⟩ := Ss.open_b E h n hn
  exact ⟨a, c, b, o, h1, h2, h3, h4, h5, h6⟩

section
variable {P : Program} {t e : TypeId} {z : Value} {bytes : Nat} {w : World} {ops : Array Oper} {rest : List Oper} {o : Oper} {a : Act} {Q : Exit → Act → World → Prop} {base : Nat} {v : Value} {l : List Smp}

/-- 'append(s, x)' at samples of the call's own. -/
theorem wpList_append_smp (hown : Os w base e v l) (x : Smp) (E : ElTy P t e z 3 bytes) (h63 : (l.length + 1) * bytes ≤ 140737488355328) (hmx : l.length < 9223372036854775807) (hbase : base ≤ w.heap.size)
    (h : ∀ v' w', Os w' base e v' (l ++ [x]) → w.grownBy w' v.ownBlock → Below base w w' → wpList P ops Q rest (a.put o.dst v') w')
    (so xo : Operand) (hgd : o.guard = none) (ho : o.op = .call { callee := .builtin .append, args := #[so, xo], argTypes := #[t, t] })
    (u0 u1 u2 : Value) (hs : a.eval so = v) (hx : a.eval xo = .slice (some ⟨w.heap.size, 0, none⟩) 1 1)
    (hu0 : u0 = .int .i64 x.t) (hu1 : u1 = .int .i64 x.x) (hu2 : u2 = .int .i64 x.y) : wpList P ops Q (o :: rest) a (w.alloc (.cells #[u0, u1, u2] e)) := by
  subst hu0 hu1 hu2
  obtain ⟨ht, ⟨i, hi, hz, hsz, hby⟩, hzs, hp⟩ := E
  refine wpList_append_own _ hgd so xo t ho base e i z 3 bytes ht hi hz hsz hby hzs hp v l.length (scells l) hs (World.ownsRow.alloc hown _) ⟨w.heap.size, 0, none⟩ 1 1 x.cells hx rfl ?_ ?_ (by simp only [maxLen]; omega) h63 (by simp; omega) ?_
  · intro j u hu
    rw [Addr.add_lit, Nat.zero_add, World.cell?_alloc_at _ _ _ _ rfl]
    have : (#[Value.int .i64 x.t, .int .i64 x.x, .int .i64 x.y] : Array Value)[j]? = x.cells[j]? := by simp [Smp.cells]
    rw [this]
    exact hu
  · intro u hu
    exact scells_one [x] u (by simpa [scells] using hu)
  · intro v' w' h2 h3 _
    have h4 := grown_trans_alloc h3
    refine h v' w' ?_ h4 ((Below.refl _ _).grown h4 hbase fun k hk => (World.ownsRow.lt hown k hk).1)
    unfold Os
    rw [scells_append]
    simpa [scells] using h2
end

theorem ss_lit (w : World) (e : Nat) (cs : Array Value) (l : List Smp) (n : Nat) (hl : l.length = n) (hn : n ≤ maxLen) (hc : cs.toList = scells l) : Ss (w.alloc (.cells cs e)) (.slice (some ⟨w.heap.size, 0, none⟩) n n) l := by
  subst hl
  have h : (w.alloc (.cells cs e)).ownsRow w.heap.size e 3 (.slice (some ⟨w.heap.size, 0, none⟩) l.length l.length) l.length (scells l) := by
    rw [← hc]
    exact World.ownsRow_lit w cs l.length (Nat.le_refl _) hn (by rw [← Array.length_toList, hc, scells_len])
  exact Rd.of_own h

section
variable {P : Program} {t e : TypeId} {z : Value} {bytes : Nat} {w : World} {ops : Array Oper} {rest : List Oper} {o : Oper} {a : Act} {Q : Exit → Act → World → Prop} {base : Nat} {v : Value} {l : List Smp}
/-- wpList_append_smp, the new block's number spelled otherwise. -/
theorem wpList_append_smp_at (hown : Os w base e v l) (x : Smp) (E : ElTy P t e z 3 bytes) (h63 : (l.length + 1) * bytes ≤ 140737488355328) (hmx : l.length < 9223372036854775807) (hbase : base ≤ w.heap.size) (g : Nat) (hg : g = w.heap.size)
    (h : ∀ v' w', Os w' base e v' (l ++ [x]) → w.grownBy w' v.ownBlock → Below base w w' → wpList P ops Q rest (a.put o.dst v') w')
    (so xo : Operand) (hgd : o.guard = none) (ho : o.op = .call { callee := .builtin .append, args := #[so, xo], argTypes := #[t, t] })
    (u0 u1 u2 : Value) (hs : a.eval so = v) (hx : a.eval xo = .slice (some ⟨g, 0, none⟩) 1 1)
    (hu0 : u0 = .int .i64 x.t) (hu1 : u1 = .int .i64 x.x) (hu2 : u2 = .int .i64 x.y) : wpList P ops Q (o :: rest) a (w.alloc (.cells #[u0, u1, u2] e)) := by
  subst hg
  exact wpList_append_smp hown x E h63 hmx hbase h so xo hgd ho u0 u1 u2 hs hx hu0 hu1 hu2
end

theorem Ss.shape {w : World} {v : Value} {l : List Smp} (h : Ss w v l) : ∃ a c, v = .slice a l.length c := by
  obtain ⟨_, a, c, h, _⟩ := h
  exact ⟨a, c, h⟩

theorem scells_take (l : List Smp) : ∀ k, (scells l).take (k * 3) = scells (l.take k) := by
  induction l with
  | nil => intro k; simp [scells]
  | cons s l ih =>
    intro k
    cases k with
    | zero => simp [scells]
    | succ k =>
      have e : scells (s :: l) = s.cells ++ scells l := rfl
      have e2 : scells ((s :: l).take (k + 1)) = s.cells ++ scells (l.take k) := rfl
      have hl : s.cells.length = 3 := rfl
      rw [e, e2, List.take_append, hl, show (k + 1) * 3 - 3 = k * 3 by omega, ih, List.take_of_length_le (by rw [hl]; omega)]

theorem scells_drop (l : List Smp) : ∀ k, (scells l).drop (k * 3) = scells (l.drop k) := by
  induction l with
  | nil => intro k; simp [scells]
  | cons s l ih =>
    intro k
    cases k with
    | zero => simp [scells]
    | succ k =>
      have e : scells (s :: l) = s.cells ++ scells l := rfl
      have hl : s.cells.length = 3 := rfl
      rw [e, List.drop_append, hl, show (k + 1) * 3 - 3 = k * 3 by omega, ih, List.drop_of_length_le (by rw [hl]; omega)]
      rfl

theorem Ss.cut {w : World} {n : Nat} {a : Option Addr} {c : Nat} {l : List Smp} (h : Ss w (.slice a n c) l) (lo hi : Nat) (h1 : lo ≤ hi) (h2 : hi ≤ l.length) :
    Ss w (.slice (if c = lo then a else a.map (·.add (lo * 3))) (hi - lo) (c - lo)) ((l.drop lo).take (hi - lo)) := by
  have hn : n = l.length := by
    obtain ⟨_, a', c', he, _⟩ := h
    simp only [Value.slice.injEq] at he
    exact he.2.1
  subst hn
  have := Rd.cut h lo hi h1 h2
  unfold Ss
  rw [List.length_take, List.length_drop, show min (hi - lo) (l.length - lo) = hi - lo by omega, ← scells_take, ← scells_drop]
  exact this

theorem Ss.len_eq {w : World} {n : Nat} {a : Option Addr} {c : Nat} {l : List Smp} (h : Ss w (.slice a n c) l) : n = l.length ∧ n ≤ c ∧ c ≤ 9223372036854775807 := by
  obtain ⟨_, a', c', he, h2, h3, _⟩ := h
  simp only [Value.slice.injEq] at he
  obtain ⟨_, rfl, rfl⟩ := he
  exact ⟨rfl, h2, by simpa [maxLen] using h3⟩

section
variable {w : World} {P : Program} {t e : TypeId} {z : Value} {bytes : Nat} {a : Option Addr} {n c : Nat} {l : List Smp}
theorem Ss.upto (E : ElTy P t e z 3 bytes) (h : Ss w (.slice a n c) l) (hi : Nat) (h1 : hi ≤ l.length) :
    ∃ Y, (∀ W : World, (Instr.sliceAt t (.slice a n c) none (some (.int .i64 (hi : Int))) none).run P W = .ok Y W) ∧ Ss w Y (l.take hi) := by
  have hT := E.1
  have hel : P.elem t = e := by simp [Program.elem, hT]
  have hs := E.sizeOf
  obtain ⟨hn, hc, _⟩ := h.len_eq
  refine ⟨_, fun W => ?_, by simpa using h.cut 0 hi (by omega) h1⟩
  rw [run_sliceAt_slice (h := by rw [hel]; exact hT), run_slice_h (ht := by rw [hel]; exact hT) (h0 := by omega) (h2 := by omega), hel, hs]
  simp [Result.andThen, sliced, Addr.add_zero']
theorem Ss.from (E : ElTy P t e z 3 bytes) (h : Ss w (.slice a n c) l) (lo : Nat) (h1 : lo ≤ l.length) :
    ∃ Y, (∀ W : World, (Instr.sliceAt t (.slice a n c) (some (.int .i64 (lo : Int))) none none).run P W = .ok Y W) ∧ Ss w Y (l.drop lo) := by
  have hT := E.1
  have hel : P.elem t = e := by simp [Program.elem, hT]
  have hs := E.sizeOf
  obtain ⟨hn, hc, _⟩ := h.len_eq
  refine ⟨_, fun W => ?_, by have := h.cut lo l.length h1 (Nat.le_refl _); rwa [List.take_of_length_le (by simp)] at this⟩
  rw [run_sliceAt_slice (h := by rw [hel]; exact hT), run_slice_l (ht := by rw [hel]; exact hT) (h0 := by omega) (h1 := by omega), hel, hs]
  simp [Result.andThen, sliced, hn]
end

/-! ### plain -/
def SMay (s : Smp) : Prop := 0 ≤ s.t ∧ s.t ≤ 1099511627776 ∧ 0 ≤ s.x ∧ s.x < 67108864 ∧ 0 ≤ s.y ∧ s.y < 67108864
def SRight (l : List Smp) : Prop := ∀ i s, l[i]? = some s → SMay s ∧ (0 < i → ∀ p, l[i - 1]? = some p → p.t < s.t)

def sabs (n : Int) : Int := if n < 0 then -n else n
def sfar (a b : Smp) : Int := max (sabs (b.x - a.x)) (sabs (b.y - a.y))

def slen : Int → List Smp → Int
  | acc, a :: b :: r => slen (acc + sfar a b) (b :: r)
  | acc, _ => acc
def sgap : Int → List Smp → Int
  | acc, a :: b :: r => sgap (max acc (b.t - a.t)) (b :: r)
  | acc, _ => acc

theorem slen_step (l : List Smp) (k : Nat) (a b : Smp) (acc : Int) (ha : l[k]? = some a) (hb : l[k + 1]? = some b) : slen acc (l.drop k) = slen (acc + sfar a b) (l.drop (k + 1)) := by
  obtain ⟨h1, h1'⟩ := List.getElem?_eq_some_iff.1 ha
  obtain ⟨h2, h2'⟩ := List.getElem?_eq_some_iff.1 hb
  rw [List.drop_eq_getElem_cons h1, List.drop_eq_getElem_cons h2, h1', h2', slen]
theorem sgap_step (l : List Smp) (k : Nat) (a b : Smp) (acc : Int) (ha : l[k]? = some a) (hb : l[k + 1]? = some b) : sgap acc (l.drop k) = sgap (max acc (b.t - a.t)) (l.drop (k + 1)) := by
  obtain ⟨h1, h1'⟩ := List.getElem?_eq_some_iff.1 ha
  obtain ⟨h2, h2'⟩ := List.getElem?_eq_some_iff.1 hb
  rw [List.drop_eq_getElem_cons h1, List.drop_eq_getElem_cons h2, h1', h2', sgap]
theorem slen_end (l : List Smp) (k : Nat) (acc : Int) (h : l.length ≤ k + 1) : slen acc (l.drop k) = acc := by
  have : (l.drop k).length ≤ 1 := by simp; omega
  match l.drop k, this with
  | [], _ => rfl
  | [a], _ => rfl
theorem sgap_end (l : List Smp) (k : Nat) (acc : Int) (h : l.length ≤ k + 1) : sgap acc (l.drop k) = acc := by
  have : (l.drop k).length ≤ 1 := by simp; omega
  match l.drop k, this with
  | [], _ => rfl
  | [a], _ => rfl

theorem sabs_range (n : Int) (h : -67108864 < n ∧ n < 67108864) : 0 ≤ sabs n ∧ sabs n ≤ 67108864 := by unfold sabs; split <;> omega
theorem sfar_range (a b : Smp) (ha : SMay a) (hb : SMay b) : 0 ≤ sfar a b ∧ sfar a b ≤ 67108864 := by
  unfold SMay at *; unfold sfar sabs; constructor <;> (split <;> split <;> omega)

end Go.Proofs.YtmhgdddnjnichaaDoor
