/- Rows of 32-bit words that grow by append. No function of the program stands here. -/
import Derived.Test.YtmhgdddnjnichaaDoorShaP
namespace Go.Proofs.YtmhgdddnjnichaaDoor
open Go.RowKit

def uv (x : UInt32) : Value := .int .u32 (wn x)
def Us (w : World) (v : Value) (l : List UInt32) : Prop := Rd w 1 v l.length (l.map uv)
def Ou (w : World) (B : Nat) (v : Value) (l : List UInt32) : Prop := w.ownsRow B 90 1 v l.length (l.map uv)
theorem elU : ElTy Tryd.prog 97 90 (.int .u32 0) 1 4 := ⟨Tryd.underlying97, info_parts (by kernel_rfl), rfl, by decide⟩

theorem uv_one (l : List UInt32) : ∀ u ∈ l.map uv, u.oneCell' = true := by
  intro u hu
  obtain ⟨x, _, rfl⟩ := List.mem_map.1 hu
  rfl
section
variable {w w' : World} {B : Nat} {v : Value} {l : List UInt32}
theorem Ou.us (h : Ou w B v l) : Us w v l := Rd.of_own h
theorem Us.below (h : Us w v l) (hb : Below w.heap.size w w') : Us w' v l := Rd.below h hb
theorem Us.alloc (h : Us w v l) (o : Obj) : Us (w.alloc o) v l := Rd.alloc h o
theorem Us.drew (h : Us w v l) : Us w.drew v l := Rd.drew h
theorem Ou.below (h : Ou w B v l) (hb : Below w.heap.size w w') : Ou w' B v l := by
  refine World.ownsRow.kept (row := none) h ⟨hb.os, hb.tape, hb.output, hb.size, fun k hk _ => hb.block k hk⟩ ?_
  cases hv : v.ownBlock <;> simp
theorem Ou.drew (h : Ou w B v l) : Ou w.drew B v l := h.below (Below.refl _ _).drew
theorem Ou.mono {B' : Nat} (h : Ou w B v l) (hB : B' ≤ B) : Ou w B' v l := by
  refine ⟨h.1, ?_⟩
  rcases h.2 with h2 | ⟨g, c, cur, h1, h2, r⟩
  · exact .inl h2
  · exact .inr ⟨g, c, cur, h1, by omega, r⟩
theorem Ou.nil (w : World) (B : Nat) : Ou w B (.slice none 0 0) [] := World.ownsRow_nil w B 90 1
theorem Us.shape (h : Us w v l) : ∃ a c, v = .slice a l.length c := by
  obtain ⟨_, a, c, h, _⟩ := h
  exact ⟨a, c, h⟩
theorem Ou.lt (h : Ou w B v l) : ∀ k, v.ownBlock = some k → B ≤ k ∧ k < w.heap.size := World.ownsRow.lt h
theorem Us.only {F : Nat → Prop} (h : Us w v l) (ho : Only F w w') (hd : ∀ k, v.ownBlock = some k → ¬ F k) : Us w' v l := Rd.only h ho hd

theorem ou_lit (w : World) (cs : Array Value) (l : List UInt32) (n : Nat) (hl : l.length = n) (hn : n ≤ maxLen) (hc : cs.toList = l.map uv) : Ou (w.alloc (.cells cs 90)) w.heap.size (.slice (some ⟨w.heap.size, 0, none⟩) n n) l := by
  subst hl
  refine ⟨by simp, .inr ⟨w.heap.size, l.length, cs, rfl, Nat.le_refl _, heap_alloc_new w _, Nat.le_refl _, hn, ?_, ?_⟩⟩
  · rw [← Array.length_toList, hc]; simp
  · rw [hc, List.take_of_length_le (by simp)]

theorem Us.open_n (h : Us w v l) (n : Nat) (hn : l.length = n) :
    ∃ a c, ∃ adr : Nat → Addr, v = .slice a n c ∧ n ≤ c ∧ c ≤ 9223372036854775807 ∧
      (∀ (W : World) (i : Nat), i < n → (Instr.indexAt 97 (.slice a n c) (.int .i64 (i : Int))).run Tryd.prog W = .ok (.pointer (some (adr i))) W) ∧
      (∀ i, i < n → (adr i).block < w.heap.size) ∧
      (∀ i, i < n → w.cell? (adr i) = some (.int .u32 (wn (l[i]?.getD 0)))) := by
  subst hn
  obtain ⟨a, c, adr, h1, h2, h3, h4, h5, h6, h7⟩ := Rd.open_ elU h
  refine ⟨a, c, adr, h1, h2, h3, fun W i hi => by have := h5 W i (by omega) (by omega); simpa using this, h6, fun i hi => ?_⟩
  have := h7 i hi 0 (by omega)
  rw [Addr.add_zero'] at this
  rw [this]
  simp [hi, uv]
end

section
variable {w : World} {ops : Array Oper} {rest : List Oper} {o : Oper} {a : Act} {Q : Exit → Act → World → Prop} {base : Nat} {v : Value} {l : List UInt32}

theorem wpList_append_u32 (hown : Ou w base v l) (x : UInt32) (h63 : l.length < 1000000) (hbase : base ≤ w.heap.size)
    (h : ∀ v' w', Ou w' base v' (l ++ [x]) → Below base w w' → wpList Tryd.prog ops Q rest (a.put o.dst v') w')
    (so xo : Operand) (hgd : o.guard = none) (ho : o.op = .call { callee := .builtin .append, args := #[so, xo], argTypes := #[97, 97] })
    (u : Value) (hs : a.eval so = v) (hx : a.eval xo = .slice (some ⟨w.heap.size, 0, none⟩) 1 1)
    (hu : u = uv x) : wpList Tryd.prog ops Q (o :: rest) a (w.alloc (.cells #[u] 90)) := by
  refine wpList_append_one hgd so xo 97 ho elU base v l.length (l.map uv) u hs hown hx (by rw [hu]; rfl) (by simp [maxLen]; omega) (by omega) hbase ?_
  intro v' w' h1 h2 h3
  refine h v' w' ?_ h3
  subst hu
  simpa [Ou] using h1

theorem wpList_append_u32s (hown : Ou w base v l) {y : Value} {m : List UInt32} (hrd : Us w y m) (h63 : l.length + m.length < 1000000) (hbase : base ≤ w.heap.size)
    (h : ∀ v' w', Ou w' base v' (l ++ m) → Below base w w' → wpList Tryd.prog ops Q rest (a.put o.dst v') w')
    (so xo : Operand) (hgd : o.guard = none) (ho : o.op = .call { callee := .builtin .append, args := #[so, xo], argTypes := #[97, 97] })
    (hs : a.eval so = v) (hx : a.eval xo = y) : wpList Tryd.prog ops Q (o :: rest) a w := by
  refine wpList_append_rd hgd so xo 97 ho elU base v l.length (l.map uv) y m.length (m.map uv) hs hown hx hrd (uv_one m) (by simp [maxLen]; omega) (by omega) hbase ?_
  intro v' w' h1 h2 h3 h4
  exact h v' w' (by simpa [Ou] using h1) h3

/-- in a region that draws its order -/
theorem step_append_u32 {K : Act → World → Prop} {F : Prop} (hown : Ou w base v l) (x : UInt32) (h63 : l.length < 1000000) (hbase : base ≤ w.heap.size)
    (h : ∀ v' w', Ou w' base v' (l ++ [x]) → Below base w w' → K (a.put o.dst v') w')
    (so xo : Operand) (hgd : o.guard = none) (ho : o.op = .call { callee := .builtin .append, args := #[so, xo], argTypes := #[97, 97] })
    (u : Value) (hs : a.eval so = v) (hx : a.eval xo = .slice (some ⟨w.heap.size, 0, none⟩) 1 1)
    (hu : u = uv x) : if Region.wanted o (yielded ops a.tmps) = true then Oper.wp Tryd.prog o a (w.alloc (.cells #[u] 90)) K Q else F := by
  have hw : Region.wanted o (yielded ops a.tmps) = true := by simp [Region.wanted, hgd]
  rw [if_pos hw]
  have hx1 := ou_lit w #[uv x] [x] 1 rfl (by decide) rfl
  subst hu
  have hba : Below w.heap.size w (w.alloc (.cells #[uv x] 90)) := (Below.refl _ _).alloc (Nat.le_refl _) _
  have ho1 : Ou (w.alloc (.cells #[uv x] 90)) base v l := hown.below hba
  refine wp_append_mv so xo 97 ho elU base v l.length (l.map uv) _ 1 [uv x] hs ho1 hx hx1.us (uv_one [x]) (by simp [maxLen]; omega) (by omega) (by have := hba.size; omega) ?_
  intro v' w' h1 h2 h3
  refine h v' w' (by simpa [Ou] using h1) ((hba.mono hbase).trans ((Below.refl _ _).grown h2 (by have := hba.size; omega) fun k hk => (ho1.lt k hk).1))
end

end Go.Proofs.YtmhgdddnjnichaaDoor
