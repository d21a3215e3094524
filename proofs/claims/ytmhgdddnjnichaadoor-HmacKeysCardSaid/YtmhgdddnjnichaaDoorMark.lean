/- Bytes made out of a string: a row that bears the run-time's mark behind its last cell; appended to. No function of the program stands here. -/
import Derived.Test.YtmhgdddnjnichaaDoorFoot
import Derived.Laws.IdiomStrings
namespace Go.Proofs.YtmhgdddnjnichaaDoor
open Go.RowKit

/-- bytes of the call's own, or of a string: with the mark behind the last cell -/
def Om (w : World) (B e : Nat) (v : Value) (l : List UInt8) : Prop :=
  Ob w B e v l ∨ ∃ g cap cur, v = .slice (some ⟨g, 0, none⟩) l.length cap ∧ B ≤ g ∧ w.heap[g]? = some (.cells cur e (cap, cap + 1)) ∧ l.length ≤ cap ∧ cap ≤ maxLen ∧ cur.size = cap ∧ cur.toList.take l.length = l.map bv

section
variable {w w' : World} {B e : Nat} {v : Value} {l : List UInt8}
theorem Om.bs (h : Om w B e v l) : Bs w v l := by
  rcases h with h | ⟨g, cap, cur, rfl, hB, hg, h1, h2, h3, h4⟩
  · exact h.bs
  · refine ⟨by simp, _, cap, rfl, h1, h2, by simp, .inr ⟨g, 0, rfl, heap_lt hg, fun j u hu => ?_⟩⟩
    rw [cell_of_row w g (0 + j) cur e _ hg]
    rw [← h4, List.getElem?_take] at hu
    split at hu
    · simpa using hu
    · cases hu
theorem Om.below (h : Om w B e v l) (hb : Below w.heap.size w w') : Om w' B e v l := by
  rcases h with h | ⟨g, cap, cur, rfl, hB, hg, r⟩
  · exact .inl (Ob.below h hb)
  · exact .inr ⟨g, cap, cur, rfl, hB, (hb.block g (heap_lt hg)).trans hg, r⟩
theorem Om.mono {B' : Nat} (h : Om w B e v l) (hB' : B' ≤ B) : Om w B' e v l := by
  rcases h with h | ⟨g, cap, cur, rfl, hB, r⟩
  · exact .inl (h.mono hB')
  · exact .inr ⟨g, cap, cur, rfl, by omega, r⟩
end

theorem run_storeCells_mark {P : Program} (g o : Nat) (t : TypeId) (cap : Nat) : ∀ (vs : List Value) (i : Nat) (cur : Array Value) (w : World), w.heap[g]? = some (.cells cur t (cap, cap + 1)) → cur.size = cap → o + i + vs.length ≤ cur.size → (∀ v ∈ vs, v.oneCell' = true) →
    (storeCells ⟨g, o, none⟩ vs i).run P w = .ok () (w.setRow g (cur.toList.take (o + i) ++ vs ++ cur.toList.drop (o + i + vs.length)).toArray)
  | [], i, cur, w, hg, _, _, _ => by
    simp only [storeCells, List.append_nil, List.length_nil, Nat.add_zero, List.take_append_drop, Array.toArray_toList]
    rw [setRow_self w g cur t _ hg]
    rfl
  | v :: rest, i, cur, w, hg, hs, hl, h1 => by
    have hi : o + i < cur.size := by simp at hl; omega
    have hadd : (⟨g, o, none⟩ : Addr).add i = ⟨g, o + i, none⟩ := by unfold Addr.add; split <;> simp_all
    have hcell : w.cell? ⟨g, o + i, none⟩ = some cur[o + i] := by simp [World.cell?, hg, hi]
    have hfro : w.frozen? ⟨g, o + i, none⟩ = false := by
      simp only [World.frozen?, hg]
      simp
      omega
    have hst : (store ((⟨g, o, none⟩ : Addr).add i) v).run P w = .ok () (w.setRow g (cur.setIfInBounds (o + i) v)) := by
      rw [hadd, run_store P w _ v _ (h1 v (by simp)), hcell]
      simp [hfro, setCell_eq_setRow w g (o + i) cur t _ v hg]
    have ih := run_storeCells_mark (P := P) g o t cap rest (i + 1) (cur.setIfInBounds (o + i) v) (w.setRow g (cur.setIfInBounds (o + i) v)) (setRow_heap w g cur _ t _ hg) (by simpa using hs) (by simp at hl ⊢; omega) (fun x hx => h1 x (by simp [hx]))
    simp only [storeCells, Sem.run_bind, hst, Result.andThen_ok, ih, setRow_setRow]
    congr 3
    have e := list_seg_step cur.toList (o + i) v rest (by simp at hl ⊢; omega)
    simpa [Array.toList_setIfInBounds, Nat.add_assoc] using e

section
variable {P : Program} {t e : TypeId} {z : Value} {bytes : Nat} {w : World} {ops : Array Oper} {rest : List Oper} {o : Oper} {a : Act} {Q : Exit → Act → World → Prop} {base : Nat} {v : Value} {l : List UInt8}

theorem wp_append_mark {K : Act → World → Prop} (hown : Om w base e v l) {y : Value} {m : List UInt8} (hrd : Bs w y m) (E : ElTy P t e z 1 bytes) (h63 : (l.length + m.length) * bytes ≤ 140737488355328) (hmx : l.length + m.length ≤ 9223372036854775807) (hbase : base ≤ w.heap.size)
    (h : ∀ v' w', Om w' base e v' (l ++ m) → Below base w w' → K (a.put o.dst v') w')
    (so xo : Operand) (ho : o.op = .call { callee := .builtin .append, args := #[so, xo], argTypes := #[t, t] })
    (hs : a.eval so = v) (hx : a.eval xo = y) : o.wp P a w K Q := by
  rcases hown with hown | ⟨g, cap, cur, rfl, hB, hg, hnc, hcm, hcs, htake⟩
  · refine wp_append_mv so xo t ho E base v l.length (l.map bv) y m.length (m.map bv) hs hown hx hrd (bv_one m) (by simpa [maxLen] using hmx) h63 hbase ?_
    intro v' w' h1 h2 _
    exact h v' w' (.inl (by simpa [Ob] using h1)) ((Below.refl _ _).grown h2 hbase fun k hk => (World.ownsRow.lt hown k hk).1)
  · obtain ⟨ht, ⟨i, hi, hz, hsz, hby⟩, hzs, hp⟩ := E
    have fin : ∀ v' w', (Builtin.append_ #[t, t] o.type #[.slice (some ⟨g, 0, none⟩) l.length cap, y]).run P w = .ok v' w' → K (a.put o.dst v') w' → o.wp P a w K Q := fun v' w' hr hk => by
      unfold Oper.wp execOp
      simp only [ho, resolve, invoke, builtin, Sem.run_bind, Sem.run_pure, Result.andThen_ok, List.map_toArray, List.map_cons, List.map_nil, hs, hx, hr]
      exact hk
    have key : ∀ (ad : Addr) c, y = .slice (some ad) m.length c → (∀ j u, (m.map bv)[j]? = some u → w.cell? (ad.add j) = some u) → o.wp P a w K Q := fun ad c hy hc => by
      subst hy
      by_cases hroom : l.length + m.length ≤ cap
      · have hf := run_firstCells_some (P := P) w i.size m.length ad m.length c (m.map bv) (by simp [hsz]) hc
        have hst := run_storeCells_mark (P := P) g (l.length * i.size) e cap (m.map bv) 0 cur w hg hcs (by simp [hsz, hcs]; omega) (bv_one m)
        simp only [Nat.add_zero] at hst
        refine fin (.slice (some ⟨g, 0, none⟩) (l.length + m.length) cap) (w.setRow g (cur.toList.take (l.length * i.size) ++ m.map bv ++ cur.toList.drop (l.length * i.size + (m.map bv).length)).toArray) ?_ (h _ _ (.inr ⟨g, cap, _, by simp, hB, setRow_heap w g cur _ e _ hg, by simpa using hroom, hcm, ?_, ?_⟩) ⟨rfl, rfl, rfl, by simp, fun k hk => setRow_other w g k _ (fun e => by omega)⟩)
        · simp [Builtin.append_, run_underlying ht, sizeOf, typeInfo, hi, Builtin.lenOf, hroom, hf, Addr.add_lit, hst]
        · simp only [List.size_toArray, List.length_append, List.length_take, List.length_drop, Array.length_toList, List.length_map, hsz, Nat.mul_one, hcs]
          omega
        · simp only [hsz, Nat.mul_one, List.map_append, List.length_append, htake]
          rw [← List.length_map (f := bv) (as := l), ← List.length_map (f := bv) (as := m), ← List.length_append]
          exact List.take_left
      · have holds : ∀ j u, (l.map bv)[j]? = some u → w.cell? ((⟨g, 0, none⟩ : Addr).add j) = some u := by
          intro j u hu
          rw [Addr.add_lit, cell_of_row w g (0 + j) cur e _ hg]
          rw [← htake, List.getElem?_take] at hu
          split at hu
          · simpa using hu
          · cases hu
        have hr := run_append_grow (P := P) w t o.type e i z ht hi hz ⟨g, 0, none⟩ l.length cap (l.map bv) (by simp [hsz]) holds ad m.length c (m.map bv) (by simp [hsz]) hc (by omega) (by omega) (growslice_fits (by omega) (by rw [hby]; exact h63))
        have hge := grownCap_ge w (l.length + m.length) cap e
        have hcm2 : grownCap w (l.length + m.length) cap e ≤ maxLen := grownCap_le_maxLen w (l.length + m.length) cap e (by simpa [maxLen] using hmx)
        refine fin _ _ hr (h _ _ (.inl ⟨by simp, .inr ⟨w.heap.size, _, _, by simp, hbase, heap_alloc_new w.drew _, by simpa using hge, hcm2, ?_, ?_⟩⟩) (((Below.refl _ _).drew).alloc hbase _))
        · simp only [Array.size_append, List.size_toArray, size_zeroCells, hzs, List.length_map]
          omega
        · simp only [Array.toList_append, List.append_assoc, List.map_append]
          rw [← List.append_assoc]
          rw [show (l ++ m).length * 1 = (l.map bv ++ m.map bv).length by simp]
          exact List.take_left
    obtain ⟨hl, b, c, hy, h2, h3, h4, h5⟩ := id hrd
    rcases h5 with h0 | ⟨g', off, rfl, hlt, hc⟩
    · have hm : m = [] := List.eq_nil_of_length_eq_zero h0
      cases b with
      | none =>
        obtain rfl := h4 rfl
        subst hm
        subst hy
        refine fin (.slice (some ⟨g, 0, none⟩) l.length cap) w ?_ (h _ w (.inr ⟨g, cap, cur, by simp, hB, hg, by simpa using hnc, hcm, hcs, by simpa using htake⟩) (Below.refl _ _))
        simp [Builtin.append_, run_underlying ht, sizeOf, typeInfo, hi, Builtin.lenOf, Builtin.firstCells, hnc, storeCells]
      | some ad => exact key ad c hy (by simp [hm])
    · exact key _ c hy fun j u hu => by rw [Addr.add_lit]; exact hc j u hu

theorem wpList_append_mark (hown : Om w base e v l) {y : Value} {m : List UInt8} (hrd : Bs w y m) (E : ElTy P t e z 1 bytes) (h63 : (l.length + m.length) * bytes ≤ 140737488355328) (hmx : l.length + m.length ≤ 9223372036854775807) (hbase : base ≤ w.heap.size)
    (h : ∀ v' w', Om w' base e v' (l ++ m) → Below base w w' → wpList P ops Q rest (a.put o.dst v') w')
    (so xo : Operand) (hgd : o.guard = none) (ho : o.op = .call { callee := .builtin .append, args := #[so, xo], argTypes := #[t, t] })
    (hs : a.eval so = v) (hx : a.eval xo = y) : wpList P ops Q (o :: rest) a w :=
  wpList_plain hgd fun _ hK => wp_append_mark hown hrd E h63 hmx hbase (fun v' w' h2 h3 => hK _ _ (h v' w' h2 h3)) so xo ho hs hx

/-- an append of bytes written out just ahead of it -/
theorem wpList_append_mark_lit (hown : Om w base e v l) (m : List UInt8) (n : Nat) (hn : m.length = n) (E : ElTy P t e z 1 bytes) (h63 : (l.length + m.length) * bytes ≤ 140737488355328) (hmx : l.length + m.length ≤ 9223372036854775807) (hbase : base ≤ w.heap.size)
    (h : ∀ v' w', Om w' base e v' (l ++ m) → Below base w w' → wpList P ops Q rest (a.put o.dst v') w')
    (so xo : Operand) (hgd : o.guard = none) (ho : o.op = .call { callee := .builtin .append, args := #[so, xo], argTypes := #[t, t] })
    (cs : Array Value) (hs : a.eval so = v) (hx : a.eval xo = .slice (some ⟨w.heap.size, 0, none⟩) n n)
    (hc : cs.toList = m.map bv) : wpList P ops Q (o :: rest) a (w.alloc (.cells cs e)) := by
  have hx1 := ob_lit w e cs m n hn (by simp [maxLen]; omega) hc
  have hba : Below w.heap.size w (w.alloc (.cells cs e)) := (Below.refl _ _).alloc (Nat.le_refl _) _
  refine wpList_append_mark (hown.below hba) hx1.bs E h63 hmx (by have := hba.size; omega) ?_ so xo hgd ho hs hx
  intro v' w' h1 h2
  exact h v' w' h1 ((hba.mono hbase).trans h2)

/-- '[]byte(s)' -/
theorem run_mark (w : World) (src : TypeId) (s : ByteArray) (hs : P.underlying src = some .string) (ht : P.underlying t = some (.slice e)) (he : P.underlying e = some (.int .u8)) (hm : s.size ≤ maxLen) :
    ∃ v w', (convert src t (.string s)).run P w = .ok v w' ∧ Om w' w.heap.size e v s.data.toList ∧ Below w.heap.size w w' := by
  have hge := grownCap_ge w s.size 0 e
  have hcm : grownCap w s.size 0 e ≤ maxLen := grownCap_le_maxLen w s.size 0 e hm
  have hsz : s.data.toList.length = s.size := by rw [Array.length_toList]; rfl
  have hrow : (bytesRow s (grownCap w s.size 0 e)).size = grownCap w s.size 0 e := by
    have h1 : s.data.size = s.size := rfl
    unfold bytesRow
    rw [Array.size_append, Array.size_map, Array.size_replicate]
    omega
  refine ⟨_, _, run_bytes_of_string w src t e s hs ht he, .inr ⟨w.heap.size, grownCap w s.size 0 e, bytesRow s (grownCap w s.size 0 e), by rw [hsz], Nat.le_refl _, ?_, by rw [hsz]; exact hge, hcm, hrow, ?_⟩, ((Below.refl _ _).drew).alloc (Nat.le_refl _) _⟩
  · rw [hrow]
    exact heap_alloc_new w.drew _
  · rw [hsz]
    have h1 : (bytesRow s (grownCap w s.size 0 e)).toList = s.data.toList.map bv ++ List.replicate (grownCap w s.size 0 e - s.size) (.int .u8 0) := by
      simp [bytesRow]
      intro a _
      rfl
    rw [h1, ← hsz, ← List.length_map (f := bv)]
    exact List.take_left
end

end Go.Proofs.YtmhgdddnjnichaaDoor
