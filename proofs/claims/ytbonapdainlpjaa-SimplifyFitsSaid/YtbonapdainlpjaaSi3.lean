/- slices.Delete of one element at samples. -/
import Derived.Test.YtbonapdainlpjaaSi2
import Derived.Deep.RegionHeld3
import Derived.Deep.CutBlock
import Derived.Deep.RegionLaw
import Derived.Lib.QuietBelow
import Derived.Lib.SliceRun
set_option linter.unusedSimpArgs false
namespace Go.Proofs.Ytbonapdainlpjaa
open Go.RowKit Go.Sort

/-- cells stored into a row, one behind the other -/
theorem setCells_row (g t : Nat) : ∀ (vs : List Value) (w : World) (cs : Array Value) (o : Nat), w.heap[g]? = some (.cells cs t (0, 0)) → ∃ cs' : Array Value, (w.setCells g o vs).heap[g]? = some (.cells cs' t (0, 0)) ∧ Only (fun k => k = g) w (w.setCells g o vs) ∧ cs'.size = cs.size ∧
    ∀ j, j < cs.size → cs'[j]? = if o ≤ j ∧ j < o + vs.length then vs[j - o]? else cs[j]?
  | [], w, cs, o, h => ⟨cs, h, Only.refl _ _, rfl, fun j _ => by rw [if_neg (by intro h; simp at h; omega)]⟩
  | v :: r, w, cs, o, h => by
    have h1 := setCell_eq_setRow w g o cs t _ v h
    have h2 : (w.setCell ⟨g, o, none⟩ v).heap[g]? = some (.cells (cs.setIfInBounds o v) t (0, 0)) := by rw [h1]; exact setRow_heap w g cs _ t _ h
    obtain ⟨cs', k1, k2, k3, k4⟩ := setCells_row g t r (w.setCell ⟨g, o, none⟩ v) (cs.setIfInBounds o v) (o + 1) h2
    refine ⟨cs', k1, (set_only w g o v).trans k2, by rw [k3]; simp, fun j hj => ?_⟩
    rw [k4 j (by simpa using hj)]
    by_cases he : j = o
    · subst he
      rw [if_neg (by omega), if_pos (by simp), Array.getElem?_setIfInBounds_self]
      simp [hj]
    · rw [Array.getElem?_setIfInBounds_ne (by omega)]
      by_cases hr : o + 1 ≤ j ∧ j < o + 1 + r.length
      · rw [if_pos hr, if_pos (by simp; omega), show j - o = (j - (o + 1)) + 1 by omega, List.getElem?_cons_succ]
      · rw [if_neg hr, if_neg (by simp; omega)]

section
variable {α : Type} {s : Nat} {cs : α → List Value}
theorem gcells_app (a b : List α) : gcells cs (a ++ b) = gcells cs a ++ gcells cs b := by simp [gcells]
/-- what a row of the call's own is -/
theorem Gw.open_ {w : World} {B e : Nat} {v : Value} {l : List α} (h : Gw s cs w B e v l) (hl : l ≠ []) :
    ∃ g cap, ∃ cur : Array Value, v = .slice (some ⟨g, 0, none⟩) l.length cap ∧ B ≤ g ∧ w.heap[g]? = some (.cells cur e (0, 0)) ∧ l.length ≤ cap ∧ cap ≤ maxLen ∧ cur.size = cap * s ∧ cur.toList.take (l.length * s) = gcells cs l := by
  obtain ⟨h1, h2⟩ := h
  rcases h2 with ⟨_, h3⟩ | ⟨g, cap, cur, rfl, hg, hh, hn, hm, hs, ht⟩
  · exact absurd (List.eq_nil_of_length_eq_zero h3) hl
  · exact ⟨g, cap, cur, rfl, hg, hh, hn, hm, hs, ht⟩

/-- one element is left out -/
theorem del_gw (L : Lay s cs) {w W : World} {B e g cap : Nat} {l : List α} {cur : Array Value} (i : Nat) (hi : i < l.length) (z : List Value) (hz : z.length = s) (hB : B ≤ g) (hrow : w.heap[g]? = some (.cells cur e (0, 0))) (hcap : l.length ≤ cap) (hmx : cap ≤ maxLen) (hsz : cur.size = cap * s) (ht : cur.toList.take (l.length * s) = gcells cs l)
    (hW : W = (w.setCells g (i * s) (gcells cs (l.drop (i + 1)))).setCells g ((l.length - 1) * s) z) :
    Gw s cs W B e (.slice (some ⟨g, 0, none⟩) (l.length - 1) cap) (l.eraseIdx i) ∧ Only (fun k => k = g) w W ∧ (∀ j, j < cap * s → ((w.setCells g (i * s) (gcells cs (l.drop (i + 1)))).cell? ⟨g, j, none⟩).isSome = true) ∧ ∀ j, (w.setCells g (i * s) (gcells cs (l.drop (i + 1)))).frozen? ⟨g, j, none⟩ = false := by
  obtain ⟨c1, k1, k2, k3, k4⟩ := setCells_row g e (gcells cs (l.drop (i + 1))) w cur (i * s) hrow
  obtain ⟨c2, m1, m2, m3, m4⟩ := setCells_row g e z (w.setCells g (i * s) (gcells cs (l.drop (i + 1)))) c1 ((l.length - 1) * s) k1
  have hle : (l.eraseIdx i).length = l.length - 1 := List.length_eraseIdx_of_lt hi
  have hgl : (gcells cs (l.drop (i + 1))).length = (l.length - (i + 1)) * s := by rw [gcells_len L]; simp
  have hns : l.length * s ≤ cap * s := Nat.mul_le_mul_right _ hcap
  have e1 : (l.length - 1) * s + s = l.length * s := by rw [← Nat.succ_mul]; congr 1; omega
  have e2 : i * s + (l.length - (i + 1)) * s = (l.length - 1) * s := by rw [← Nat.add_mul]; congr 1; omega
  have e3 : i * s + s = (i + 1) * s := (Nat.succ_mul i s).symm
  have e4 : (i + 1) * s ≤ l.length * s := Nat.mul_le_mul_right _ hi
  rw [hW]
  refine ⟨⟨by rw [gcells_len L, hle], .inr ⟨g, cap, c2, by rw [hle], hB, m1, by omega, hmx, by rw [m3, k3, hsz], ?_⟩⟩, k2.trans m2, ?_, ?_⟩
  · rw [hle]
    apply List.ext_getElem?
    intro q
    rw [List.getElem?_take]
    by_cases hq : q < (l.length - 1) * s
    · rw [if_pos hq, Array.getElem?_toList, m4 q (by rw [k3, hsz]; omega), if_neg (by omega), k4 q (by rw [hsz]; omega), List.eraseIdx_eq_take_drop_succ, gcells_app]
      have hgt : (gcells cs (l.take i)).length = i * s := by rw [gcells_len L, List.length_take]; congr 1; omega
      by_cases hqi : q < i * s
      · rw [if_neg (by omega), List.getElem?_append_left (by omega), ← gcells_take L, List.getElem?_take, if_pos hqi, ← ht, List.getElem?_take, if_pos (by omega), Array.getElem?_toList]
      · rw [if_pos (by omega), List.getElem?_append_right (by omega), hgt]
    · rw [if_neg hq, List.getElem?_eq_none (by rw [gcells_len L, hle]; omega)]
  · intro j hj
    rw [cell_of_row _ g j c1 e (0, 0) k1]
    simp [k3, hsz, hj]
  · intro j
    exact row_free k1 j
end

theorem wpList_clear1 {P : Program} {ops : Array Oper} {rest : List Oper} {o : Oper} {a : Act} {w w' : World} {Q : Exit → Act → World → Prop} (hgd : o.guard = none) (x : Operand) (t : TypeId) (v : Value) (hx : a.eval x = v)
    (ho : o.op = .call { callee := .builtin .clear, args := #[x], argTypes := #[t] }) (hrun : (Builtin.clear_ #[t] o.type #[v]).run P w = .ok (.tuple #[]) w')
    (h : wpList P ops Q rest (a.put o.dst (.tuple #[])) w') : wpList P ops Q (o :: rest) a w := by
  refine wpList_plain hgd fun K hK => ?_
  unfold Oper.wp
  simp [execOp, ho, resolve, invoke, builtin, hx, hrun, Result.andThen]
  exact hK _ _ h

theorem run_clear_one {P : Program} (w : World) (t e ty : TypeId) (z : Value) (ht : P.underlying t = some (.slice e)) (hv : ∀ w, (zeroValue e).run P w = .ok z w) (h1 : ∀ u ∈ z.cells.toList, u.oneCell' = true) (b o c : Nat)
    (hc : ∀ j, j < z.cells.toList.length → (w.cell? ⟨b, o + j, none⟩).isSome = true) (hf : ∀ j, j < z.cells.toList.length → w.frozen? ⟨b, o + j, none⟩ = false) :
    (Builtin.clear_ #[t] ty #[.slice (some ⟨b, o, none⟩) 1 c]).run P w = .ok (.tuple #[]) (w.setCells b o z.cells.toList) := by
  have hzc : (Builtin.zeroCells z.cells 1).toList = z.cells.toList := by
    simp [Builtin.zeroCells]
    apply List.ext_getElem
    · simp
    · intro i h1 h2
      simp at h1
      simp only [List.getElem_map, List.getElem_range, Nat.mod_eq_of_lt h1]
      simp [getElem!_def, h1]
  have hst := run_storeCells_cells (P := P) b o z.cells.toList 0 w (by simpa using hc) (by simpa using hf) h1
  simp only [Nat.add_zero] at hst
  simp [Builtin.clear_, run_underlying ht, hv, hzc, hst]

set_option maxRecDepth 100000 in
set_option maxHeartbeats 3200000 in
theorem deleteS_any (v : Value) (l : List Smp) (i : Nat) (B : Nat) (w : World) (h : Gw 3 Smp.cells w B 30 v l) (hi : i < l.length) (hlen : l.length ≤ 1000000) :
    Calls Try.prog 112 #[v, .int .i64 (i : Int), .int .i64 ((i : Int) + 1)] w fun e w' => ∃ v', e = .returned v' ∧ Gw 3 Smp.cells w' B 30 v' (l.eraseIdx i) ∧ v'.ownBlock = v.ownBlock ∧ Only (fun k => v.ownBlock = some k) w w' := by
  have hgs := h.gs
  obtain ⟨g, cap, cur, rfl, hB, hrow, hcap, hmx, hsz, ht⟩ := h.open_ (by intro e; rw [e] at hi; simp at hi)
  obtain ⟨n, hn⟩ : ∃ n, l.length = n := ⟨_, rfl⟩
  have hT := elS.1
  have hel : Try.prog.elem 22 = 30 := by simp [Program.elem, hT]
  have hs := elS.sizeOf
  have hmx' : cap ≤ 9223372036854775807 := by simpa [maxLen] using hmx
  have hcn : n ≤ cap := by omega
  have hin : i < n := by omega
  have R0 : Hid (∃ Y, ∀ W : World, (Instr.sliceAt 22 (.slice (some ⟨g, 0, none⟩) n cap) (some (.int .i64 (i : Int))) (some (.int .i64 ((i : Int) + 1))) (some (.int .i64 (n : Int)))).run Try.prog W = .ok Y W) := ⟨_, fun W => by
    rw [run_sliceAt_slice (h := by rw [hel]; exact hT), run_slice_lhm (ht := by rw [hel]; exact hT) (h0 := by omega) (h1 := by omega) (h2 := by omega) (h3 := by omega), hel, hs]
    rfl⟩
  have R1 : Hid (∀ W : World, (Instr.sliceAt 22 (.slice (some ⟨g, 0, none⟩) n cap) none (some (.int .i64 (i : Int))) none).run Try.prog W = .ok (.slice (some ⟨g, 0, none⟩) i cap) W) := fun W => by
    rw [run_sliceAt_slice (h := by rw [hel]; exact hT), run_slice_h (ht := by rw [hel]; exact hT) (h0 := by omega) (h2 := by omega), hel, hs]
    simp [Result.andThen, sliced, Addr.add_zero']
  have R2 : Hid (∃ A c', (∀ W : World, (Instr.sliceAt 22 (.slice (some ⟨g, 0, none⟩) n cap) (some (.int .i64 ((i : Int) + 1))) none none).run Try.prog W = .ok (.slice (some A) (n - (i + 1)) c') W) ∧ Gs 3 Smp.cells w (.slice (some A) (n - (i + 1)) c') (l.drop (i + 1))) := by
    have hc := hgs.cut layS (i + 1) l.length (by omega) (by omega)
    rw [List.take_of_length_le (by simp), hn] at hc
    refine ⟨if cap = i + 1 then ⟨g, 0, none⟩ else (⟨g, 0, none⟩ : Addr).add ((i + 1) * 3), cap - (i + 1), fun W => ?_, ?_⟩
    · rw [run_sliceAt_slice (h := by rw [hel]; exact hT), run_slice_l (ht := by rw [hel]; exact hT) (h0 := by omega) (h1 := by omega), hel, hs]
      rw [show ((i : Int) + 1).toNat = i + 1 by omega]
      simp only [Result.andThen, sliced]
      split <;> rfl
    · by_cases hce : cap = i + 1
      · rw [if_pos hce] at hc ⊢
        exact hc
      · rw [if_neg hce] at hc ⊢
        exact hc
  have R3 : Hid (∀ W : World, (Instr.sliceAt 22 (.slice (some ⟨g, 0, none⟩) (n - 1) cap) (some (.int .i64 ((n - 1 : Nat) : Int))) (some (.int .i64 (n : Int))) none).run Try.prog W = .ok (.slice (some ⟨g, (n - 1) * 3, none⟩) 1 (cap - (n - 1))) W) := fun W => by
    rw [run_sliceAt_slice (h := by rw [hel]; exact hT), run_slice_lh (ht := by rw [hel]; exact hT) (h0 := by omega) (h1 := by omega) (h2 := by omega), hel, hs]
    rw [show (((n - 1 : Nat) : Int)).toNat = n - 1 by omega, show ((n : Int)).toNat = n by omega]
    simp only [Result.andThen, sliced]
    rw [if_neg (by omega), show n - (n - 1) = 1 by omega]
    simp [Addr.add_lit]
  rw [hn] at hcap ht ⊢
  obtain ⟨Y0, hY0⟩ := R0.out
  obtain ⟨A2, c2, hY2, hg2⟩ := R2.out
  have hY1 := R1.out
  have hY3 := R3.out
  obtain ⟨nw, hnw⟩ : ∃ x, gcells Smp.cells (l.drop (i + 1)) = x := ⟨_, rfl⟩
  have hnl : nw.length = (n - (i + 1)) * 3 := by rw [← hnw, gcells_len layS]; simp [hn]
  have hdel := fun W hW => del_gw (W := W) layS (w := w.drew) (e := 30) i (by omega) [.int .i64 0, .int .i64 0, .int .i64 0] rfl hB hrow (by omega) hmx hsz (by rw [hn]; exact ht) hW
  rw [hnw, hn] at hdel
  obtain ⟨hd1, hd2, hd3, hd4⟩ := hdel _ rfl
  have HND : Hid (∀ j u, nw[j]? = some u → w.drew.cell? (A2.add j) = some u) := by
    intro j u hu
    have hg2' := hg2
    obtain ⟨_, a', c', he, _, _, _, h5⟩ := hg2'
    simp only [Value.slice.injEq] at he
    obtain ⟨rfl, _, rfl⟩ := he
    have hjl := (List.getElem?_eq_some_iff.1 hu).1
    rcases h5 with h5 | ⟨b, off, he, _, h6⟩
    · simp [hn] at h5; omega
    · obtain rfl := Option.some.inj he
      rw [Addr.add_lit]
      exact h6 j u (by rw [hnw]; exact hu)
  have HN1 : Hid (∀ u ∈ nw, u.oneCell' = true) := by rw [← hnw]; exact gcells_one layS _
  have HSP : Hid (∀ j, j < nw.length → (w.drew.cell? ⟨g, 0 + i * 3 + j, none⟩).isSome = true ∧ w.drew.frozen? ⟨g, 0 + i * 3 + j, none⟩ = false) := by
    intro j hj
    have hr : w.drew.heap[g]? = some (.cells cur 30 (0, 0)) := hrow
    refine ⟨?_, row_free hr _⟩
    rw [cell_of_row _ g _ cur 30 (0, 0) hr]
    have : 0 + i * 3 + j < cur.size := by rw [hsz]; omega
    rw [Array.getElem?_eq_getElem this]
    rfl
  obtain ⟨i0, hi0, hz0, hs0, hb0⟩ := elS.2.1
  have HD1 := Lib.hid hd1
  have HD2 := Lib.hid hd2
  have HD3 := Lib.hid hd3
  have HD4 := Lib.hid hd4
  have HNL := Lib.hid hnl
  clear hd1 hd2 hd3 hd4 hdel hnl hnw hrow hgs h ht hg2 R0 R1 R2 R3 hn hlen hi hB
  have e1 : ((i : Int) == (i : Int) + 1) = false := by simp; omega
  go_enter Try.func112, Try.ntmps112
  go_upto_region 5 with fail
  go_region_law (refine step_append_room rfl (.tmp 22) (.tmp 25) 22 rfl 30 i0 3 Try.underlying22 hi0 hs0 g 0 i cap (by simp [Act.eval, Act.put]) A2 (n - (i + 1)) c2 nw (by simp [Act.eval, Act.put]) HNL.out HND.out HN1.out (by omega) HSP.out ?_)
  rw [show i + (n - (i + 1)) = n - 1 by omega]
  try simp only [Nat.zero_add]
  have HD5 : Hid (∀ j, j < 3 → ((w.drew.setCells g (i * 3) nw).cell? ⟨g, (n - 1) * 3 + j, none⟩).isSome = true) := fun j hj => HD3.out _ (by omega)
  have HD6 : Hid (∀ j, j < 3 → (w.drew.setCells g (i * 3) nw).frozen? ⟨g, (n - 1) * 3 + j, none⟩ = false) := fun j _ => HD4.out _
  obtain ⟨W1, hW1⟩ : ∃ W1, w.drew.setCells g (i * 3) nw = W1 := ⟨_, rfl⟩
  rw [hW1] at HD1 HD2 HD5 HD6 ⊢
  have HZV : Hid (∀ w : World, (zeroValue 30).run Try.prog w = .ok (.agg #[.int .i64 0, .int .i64 0, .int .i64 0]) w) := fun w => by simp [zeroValue, typeInfo, hi0, hz0]
  clear hY0 hY1 hY2 e1 hW1 HD3 HD4 hi0 hz0 hs0 hb0
  have hclr := run_clear_one (P := Try.prog) W1 22 30 0 (.agg #[.int .i64 0, .int .i64 0, .int .i64 0]) Try.underlying22 HZV.out (by simp [Value.cells, Value.oneCell']) g ((n - 1) * 3) (cap - (n - 1)) HD5.out HD6.out
  obtain ⟨W2, hW2⟩ : ∃ W2, W1.setCells g ((n - 1) * 3) [.int .i64 0, .int .i64 0, .int .i64 0] = W2 := ⟨_, rfl⟩
  rw [show (Value.agg #[.int .i64 0, .int .i64 0, .int .i64 0]).cells.toList = [.int .i64 0, .int .i64 0, .int .i64 0] from rfl, hW2] at hclr
  rw [hW2] at HD1 HD2
  go_wp2
  go_ret
  exact ⟨_, rfl, HD1.out, rfl, ((only_drew (Only.refl (fun k => k = g) w)).trans HD2.out).mono (fun k _ (hk : k = g) => show some g = some k by rw [hk])⟩

end Go.Proofs.Ytbonapdainlpjaa
