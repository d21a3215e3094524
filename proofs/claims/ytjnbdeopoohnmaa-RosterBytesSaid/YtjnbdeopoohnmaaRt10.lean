/- Layer 56 (roster): a cell of a row's element set anew; Block's closure. -/
import Derived.Test.YtjnbdeopoohnmaaRt9
import Derived.StillTailTactics
import Derived.Deep.RegionLaw
import Derived.Deep.DeepCutAuto
import Derived.Deep.CutBlock
import Derived.Lib.QuietBelow
import Derived.Lib.SliceRun
set_option linter.unusedSimpArgs false
namespace Go.Proofs.Ytjnbdeopoohnmaa
open Go.RowKit Go.Sort

/-- a cell of an element set anew -/
theorem Row.pokeG {α : Type} {s : Nat} {cs : α → List Value} (L : Lay s cs) {w : World} {e G cap i j : Nat} {l : List α} {x y : α} {u : Value} (h : Row s cs w e G cap l) (hi : l[i]? = Option.some x) (hj : j < s) (hy : cs y = (cs x).set j u) :
    Row s cs (w.setCell ⟨G, i * s + j, none⟩ u) e G cap (l.set i y) ∧ Only (fun k => k = G) w (w.setCell ⟨G, i * s + j, none⟩ u) := by
  have hil : i < l.length := (List.getElem?_eq_some_iff.1 hi).1
  obtain ⟨cur, g1, g2, g3⟩ := h.row
  have hle := Nat.mul_le_mul_right s h.le
  have hb : (i + 1) * s ≤ l.length * s := Nat.mul_le_mul_right _ hil
  rw [Nat.succ_mul] at hb
  obtain ⟨c1, k1, k2, k3, k4⟩ := setCells_row G e (cs y) w cur (i * s) g1
  obtain ⟨r1, -⟩ := h.set L i hil y
  obtain ⟨d, e1, e2, e3⟩ := r1.row
  rw [k1] at e1
  simp only [Option.some.injEq, Obj.cells.injEq, and_true] at e1
  subst e1
  obtain ⟨c2, m1, m2, m3, m4⟩ := setCells_row G e [u] w cur (i * s + j) g1
  refine ⟨⟨by simpa using h.le, h.mx, c2, m1, m3.trans g2, ?_⟩, m2⟩
  rw [← e3]
  apply List.ext_getElem?
  intro q
  rw [List.getElem?_take, List.getElem?_take]
  by_cases hq : q < (l.set i y).length * s
  · have hql : q < l.length * s := by simpa using hq
    rw [if_pos hq, if_pos hq, Array.getElem?_toList, Array.getElem?_toList, m4 q (by rw [g2]; omega), k4 q (by rw [g2]; omega), L.len]
    by_cases h5 : q = i * s + j
    · subst h5
      rw [if_pos ⟨by omega, by simp⟩, if_pos ⟨by omega, by omega⟩, Nat.sub_self, Nat.add_sub_cancel_left, hy, List.getElem?_set_self (by rw [L.len]; exact hj)]
      rfl
    · rw [if_neg (by simp; omega)]
      by_cases h6 : i * s ≤ q ∧ q < i * s + s
      · rw [if_pos h6, hy, List.getElem?_set_ne (by omega)]
        obtain ⟨u', hu⟩ : ∃ u', (cs x)[q - i * s]? = Option.some u' := ⟨_, List.getElem?_eq_getElem (by rw [L.len]; omega)⟩
        have := h.cell L hi (j := q - i * s) hu
        rw [show i * s + (q - i * s) = q by omega, cell_of_row w G _ cur e (0, 0) g1] at this
        rw [this, hu]
      · rw [if_neg h6]
  · rw [if_neg hq, if_neg hq]

theorem own_ixA (G n cap t : Nat) (ht : t < n) (W : World) : (Instr.indexAt 38 (.slice (some ⟨G, 0, none⟩) n cap) (.int .i64 (t : Int))).run Try.prog W = .ok (.pointer (some ⟨G, t * 3, none⟩)) W := by
  have hT := elA.1
  have hu : Try.prog.elem 38 = 43 := by simp [Program.elem, hT]
  rw [run_indexAt_slice W 38 _ n cap .i64 t (by rw [hu]; exact hT), if_pos ⟨by omega, by omega⟩, hu, elA.sizeOf]
  simp [Result.andThen, Addr.add_lit]

set_option maxRecDepth 100000 in
set_option maxHeartbeats 1600000 in
theorem rtBlock1_any (G cap i g : Nat) (l : List AcX) (x : AcX) (u : Int) (w : World) (h : Row 3 csA w 43 G cap l) (hx : l[i]? = some x) (hc : w.cell? ⟨g, 0, none⟩ = some (.int .i64 u)) :
    Calls Try.prog 63 #[.pointer (some ⟨G, i * 3, none⟩), .pointer (some ⟨g, 0, none⟩)] w fun e w' => e = .returned (.int .i64 0) ∧ Row 3 csA w' 43 G cap (l.set i (⟨x.1.id, max x.1.bl u, x.1.sp⟩, x.2)) ∧ Only (fun k => k = G) w w' := by
  have c1 := h.cell layA hx (j := 1) rfl
  have f1 := h.free (i * 3 + 1)
  obtain ⟨mx, hmx⟩ : ∃ z, (if x.1.bl < u then u else x.1.bl) = z := ⟨_, rfl⟩
  have HMX : mx = max x.1.bl u := by rw [← hmx]; split <;> omega
  obtain ⟨k1, k2⟩ := (show Row 3 csA w.drew 43 G cap l from ⟨h.le, h.mx, h.row⟩).pokeG layA (y := (⟨x.1.id, mx, x.1.sp⟩, x.2)) (u := .int .i64 mx) hx (by omega : 1 < 3) rfl
  have HK1 := Lib.hid k1
  have HK2 := Lib.hid ((only_drew (Only.refl (fun k => k = G) w)).trans k2)
  have HM := Lib.hid HMX
  obtain ⟨⟨xid, bl, sp⟩, ⟨xa, xn, xc⟩⟩ := x
  simp only at c1 hmx HK1 HM ⊢
  clear h hx k1 k2 HMX
  go_enter Try.func63, Try.ntmps63
  go_wp2_with fail
  go_still_tail 9, (by kernel_rfl)
  change wpList _ _ _ _ _ w.drew
  go_wp2
  go_ret
  exact ⟨rfl, by rw [← HM.out]; exact HK1.out, HK2.out⟩
end Go.Proofs.Ytjnbdeopoohnmaa
