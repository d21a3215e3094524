/- Layer 19 (version): slices.Clone of a shelf. -/
import Derived.Test.YtbonapdainlpjaaVe11
import Derived.Lib.SliceRun
set_option linter.unusedSimpArgs false
namespace Go.Proofs.Ytbonapdainlpjaa
open Go.RowKit Go.Sort

set_option maxRecDepth 100000 in
theorem vClone_any (y : Value) (m : List NetX) (w : World) (hy : Gs 3 csX w y m) (hm : m.length ≤ 1000) :
    Calls Try.prog 106 #[y] w fun e w' => ∃ v, e = .returned v ∧ Gw 3 csX w' w.heap.size 95 v m ∧ Below w.heap.size w w' := by
  obtain ⟨a, c, hs⟩ := hy.shape
  subst hs
  cases a with
  | none =>
    have hm0 : m = [] ∧ c = 0 := by
      obtain ⟨_, a', c', he, h2, h3, h4, h5⟩ := hy
      simp only [Value.slice.injEq] at he
      obtain ⟨rfl, _, rfl⟩ := he
      have := h4 rfl
      exact ⟨List.eq_nil_of_length_eq_zero (by omega), this⟩
    obtain ⟨rfl, rfl⟩ := hm0
    have hq := fun W => Lib.run_eql_slice_nil (P := Try.prog) W 91 95 none 0 0 0 0 Try.underlying91
    rw [show (([] : List NetX).length) = 0 from rfl]
    go_enter Try.func106, Try.ntmps106
    go_wp2
    go_ret
    exact ⟨_, rfl, Gw.nil _ _ _, Below.refl _ _⟩
  | some ad =>
    have hq := fun W => Lib.run_eql_slice_nil (P := Try.prog) W 91 95 (some ad) m.length c 0 0 Try.underlying91
    have hal : Below w.heap.size w (w.alloc (.cells #[] 95)) := (Below.refl _ _).alloc (Nat.le_refl _) _
    have hown : Gw 3 csX (w.alloc (.cells #[] 95)) w.heap.size 95 (.slice (some ⟨w.heap.size, 0, none⟩) 0 0) [] := gw_lit layX w 95 #[] [] 0 rfl (by decide) rfl
    have hrd := hy.below hal
    have hz := hal.size
    go_enter Try.func106, Try.ntmps106
    go_wp2_with (at_builtin; go_must (refine wpList_append_gs layX hown hrd elNet (by simp; omega) (by simp; omega) hz ?_ _ _ rfl rfl rfl rfl); intro v3 w3 ho3 hg3 hb3 _)
    go_ret
    refine ⟨_, rfl, ?_, hal.trans hb3⟩
    simpa using ho3

end Go.Proofs.Ytbonapdainlpjaa
