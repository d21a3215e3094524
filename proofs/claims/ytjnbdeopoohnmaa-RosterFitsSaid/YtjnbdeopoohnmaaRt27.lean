/- Layer 56 (roster): what lies apart from an account's own block: by its contents. -/
import Derived.Test.YtjnbdeopoohnmaaRt24
import Derived.Test.YtjnbdeopoohnmaaRt26
set_option linter.unusedSimpArgs false
namespace Go.Proofs.Ytjnbdeopoohnmaa
open Go.RowKit Go.Sort

def csJ (x : Int) : List Value := [.int .i64 x]
theorem layJ : Lay 1 csJ := ⟨fun _ => rfl, fun a u h => by simp only [csJ, List.mem_singleton] at h; subst h; rfl, by decide⟩
theorem info_j : (Try.prog.info? 3).map (fun i => (i.zero, i.size, i.bytes)) = some (some (.int .i64 0), 1, 8) := by kernel_rfl
theorem elJ : ElTy Try.prog 50 3 (.int .i64 0) 1 8 := ⟨Try.underlying50, info_parts info_j, rfl, by decide⟩

theorem rd_row {w : World} {s : Nat} {v : Value} {n : Nat} {xs : List Value} {p T : Nat} {A : Array Value} (h : Rd w s v n xs) (h0 : n ≠ 0) (hv : v.ownBlock = some p) (hr : w.heap[p]? = some (.cells A T (0, 0))) : ∃ off, ∀ (j : Nat) (u : Value), xs[j]? = some u → A[off + j]? = some u := by
  obtain ⟨h1, a, c, rfl, h2, h3, h4, h5⟩ := h
  rcases h5 with h5 | ⟨b, off, rfl, hb, hc⟩
  · exact absurd h5 h0
  · simp only [Value.ownBlock, Option.some.injEq] at hv
    subst hv
    exact ⟨off, fun j u hj => by rw [← hc j u hj]; exact (cell_of_row w _ _ _ _ _ hr).symm⟩
/-- spells that are right do not lie where an account lies -/
theorem spells_far {w : World} {v b c : Value} {sp : List SpT} {p T : Nat} {id : Int} (h : Gs 2 csS w v sp) (h0 : afirst sp = true) (h1 : 1 ≤ sp.length) (hr : w.heap[p]? = some (.cells #[.int .i64 id, b, c] T (0, 0))) (hid : 1 ≤ id) (hc : ∀ z, c ≠ .int .i64 z) : v.ownBlock ≠ some p := by
  intro hv
  obtain ⟨off, ho⟩ := rd_row h (by omega) hv hr
  obtain ⟨s, r, rfl⟩ : ∃ s r, sp = s :: r := by
    cases sp with
    | nil => simp at h1
    | cons s r => exact ⟨s, r, rfl⟩
  have hs0 : s.1 = 0 := of_decide_eq_true h0
  have k0 := ho 0 (.int .i64 s.1) rfl
  have k1 := ho 1 (.int .i64 s.2) rfl
  match off with
  | 0 => simp at k0; omega
  | 1 => simp at k1; exact hc _ k1
  | 2 => simp at k0; exact hc _ k0
  | n + 3 => simp at k0
theorem accts_far {w : World} {v a b c : Value} {l : List AcX} {p T : Nat} (h : Gs 3 csA w v l) (h1 : 2 ≤ l.length) (hr : w.heap[p]? = some (.cells #[a, b, c] T (0, 0))) : v.ownBlock ≠ some p := by
  intro hv
  obtain ⟨off, ho⟩ := rd_row h (by omega) hv hr
  obtain ⟨x, y, r, rfl⟩ : ∃ x y r, l = x :: y :: r := by
    match l, h1 with
    | x :: y :: r, _ => exact ⟨x, y, r, rfl⟩
  have k5 := ho 5 (Sl3.v y.2) rfl
  simp at k5
theorem acv_far {w V : World} {x : AcX} {b c : Value} {p T : Nat} {id : Int} (h : AcV w x) (hx : aone x.1 = true) (hr : w.heap[p]? = some (.cells #[.int .i64 id, b, c] T (0, 0))) (hid : 1 ≤ id) (hc : ∀ z, c ≠ .int .i64 z) (ho : Only (fun k => k = p) w V) : AcV V x := by
  obtain ⟨-, -, -, -, h5, h6, h7, h8⟩ := aone_wf hx
  refine ⟨h.1.only ho (fun k hk he => spells_far h.1 h7 h5 hr hid hc (by rw [← he]; exact hk)), h.2⟩
theorem acs_far {w V : World} {v b c : Value} {l : List AcX} {p T : Nat} {id : Int} (h : Acs w v l) (h1 : 2 ≤ l.length) (hx : ∀ x ∈ l, aone x.1 = true) (hr : w.heap[p]? = some (.cells #[.int .i64 id, b, c] T (0, 0))) (hid : 1 ≤ id) (hc : ∀ z, c ≠ .int .i64 z) (ho : Only (fun k => k = p) w V) : Acs V v l :=
  ⟨h.1.only ho (fun k hk he => accts_far h.1 h1 hr (by rw [← he]; exact hk)), fun x hxm => acv_far (h.2 x hxm) (hx x hxm) hr hid hc ho⟩
end Go.Proofs.Ytjnbdeopoohnmaa
