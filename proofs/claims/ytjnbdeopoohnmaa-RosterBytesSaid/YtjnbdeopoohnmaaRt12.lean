/- Layer 56 (roster): Block. -/
import Derived.Test.YtjnbdeopoohnmaaRt11
import Derived.Deep.DeepCutAuto
import Derived.Deep.CutBlock
import Derived.Lib.QuietBelow
import Derived.Lib.SliceRun
set_option linter.unusedSimpArgs false
namespace Go.Proofs.Ytjnbdeopoohnmaa
open Go.RowKit Go.Sort

theorem enter_any {P : Program} {f : FuncId} {fn : Func} (hf : P.funcs[f]? = some fn) (hname : (fn.name == "runtime.NumGoroutine") = false) (hb : fn.body.isSome = true) (args : Array Value) (w : World) : (callFunc f args).run P w = .ok (.enter f args) w := by
  obtain ⟨c, hc⟩ := Option.isSome_iff_exists.1 hb
  have h1 : fn.name ≠ "runtime.NumGoroutine" := by simpa using hname
  simp [callFunc, hf, h1, hc]

theorem aix_le : ∀ (D : List AcD) (id : Int), aix D id ≤ D.length
  | [], _ => Nat.le_refl _
  | x :: r, id => by
    show (if x.id = id then 0 else _) ≤ _
    have := aix_le r id
    split <;> simp <;> omega
theorem turnE_eq (D : List AcD) (id : Int) (may : Bool) (e : Int) : turnE D id may e = turnR D id may (fun _ => e) := by
  unfold turnE turnR
  congr 1
  have h := aix_le D id
  by_cases h2 : aix D id = D.length
  · rw [if_pos h2, List.getElem?_eq_none (by omega)]
  · rw [if_neg h2, List.getElem?_eq_getElem (by omega)]
theorem aone_iw {a : AcD} (h : aone a = true) : IW a.id ∧ IW a.bl ∧ ∀ s ∈ a.sp, IW s.1 ∧ IW s.2 := by
  obtain ⟨h1, h2, h3, h4, h5, h6, h7, h8⟩ := aone_wf h
  refine ⟨⟨by omega, by omega⟩, ⟨by omega, by omega⟩, fun s hs => ?_⟩
  obtain ⟨k, hk⟩ := List.getElem?_of_mem hs
  have hkl := (List.getElem?_eq_some_iff.1 hk).1
  have h9 := spTo_at h8 hkl
  have hw : spW s = true := by
    by_cases h0 : 0 < k
    · rw [spAtS h0 hk (List.getElem?_eq_getElem (by omega))] at h9
      simp only [Bool.and_eq_true] at h9
      exact h9.1
    · obtain rfl : k = 0 := by omega
      rwa [spAt0 hk] at h9
  unfold spW at hw
  simp only [Bool.and_eq_true, decide_eq_true_eq] at hw
  exact ⟨⟨by omega, by omega⟩, ⟨by omega, by omega⟩⟩

theorem block_how (w : World) (g : Nat) (u : Int) (hu : IW u) (hc : w.cell? ⟨g, 0, none⟩ = some (.int .i64 u)) : How w 63 #[.pointer (some ⟨g, 0, none⟩)] (fun _ => 0) (bput u) := by
  intro W G cap i C M x hW hrow hx hone hg hGC hC hwG
  have hlt : g < w.heap.size := by have := World.block_lt_of_cell? w _ hc; simpa using this
  refine (rtBlock1_any G cap i g M x u W hrow hx ((hW.cell hlt).trans hc)).mono ?_
  rintro e w' ⟨rfl, hr, ho⟩
  obtain ⟨q1, q2, q3⟩ := aone_iw hone
  refine ⟨_, rfl, rfl, hr, ⟨(hg.onlyR ho (fun k hk hf => by have := (hg.lt k hk).1; omega)).gs, q1, ?_, q3⟩, ho.below (fun k hk => by omega) hW.size⟩
  show IW (max x.1.bl u)
  unfold IW at *
  omega

set_option maxRecDepth 100000 in
set_option maxHeartbeats 1600000 in
theorem rtBlock_any (v : Value) (l : List AcX) (id u : Int) (w : World) (h : Acs w v l) (hl : ∀ x ∈ l, x.1.sp.length ≤ 100000) (hu : IW u) : Calls Try.prog 30 #[v, .int .i64 id, .int .i64 u] w (RosPost w (blockL (accD l) id u) (blockE (accD l) id u)) := by
  obtain ⟨q, hq⟩ : ∃ q, w.heap.size = q := ⟨_, rfl⟩
  obtain ⟨W, hW⟩ : ∃ W, w.alloc (.cells #[.int .i64 u] 3) = W := ⟨_, rfl⟩
  have hb0 : Below w.heap.size w W := by rw [← hW]; exact (Below.refl _ _).alloc (Nat.le_refl _) _
  have hr0 : W.heap[q]? = some (.cells #[.int .i64 u] 3 (0, 0)) := by rw [← hW, ← hq]; exact heap_alloc_new _ _
  have c0 : W.cell? ⟨q, 0, none⟩ = some (.int .i64 u) := cell_of_row W _ _ _ _ _ hr0
  have C1 := Lib.hid (fun V => within_any u (-1) 1099511627776 V)
  have C2 := Lib.hid (rtTurn_any v l id (bmay u) 63 #[.pointer (some ⟨q, 0, none⟩)] (fun _ => 0) (bput u) W (h.below hb0) hl (block_how W q u hu c0) (fun args V => enter_any Try.func63 (by kernel_rfl) (by kernel_rfl) args V))
  have hE : turnR (accD l) id (bmay u) (fun _ => 0) = blockE (accD l) id u := (turnE_eq _ _ _ _).symm
  have hL : turnL (accD l) id (bmay u) (fun _ => 0) (bput u) = blockL (accD l) id u := by unfold turnL blockL; rw [hE]
  rw [hE, hL] at C2
  have hbm : decide (-1 ≤ u ∧ u ≤ 1099511627776) = bmay u := rfl
  rw [hbm] at C1
  obtain ⟨bm, hbm2⟩ : ∃ b, bmay u = b := ⟨_, rfl⟩
  rw [hbm2] at C1 C2
  have HB := Lib.hid hb0
  obtain ⟨a, c, rfl⟩ := h.1.shape
  obtain ⟨n, hn⟩ : ∃ n, l.length = n := ⟨_, rfl⟩
  rw [hn] at C2 ⊢
  have HQ := Lib.hid hq
  clear h hl hr0 hE hL hbm hbm2 hb0 hn hu
  go_enter Try.func30, Try.ntmps30
  go_wp2_with (go_at_call 47; (with_reducible refine (C1.out _).mono ?_); rintro e w' ⟨rfl, rfl⟩)
  refine C2.out.mono ?_
  rintro e w2 ⟨v2, M, rfl, hM, hD, hb2⟩
  have HM := Lib.hid hM
  have HD := Lib.hid hD
  have HB2 := Lib.hid (HB.out.trans (hb2.mono HB.out.size))
  clear hM hD hb2 C2
  go_wp2
  go_ret2
  exact ⟨v2, M, rfl, HM.out, HD.out, HB2.out⟩
end Go.Proofs.Ytjnbdeopoohnmaa
