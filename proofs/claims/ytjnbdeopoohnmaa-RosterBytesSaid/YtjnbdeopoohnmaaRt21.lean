/- Layer 56 (roster): Set. -/
import Derived.Test.YtjnbdeopoohnmaaRt20
import Derived.Deep.RegionLaw
import Derived.Deep.DeepCutAuto
import Derived.Deep.CutBlock
import Derived.Lib.QuietBelow
import Derived.Lib.SliceRun
set_option linter.unusedSimpArgs false
namespace Go.Proofs.Ytjnbdeopoohnmaa
open Go.RowKit Go.Sort

theorem spell_iw {a : AcD} (h : aone a = true) : ∀ s ∈ a.sp, IW s.1 ∧ IW s.2 := (aone_iw h).2.2

theorem set_how (w : World) (gf gc : Nat) (f c : Int) (hf : IW f) (hc : IW c) (h1 : w.cell? ⟨gf, 0, none⟩ = some (.int .i64 f)) (h2 : w.cell? ⟨gc, 0, none⟩ = some (.int .i64 c)) : How w 49 #[.pointer (some ⟨gf, 0, none⟩), .pointer (some ⟨gc, 0, none⟩)] (setE f c) (setF f c) := by
  intro W G cap i C M x hW hrow hx hone hg hGC hC hwG
  have hlf : gf < w.heap.size := by have := World.block_lt_of_cell? w _ h1; simpa using this
  have hlc : gc < w.heap.size := by have := World.block_lt_of_cell? w _ h2; simpa using this
  refine (rtS1_any G cap i gf gc C M x f c W hrow hx hone hg hGC hC ((hW.cell hlf).trans h1) ((hW.cell hlc).trans h2) (by omega) (by omega)).mono ?_
  rintro e w' ⟨y, rfl, hy, hid, hr, hs, hb⟩
  obtain ⟨q1, q2, q3⟩ := aone_iw hone
  refine ⟨y, rfl, hy, hr, ⟨hs, by rw [hid]; exact q1, by rw [hy]; exact q2, fun s hm => ?_⟩, hb _ hwG⟩
  rw [hy] at hm
  rcases sset_sub hm with h | rfl
  · exact q3 s h
  · exact ⟨hf, hc⟩

def smay (f c : Int) : Bool := decide (0 ≤ f ∧ f ≤ 1099511627776) && decide (0 ≤ c ∧ c ≤ 15)
def setR (D : List AcD) (id f c : Int) : Int := turnR D id (smay f c) (setE f c)
def setL (D : List AcD) (id f c : Int) : List AcD := turnL D id (smay f c) (setE f c) (setF f c)

set_option maxRecDepth 100000 in
set_option maxHeartbeats 1600000 in
theorem rtSet_any (v : Value) (l : List AcX) (id f c : Int) (w : World) (h : Acs w v l) (hl : ∀ x ∈ l, x.1.sp.length ≤ 100000) (hf : IW f) (hc : IW c) : Calls Try.prog 23 #[v, .int .i64 id, .int .i64 f, .int .i64 c] w (RosPost w (setL (accD l) id f c) (setR (accD l) id f c)) := by
  unfold setL setR
  obtain ⟨q, hq⟩ : ∃ q, w.heap.size = q := ⟨_, rfl⟩
  obtain ⟨W0, hW0⟩ : ∃ W, w.alloc (.cells #[.int .i64 f] 3) = W := ⟨_, rfl⟩
  have hb00 : Below w.heap.size w W0 := by rw [← hW0]; exact (Below.refl _ _).alloc (Nat.le_refl _) _
  have hr00 : W0.heap[q]? = some (.cells #[.int .i64 f] 3 (0, 0)) := by rw [← hW0, ← hq]; exact heap_alloc_new _ _
  obtain ⟨p, hp⟩ : ∃ p, W0.heap.size = p := ⟨_, rfl⟩
  obtain ⟨W, hW⟩ : ∃ W, W0.alloc (.cells #[.int .i64 c] 3) = W := ⟨_, rfl⟩
  have hb0W : Below W0.heap.size W0 W := by rw [← hW]; exact (Below.refl _ _).alloc (Nat.le_refl _) _
  have hb0 : Below w.heap.size w W := hb00.trans (hb0W.mono hb00.size)
  have hr0 : W.heap[p]? = some (.cells #[.int .i64 c] 3 (0, 0)) := by rw [← hW, ← hp]; exact heap_alloc_new _ _
  have c0 : W.cell? ⟨q, 0, none⟩ = some (.int .i64 f) := cell_of_row W _ _ _ _ _ ((hb0W.block q (heap_lt hr00)).trans hr00)
  have c1 : W.cell? ⟨p, 0, none⟩ = some (.int .i64 c) := cell_of_row W _ _ _ _ _ hr0
  have C1 := Lib.hid (fun V => within_any f 0 1099511627776 V)
  have C3 := Lib.hid (fun V => within_any c 0 15 V)
  have C2 := Lib.hid (rtTurn_any v l id (smay f c) 49 #[.pointer (some ⟨q, 0, none⟩), .pointer (some ⟨p, 0, none⟩)] (setE f c) (setF f c) W (h.below hb0) hl (set_how W q p f c hf hc c0 c1) (fun args V => enter_any Try.func49 (by kernel_rfl) (by kernel_rfl) args V))
  obtain ⟨PL, hPL⟩ : ∃ P, turnL (accD l) id (smay f c) (setE f c) (setF f c) = P := ⟨_, rfl⟩
  obtain ⟨PE, hPE⟩ : ∃ P, turnR (accD l) id (smay f c) (setE f c) = P := ⟨_, rfl⟩
  rw [hPL, hPE] at C2 ⊢
  obtain ⟨b1, hb1⟩ : ∃ b, decide (0 ≤ f ∧ f ≤ 1099511627776) = b := ⟨_, rfl⟩
  obtain ⟨b3, hb3⟩ : ∃ b, decide (0 ≤ c ∧ c ≤ 15) = b := ⟨_, rfl⟩
  have hsm : smay f c = (b1 && b3) := by unfold smay; rw [hb1, hb3]
  rw [hsm] at C2
  rw [hb1] at C1
  rw [hb3] at C3
  have HB := Lib.hid hb0
  obtain ⟨a, cc, rfl⟩ := h.1.shape
  obtain ⟨n, hn⟩ : ∃ n, l.length = n := ⟨_, rfl⟩
  rw [hn] at C2 ⊢
  clear h hl hr0 hr00 hb0 hb00 hb0W hn hf hc hPL hPE hb1 hb3 hsm
  go_enter Try.func23, Try.ntmps23
  cases b1 with
  | false =>
    go_wp2_with (go_at_call 47; first | ((with_reducible refine (C1.out _).mono ?_); rintro e w' ⟨rfl, rfl⟩))
    refine C2.out.mono ?_
    rintro e w2 ⟨v2, M, rfl, hM, hD, hb2⟩
    have HM := Lib.hid hM
    have HD := Lib.hid hD
    have HB2 := Lib.hid (HB.out.trans (hb2.mono HB.out.size))
    clear hM hD hb2 C2
    go_wp2
    go_ret2
    exact ⟨v2, M, rfl, HM.out, HD.out, HB2.out⟩
  | true =>
    go_wp2_with (go_at_call 47; first | ((with_reducible refine (C1.out _).mono ?_); rintro e w' ⟨rfl, rfl⟩) | ((with_reducible refine (C3.out _).mono ?_); rintro e w' ⟨rfl, rfl⟩))
    refine C2.out.mono ?_
    rintro e w2 ⟨v2, M, rfl, hM, hD, hb2⟩
    have HM := Lib.hid hM
    have HD := Lib.hid hD
    have HB2 := Lib.hid (HB.out.trans (hb2.mono HB.out.size))
    clear hM hD hb2 C2
    go_wp2
    go_ret2
    exact ⟨v2, M, rfl, HM.out, HD.out, HB2.out⟩
end Go.Proofs.Ytjnbdeopoohnmaa
