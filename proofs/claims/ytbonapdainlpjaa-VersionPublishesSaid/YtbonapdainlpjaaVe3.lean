/- Layer 15 (graph): slices.ContainsFunc over the stops. -/
import Derived.Test.YtbonapdainlpjaaVe2
import Derived.Deep.CutBlock
set_option linter.unusedSimpArgs false
namespace Go.Proofs.Ytbonapdainlpjaa
open Go.RowKit Go.Sort

def stBad (l : List (Int × Int)) (k : Nat) : Bool := (l.take k).any fun s => !gmay s.1 s.2

theorem stBad_next {l : List (Int × Int)} {k : Nat} {s : Int × Int} (h : l[k]? = some s) : stBad l (k + 1) = (stBad l k || !gmay s.1 s.2) := by
  unfold stBad
  rw [List.take_add_one, h, List.any_append]
  simp
theorem stBad_some {l : List (Int × Int)} {k : Nat} {s : Int × Int} (h : l[k]? = some s) (hb : gmay s.1 s.2 = false) : stBad l l.length = true := by
  unfold stBad
  rw [List.take_length, List.any_eq_true]
  exact ⟨s, List.mem_of_getElem? h, by rw [hb]; rfl⟩

def IdxPost (l : List (Int × Int)) (w : World) (e : Ending) (w' : World) : Prop := ∃ r : Int, e = .returned (.int .i64 r) ∧ (0 ≤ r ↔ stBad l l.length = true) ∧ Below w.heap.size w w'

set_option maxRecDepth 100000 in
theorem sIndex_any (v : Value) (l : List (Int × Int)) (w : World) (h : Gs 2 csS w v l) :
    Calls Try.prog 124 #[v, .func (Fn.func 120) #[] #[]] w (IdxPost l w) := by
  obtain ⟨n, hn⟩ : ∃ n, l.length = n := ⟨_, rfl⟩
  obtain ⟨a, c, b, o, rfl, h1, h2, hix, hlt', hcell, -⟩ := h.open_n layS elSt n hn
  have HC := Lib.hid hcell
  have HN := Lib.hid hn
  have HLT := Lib.hid hlt'
  clear h hn hcell hlt'
  go_enter Try.func124, Try.ntmps124
  go_wp2_with fail
  go_loopw [8, 5] (fun vi v5 wr => ∃ k : Nat, k ≤ n ∧ vi = .int .i64 k ∧ Hid (stBad l k = false) ∧ Hid (Below w.heap.size w wr)) (fun vi _ _ => n - (intOf vi).toNat)
  case atStart => exact ⟨0, by omega, rfl, rfl, Below.refl _ _⟩
  case round =>
    obtain ⟨k, hk, rfl, HP, HB⟩ := hrel
    by_cases hlt : k < n
    · have e1 : (k : Int) < n := by omega
      obtain ⟨s, hs⟩ : ∃ s, l[k]? = some s := ⟨_, List.getElem?_eq_getElem (by have := HN.out; omega)⟩
      have c0 := HC.out k s hs 0 _ rfl
      have c1 := HC.out k s hs 1 _ rfl
      rw [Nat.add_zero] at c0
      have hbl := HLT.out k hlt
      rw [← HB.out.cell (by exact hbl)] at c0 c1
      have hixk := fun W => hix W k hlt
      obtain ⟨x, y⟩ := s
      simp only at c0 c1
      have CG := Lib.hid (fun V => gStop1_any x y V)
      obtain ⟨g, hg⟩ : ∃ g, gmay x y = g := ⟨_, rfl⟩
      rw [hg] at CG
      have HS := Lib.hid hs
      have HG := Lib.hid hg
      clear hs hg hbl
      go_wp2_with fail
      refine (CG.out wr).mono ?_
      rintro e w2 ⟨rfl, hb2⟩
      have HB2 := Lib.hid (HB.out.trans (hb2.mono HB.out.size))
      clear hb2 c0 c1
      cases g with
      | true =>
        have hf : Hid (stBad l (k + 1) = false) := by show _ = _; rw [stBad_next HS.out, HP.out, HG.out]; rfl
        go_wp2
        go_roundw
        case rel => exact ⟨k + 1, by omega, by go_num, hf, HB2⟩
        case measure => simp [intOf]; omega
      | false =>
        have hf := stBad_some HS.out HG.out
        have HF := Lib.hid hf
        clear hf
        go_wp2
        go_ret
        exact ⟨(k : Int), rfl, ⟨fun _ => HF.out, fun _ => by omega⟩, HB2.out⟩
    · obtain rfl : k = n := by omega
      have e1 : ¬ (k : Int) < k := by omega
      go_wp2
      go_ret
      refine ⟨-1, rfl, ⟨fun h => absurd h (by decide), fun h => ?_⟩, HB.out⟩
      rw [HN.out, HP.out] at h
      exact absurd h (by decide)

theorem sContains_any (v : Value) (l : List (Int × Int)) (w : World) (h : Gs 2 csS w v l) :
    Calls Try.prog 119 #[v, .func (Fn.func 120) #[] #[]] w fun e w' => e = .returned (.bool (stBad l l.length)) ∧ Below w.heap.size w w' := by
  have C := Lib.hid (sIndex_any v l w h)
  unfold IdxPost at C
  obtain ⟨a, c, rfl⟩ := h.shape
  obtain ⟨b, hb⟩ : ∃ b, stBad l l.length = b := ⟨_, rfl⟩
  rw [hb] at C ⊢
  obtain ⟨n, hn⟩ : ∃ n, l.length = n := ⟨_, rfl⟩
  rw [hn] at C ⊢
  clear h hb hn
  go_enter Try.func119, Try.ntmps119
  go_wp2_with fail
  refine C.out.mono ?_
  rintro e w2 ⟨r, rfl, hr, hb2⟩
  have HB := Lib.hid hb2
  have hd : decide (0 ≤ r) = b := by cases b <;> simp_all
  have HD := Lib.hid hd
  clear hb2 hr hd
  go_wp2
  go_ret
  exact ⟨ret_bool HD.out, HB.out⟩

end Go.Proofs.Ytbonapdainlpjaa
