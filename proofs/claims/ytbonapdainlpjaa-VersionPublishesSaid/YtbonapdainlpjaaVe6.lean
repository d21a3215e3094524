/- Layer 19 (version): shelves of networks that are read; few. -/
import Derived.Test.YtbonapdainlpjaaVe5
import Derived.Deep.CutBlock
set_option linter.unusedSimpArgs false
namespace Go.Proofs.Ytbonapdainlpjaa
open Go.RowKit Go.Sort

abbrev Sl3 := Option Addr × Nat × Nat
def Sl3.v (t : Sl3) : Value := .slice t.1 t.2.1 t.2.2
/-- a network as it stands in a shelf -/
abbrev NetX := Net × Sl3 × Sl3
def csX (x : NetX) : List Value := [.int .i64 x.1.ver, Sl3.v x.2.1, Sl3.v x.2.2]
theorem layX : Lay 3 csX := ⟨fun _ => rfl, fun a u h => by simp only [csX, List.mem_cons, List.not_mem_nil, or_false] at h; rcases h with rfl | rfl | rfl <;> rfl, by decide⟩
theorem elNet : ElTy Try.prog 91 95 (.agg #[.int .i64 0, .slice none 0 0, .slice none 0 0]) 3 56 := ⟨Try.underlying91, info_parts info_net, rfl, by decide⟩
/-- a shelf that is read -/
def Nets (w : World) (v : Value) (l : List NetX) : Prop := Gs 3 csX w v l ∧ ∀ x ∈ l, NetV w x.1 (Sl3.v x.2.1) (Sl3.v x.2.2)
theorem Nets.below {w w' : World} {v : Value} {l : List NetX} (h : Nets w v l) (hb : Below w.heap.size w w') : Nets w' v l := ⟨h.1.below hb, fun x hx => (h.2 x hx).below hb⟩

def vfewTo (l : List NetX) (k : Nat) : Bool := (l.take k).all fun x => gfew x.1
def vfew (l : List NetX) : Bool := vfewTo l l.length && decide (l.length ≤ 70)
theorem vfewTo_next {l : List NetX} {k : Nat} {x : NetX} (h : l[k]? = some x) : vfewTo l (k + 1) = (vfewTo l k && gfew x.1) := by
  unfold vfewTo
  rw [List.take_add_one, h, List.all_append]
  simp
theorem vfewTo_no {l : List NetX} {k : Nat} {x : NetX} (h : l[k]? = some x) (hf : gfew x.1 = false) : vfewTo l l.length = false := by
  unfold vfewTo
  rw [List.take_length, List.all_eq_false]
  exact ⟨x, List.mem_of_getElem? h, by rw [hf]; simp⟩

set_option maxRecDepth 100000 in
theorem vFew_any (v : Value) (l : List NetX) (w : World) (h : Nets w v l) : Calls Try.prog 65 #[v] w fun e w' => e = .returned (.bool (vfew l)) ∧ Below w.heap.size w w' := by
  obtain ⟨n, hn⟩ : ∃ n, l.length = n := ⟨_, rfl⟩
  obtain ⟨a, c, b, o, rfl, h1, h2, hix, hlt', hcell, -⟩ := h.1.open_n layX elNet n hn
  have HC := Lib.hid hcell
  have HN := Lib.hid hn
  have HLT := Lib.hid hlt'
  have HX := Lib.hid h.2
  have HV : Hid (vfew l = (vfewTo l n && decide (n ≤ 70))) := by show _ = _; unfold vfew; rw [hn]
  have HNO : Hid (∀ (k : Nat) (x : NetX), l[k]? = some x → gfew x.1 = false → vfewTo l n = false) := fun k x h1 h2 => by rw [← hn]; exact vfewTo_no h1 h2
  obtain ⟨R, hR⟩ : ∃ R, vfew l = R := ⟨_, rfl⟩
  rw [hR] at HV ⊢
  clear h hn hcell hlt' hR
  go_enter Try.func65, Try.ntmps65
  go_wp2_with fail
  go_loopw [7, 4] (fun vi v4 wr => ∃ k : Nat, k ≤ n ∧ vi = .int .i64 k ∧ Hid (vfewTo l k = true) ∧ Hid (Below w.heap.size w wr)) (fun vi _ _ => n - (intOf vi).toNat)
  case atStart => exact ⟨0, by omega, rfl, rfl, Below.refl _ _⟩
  case round =>
    obtain ⟨k, hk, rfl, HP, HB⟩ := hrel
    by_cases hlt : k < n
    · have e2 : (k : Int) < n := by omega
      obtain ⟨x, hs⟩ : ∃ s, l[k]? = some s := ⟨_, List.getElem?_eq_getElem (by have := HN.out; omega)⟩
      have c0 := HC.out k x hs 0 _ rfl
      have c1 := HC.out k x hs 1 _ rfl
      have c2 := HC.out k x hs 2 _ rfl
      rw [Nat.add_zero] at c0
      have hbl := HLT.out k hlt
      rw [← HB.out.cell (by exact hbl)] at c0 c1 c2
      have hixk := fun W => hix W k hlt
      have hnv := (HX.out x (List.mem_of_getElem? hs)).below HB.out
      obtain ⟨nt, ⟨xa, xn, xc⟩, ⟨ya, yn, yc⟩⟩ := x
      obtain ⟨ver, st, ln⟩ := nt
      unfold Sl3.v at c1 c2 hnv
      simp only at c0 c1 c2 hnv
      obtain ⟨W2, hW2⟩ : ∃ V, wr.alloc (.cells #[.int .i64 ver, .slice xa xn xc, .slice ya yn yc] 95) = V := ⟨_, rfl⟩
      obtain ⟨q2, hq2⟩ : ∃ x, wr.heap.size = x := ⟨_, rfl⟩
      have hr2 : W2.heap[q2]? = some (.cells #[.int .i64 ver, .slice xa xn xc, .slice ya yn yc] 95 (0, 0)) := by rw [← hW2, ← hq2]; exact heap_alloc_new _ _
      have hb2 : Below wr.heap.size wr W2 := by rw [← hW2]; exact (Below.refl _ _).alloc (Nat.le_refl _) _
      have CF := Lib.hid (gFew_any ⟨ver, st, ln⟩ _ _ W2 (hnv.below hb2))
      unfold Net.agg at CF
      simp only at CF
      obtain ⟨g, hg⟩ : ∃ g, gfew ⟨ver, st, ln⟩ = g := ⟨_, rfl⟩
      rw [hg] at CF
      have HS := Lib.hid hs
      have HG := Lib.hid hg
      have HB2 := Lib.hid (HB.out.trans (hb2.mono HB.out.size))
      have d0 : W2.cell? ⟨q2, 0, none⟩ = some (.int .i64 ver) := cell_of_row W2 _ _ _ _ _ hr2
      have d1 : W2.cell? ⟨q2, 1, none⟩ = some (.slice xa xn xc) := cell_of_row W2 _ _ _ _ _ hr2
      have d2 : W2.cell? ⟨q2, 2, none⟩ = some (.slice ya yn yc) := cell_of_row W2 _ _ _ _ _ hr2
      have HW2 := Lib.hid hW2
      have HQ2 := Lib.hid hq2
      clear hs hg hbl hnv hr2 hb2 hW2 hq2
      go_upto_region 4 with fail
      rw [HW2.out, HQ2.out]
      clear c0 c1 c2
      go_wp2_with fail
      refine CF.out.mono ?_
      rintro e w3 ⟨rfl, hb3⟩
      have HB3 := Lib.hid (HB2.out.trans (hb3.mono HB2.out.size))
      clear hb3 d0 d1 d2
      cases g with
      | true =>
        have hf : Hid (vfewTo l (k + 1) = true) := by show _ = _; rw [vfewTo_next HS.out, HP.out]; exact HG.out
        go_wp2
        go_roundw
        case rel => exact ⟨k + 1, by omega, by go_num, hf, HB3⟩
        case measure => simp [intOf]; omega
      | false =>
        have hf : R = false := by rw [HV.out, HNO.out k _ HS.out HG.out]; rfl
        have HF := Lib.hid hf
        clear hf
        go_wp2
        go_ret
        exact ⟨by rw [HF.out]; rfl, HB3.out⟩
    · obtain rfl : k = n := by omega
      have e2 : ¬ (k : Int) < k := by omega
      by_cases h70 : k ≤ 70
      · have e3 : (k : Int) ≤ 70 := by omega
        have hf : R = true := by rw [HV.out, HP.out, decide_eq_true h70]; rfl
        have HF := Lib.hid hf
        clear hf
        go_wp2
        go_ret
        exact ⟨by rw [HF.out]; rfl, HB.out⟩
      · have e3 : ¬ (k : Int) ≤ 70 := by omega
        have hf : R = false := by rw [HV.out, HP.out, decide_eq_false h70]; rfl
        have HF := Lib.hid hf
        clear hf
        go_wp2
        go_ret
        exact ⟨by rw [HF.out]; rfl, HB.out⟩

end Go.Proofs.Ytbonapdainlpjaa
