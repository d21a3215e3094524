/- Layer 34 (block): Image, Write. -/
import Derived.Test.YtbonapdainlpjaaBk3
import Derived.Deep.DeepCutAuto
set_option linter.unusedSimpArgs false
namespace Go.Proofs.Ytbonapdainlpjaa
open Go.RowKit Go.Sort

def bimg (s : BSt) : List UInt8 := (List.range (s.n * 64)).map s.f
def ImgPost (w : World) (s : BSt) (e : Ending) (w' : World) : Prop := ∃ v, e = .returned v ∧ Ob w' w.heap.size 5 v (bimg s) ∧ Below w.heap.size w w'

theorem range_more (f : Nat → UInt8) (k : Nat) : (List.range (k * 64)).map f ++ (List.range 64).map (fun j => f (k * 64 + j)) = (List.range ((k + 1) * 64)).map f := by
  apply List.ext_getElem?
  intro j
  by_cases h1 : j < k * 64
  · rw [List.getElem?_append_left (by simpa using h1), List.getElem?_map, List.getElem?_map, List.getElem?_range h1, List.getElem?_range (by omega)]
  · rw [List.getElem?_append_right (by simpa using h1)]
    simp only [List.length_map, List.length_range]
    by_cases h2 : j < (k + 1) * 64
    · rw [List.getElem?_map, List.getElem?_map, List.getElem?_range (by omega), List.getElem?_range h2]
      simp only [Option.map_some]
      congr 2
      omega
    · rw [List.getElem?_eq_none (by simp; omega), List.getElem?_eq_none (by simp; omega)]

set_option maxRecDepth 100000 in
theorem bImage_any (g gb : Nat) (fo : Option Nat) (s : BSt) (B : Nat) (w : World) (h : StAt w B g gb fo s) :
    Calls Try.prog 39 #[.pointer (some ⟨g, 0, none⟩)] w (ImgPost w s) := by
  unfold ImgPost
  have H := Lib.hid h
  have hg := heap_lt h.row
  have c0 : w.cell? ⟨g, 0, none⟩ = some (.slice (some ⟨gb, 0, none⟩) s.n s.n) := by rw [cell_of_row w g 0 _ _ _ h.row]; rfl
  have n2 := h.n2
  obtain ⟨n, hn⟩ : ∃ n, s.n = n := ⟨_, rfl⟩
  have hr : w.heap[gb]? = some (.cells (rowb (n * 64) s.f) 124 (0, 0)) := by rw [← hn]; exact h.blk
  obtain ⟨f, hf⟩ : ∃ f, s.f = f := ⟨_, rfl⟩
  rw [hf] at hr
  have hI : bimg s = (List.range (n * 64)).map f := by unfold bimg; rw [hn, hf]
  rw [hI]
  rw [hn] at c0 n2
  have HR := Lib.hid hr
  clear h hn hf hr hI
  go_enter Try.func39, Try.ntmps39
  go_wp2_with fail
  go_loopw [12, 3] (fun i v wr => ∃ k : Nat, k ≤ n ∧ i = .int .i64 k ∧ Ob wr w.heap.size 5 v ((List.range (k * 64)).map f) ∧ Below w.heap.size w wr) (fun i _ _ => n - (intOf i).toNat)
  case atStart => exact ⟨0, by omega, rfl, Ob.nil _ _ _, Below.refl _ _⟩
  case round =>
    obtain ⟨k, hk, rfl, ho, hb⟩ := hrel
    have HO := Lib.hid ho
    have HB := Lib.hid hb
    by_cases hlt : k < n
    · have e1 : (k : Int) < n := by omega
      have hix := run_bix gb n k (by omega) e1
      rw [Int.toNat_natCast] at hix
      have hsl := run_bsl gb (k * 64)
      have c1 : wr.cell? ⟨g, 0, none⟩ = some (.slice (some ⟨gb, 0, none⟩) n n) := by rw [hb.cell hg]; exact c0
      have hbs : Bs wr (.slice (some ⟨gb, k * 64, none⟩) 64 64) ((List.range 64).map fun j => f (k * 64 + j)) :=
        bs_rowc (by rw [hb.block gb (heap_lt HR.out)]; exact HR.out) (k * 64) 64 64 (by omega) (by omega) (by decide)
      have HBS := Lib.hid hbs
      clear ho hb hbs
      go_wp2_with (at_builtin; go_must (refine wpList_append_bytes HO.out HBS.out elB (by simp; omega) (by simp; omega) HB.out.size ?_ _ _ rfl rfl rfl rfl); intro v1 w1 ho1 hg1 hb1 _; rw [range_more] at ho1; have HO1 := Lib.hid ho1; have HB1 := Lib.hid (HB.out.trans hb1); clear ho1 hb1 hg1)
      go_roundw
      case rel => exact ⟨k + 1, by omega, by go_num, HO1.out, HB1.out⟩
      case measure => simp [intOf]; omega
    · have hkn : k = n := by omega
      have e1 : ¬ (k : Int) < n := by omega
      go_wp2
      go_ret
      exact ⟨_, rfl, by rw [← hkn]; exact HO.out, HB.out⟩

end Go.Proofs.Ytbonapdainlpjaa
