/- Walks of Whole of layer 4 and of its reference; the walk of the statement FrameTakes. -/
import Derived.Test.YticpmkdlnjnfgaaFrameTake2
namespace Go.Proofs.Yticpmkdlnjnfgaa
open Go.RowKit

def fwhole (k : UInt8) (l : List UInt8) : List UInt8 × Nat :=
  if (ftake l).2.2.2 ≠ 0 then ([], (ftake l).2.2.2) else if (ftake l).1 ≠ k then ([], 11) else if (ftake l).2.2.1 < l.length then ([], 13) else ((ftake l).2.1, 0)

def WholePost (k : UInt8) (l : List UInt8) (w : World) (e : Ending) (w' : World) : Prop :=
  ∃ v, e = .returned (.tuple #[v, .int .i64 (fwhole k l).2]) ∧ Bs w' v (fwhole k l).1 ∧ Below w.heap.size w w'

theorem u8_ne {a b : UInt8} (h : a ≠ b) : ((a.toNat : Int) != b.toNat) = true := by
  rw [bne_iff_ne]; intro e; exact h (UInt8.toNat_inj.1 (by omega))

set_option maxRecDepth 100000 in
theorem fwhole_any (k : UInt8) (K : Int) (hK : K = k.toNat) (y : Value) (l : List UInt8) (w : World) (hy : Bs w y l) (hl : l.length ≤ 1048576) : Calls Try.prog 85 #[.int .u8 K, y] w (WholePost k l w) := by
  subst hK
  obtain ⟨a, ca, hs⟩ := hy.shape
  subst hs
  have ht := ftake_any _ l w hy (by omega)
  obtain ⟨tk, tc, tn, tf, hv⟩ : ∃ a b c d, ftake l = (a, b, c, d) := ⟨_, _, _, _, rfl⟩
  have HT := Lib.hid ht
  have hw : Hid (fwhole k l = if tf ≠ 0 then ([], tf) else if tk ≠ k then ([], 11) else if tn < l.length then ([], 13) else (tc, 0)) := by show _ = _; unfold fwhole; rw [hv]
  have HV := Lib.hid hv
  clear ht hv
  go_enter Try.func85, Try.ntmps85
  go_wp2_with fail
  refine HT.out.mono ?_
  rintro e w1 ⟨v1, he, hb1, hw1⟩
  rw [HV.out] at he hb1
  subst he
  by_cases c1 : tf = 0
  · have q1 : ((tf : Int) != 0) = false := by rw [c1]; rfl
    by_cases c2 : tk = k
    · have q2 : ((tk.toNat : Int) != k.toNat) = false := by rw [c2]; simp
      by_cases c3 : tn < l.length
      · have hf : Hid (fwhole k l = ([], 13)) := by show _ = _; rw [hw.out, if_neg (by omega), if_neg (by simpa using c2), if_pos c3]
        clear c1 c2
        go_wp2
        refine bodyPost_ret (v := .tuple #[.slice none 0 0, .int .i64 13]) (by simp [results, Try.results85, go_sem]) rfl ⟨.slice none 0 0, ?_, ?_, hw1⟩
        · rw [hf.out]; rfl
        · rw [hf.out]; exact Rd.nil _ _
      · have hf : Hid (fwhole k l = (tc, 0)) := by show _ = _; rw [hw.out, if_neg (by omega), if_neg (by simpa using c2), if_neg c3]
        clear c1 c2
        go_wp2
        refine bodyPost_ret (v := .tuple #[v1, .int .i64 0]) (by simp [results, Try.results85, go_sem]) rfl ⟨v1, ?_, ?_, hw1⟩
        · rw [hf.out]; rfl
        · rw [hf.out]; exact hb1
    · have q2 := u8_ne c2
      have hf : Hid (fwhole k l = ([], 11)) := by show _ = _; rw [hw.out, if_neg (by omega), if_pos c2]
      clear c1 c2
      go_wp2
      refine bodyPost_ret (v := .tuple #[.slice none 0 0, .int .i64 11]) (by simp [results, Try.results85, go_sem]) rfl ⟨.slice none 0 0, ?_, ?_, hw1⟩
      · rw [hf.out]; rfl
      · rw [hf.out]; exact Rd.nil _ _
  · have q1 : ((tf : Int) != 0) = true := by rw [bne_iff_ne]; omega
    have hf : Hid (fwhole k l = ([], tf)) := by show _ = _; rw [hw.out, if_pos c1]
    clear c1
    go_wp2
    refine bodyPost_ret (v := .tuple #[.slice none 0 0, .int .i64 tf]) (by simp [results, Try.results85, go_sem]) rfl ⟨.slice none 0 0, ?_, ?_, hw1⟩
    · rw [hf.out]
    · rw [hf.out]; exact Rd.nil _ _

set_option maxRecDepth 100000 in
theorem rfwhole_any (k : UInt8) (K : Int) (hK : K = k.toNat) (y : Value) (l : List UInt8) (w : World) (hy : Bs w y l) (hl : l.length ≤ 1048576) : Calls Try.prog 79 #[.int .u8 K, y] w (WholePost k l w) := by
  subst hK
  obtain ⟨a, ca, hs⟩ := hy.shape
  subst hs
  have ht := rftake_any _ l w hy hl
  obtain ⟨tk, tc, tn, tf, hv⟩ : ∃ a b c d, ftake l = (a, b, c, d) := ⟨_, _, _, _, rfl⟩
  have HT := Lib.hid ht
  have hw : Hid (fwhole k l = if tf ≠ 0 then ([], tf) else if tk ≠ k then ([], 11) else if tn < l.length then ([], 13) else (tc, 0)) := by show _ = _; unfold fwhole; rw [hv]
  have HV := Lib.hid hv
  clear ht hv
  go_enter Try.func79, Try.ntmps79
  go_wp2_with fail
  refine HT.out.mono ?_
  rintro e w1 ⟨v1, he, hb1, hw1⟩
  rw [HV.out] at he hb1
  subst he
  by_cases c1 : tf = 0
  · have q1 : ((tf : Int) != 0) = false := by rw [c1]; rfl
    by_cases c2 : tk = k
    · have q2 : ((tk.toNat : Int) != k.toNat) = false := by rw [c2]; simp
      by_cases c3 : tn < l.length
      · have hf : Hid (fwhole k l = ([], 13)) := by show _ = _; rw [hw.out, if_neg (by omega), if_neg (by simpa using c2), if_pos c3]
        clear c1 c2
        go_wp2
        refine bodyPost_ret (v := .tuple #[.slice none 0 0, .int .i64 13]) (by simp [results, Try.results79, go_sem]) rfl ⟨.slice none 0 0, ?_, ?_, hw1⟩
        · rw [hf.out]; rfl
        · rw [hf.out]; exact Rd.nil _ _
      · have hf : Hid (fwhole k l = (tc, 0)) := by show _ = _; rw [hw.out, if_neg (by omega), if_neg (by simpa using c2), if_neg c3]
        clear c1 c2
        go_wp2
        refine bodyPost_ret (v := .tuple #[v1, .int .i64 0]) (by simp [results, Try.results79, go_sem]) rfl ⟨v1, ?_, ?_, hw1⟩
        · rw [hf.out]; rfl
        · rw [hf.out]; exact hb1
    · have q2 := u8_ne c2
      have hf : Hid (fwhole k l = ([], 11)) := by show _ = _; rw [hw.out, if_neg (by omega), if_pos c2]
      clear c1 c2
      go_wp2
      refine bodyPost_ret (v := .tuple #[.slice none 0 0, .int .i64 11]) (by simp [results, Try.results79, go_sem]) rfl ⟨.slice none 0 0, ?_, ?_, hw1⟩
      · rw [hf.out]; rfl
      · rw [hf.out]; exact Rd.nil _ _
  · have q1 : ((tf : Int) != 0) = true := by rw [bne_iff_ne]; omega
    have hf : Hid (fwhole k l = ([], tf)) := by show _ = _; rw [hw.out, if_pos c1]
    clear c1
    go_wp2
    refine bodyPost_ret (v := .tuple #[.slice none 0 0, .int .i64 tf]) (by simp [results, Try.results79, go_sem]) rfl ⟨.slice none 0 0, ?_, ?_, hw1⟩
    · rw [hf.out]
    · rw [hf.out]; exact Rd.nil _ _


end Go.Proofs.Yticpmkdlnjnfgaa
