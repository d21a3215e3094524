/- Walks of Whole of layer 4 and of its reference; the walk of the statement FrameTakes. -/
import Derived.Test.YtkgfcaoeldfbdaaFrameTake2
namespace Go.Proofs.Ytkgfcaoeldfbdaa
open Go.RowKit

def fwhole (k : UInt8) (l : List UInt8) : List UInt8 × Nat :=
  if (ftake l).2.2.2 ≠ 0 then ([], (ftake l).2.2.2) else if (ftake l).1 ≠ k then ([], 11) else if (ftake l).2.2.1 < l.length then ([], 13) else ((ftake l).2.1, 0)

def WholePost (k : UInt8) (l : List UInt8) (w : World) (e : Ending) (w' : World) : Prop :=
  ∃ v, e = .returned (.tuple #[v, .int .i64 (fwhole k l).2]) ∧ Bs w' v (fwhole k l).1 ∧ Below w.heap.size w w'

theorem u8_ne {a b : UInt8} (h : a ≠ b) : ((a.toNat : Int) != b.toNat) = true := by
  rw [bne_iff_ne]; intro e; exact h (UInt8.toNat_inj.1 (by omega))

set_option maxRecDepth 100000 in
theorem fwhole_any (k : UInt8) (K : Int) (hK : K = k.toNat) (y : Value) (l : List UInt8) (w : World) (hy : Bs w y l) (hl : l.length ≤ 1048576) : Calls Try.prog 62 #[.int .u8 K, y] w (WholePost k l w) := by
  subst hK
  obtain ⟨a, ca, hs⟩ := hy.shape
  subst hs
  have ht := ftake_any _ l w hy (by omega)
  obtain ⟨tk, tc, tn, tf, hv⟩ : ∃ a b c d, ftake l = (a, b, c, d) := ⟨_, _, _, _, rfl⟩
  have HT := Lib.hid ht
  have hw : Hid (fwhole k l = if tf ≠ 0 then ([], tf) else if tk ≠ k then ([], 11) else if tn < l.length then ([], 13) else (tc, 0)) := by show _ = _; unfold fwhole; rw [hv]
  have HV := Lib.hid hv
  clear ht hv
  go_enter Try.func62, Try.ntmps62
  go_wp2_with fail
  refine HT.out.mono ?_
  rintro e w1 ⟨v1, he, hb1, hw1⟩
  rw [HV.out] at he hb1
  subst he
  by_cases c1 : tf = 0
  · have q1 : ((tf : Int) != 0) = false := by rw [c1]; rfl
    by_cases c2 : tk = k
    · have q2 : ((tk.toNat : Int) != k.toNat) = false := by rw [c2]; simp
      by_cases c3 : tn < l.length
      · have hf : Hid (fwhole k l = ([], 13)) := by show _ = _; rw [hw.out, if_neg (by omega), if_neg (by simpa using c2), if_pos c3]
        clear c1 c2
        go_wp2
        refine bodyPost_ret (v := .tuple #[.slice none 0 0, .int .i64 13]) (by simp [results, Try.results62, go_sem]) rfl ⟨.slice none 0 0, ?_, ?_, hw1⟩
        · rw [hf.out]; rfl
        · rw [hf.out]; exact Rd.nil _ _
      · have hf : Hid (fwhole k l = (tc, 0)) := by show _ = _; rw [hw.out, if_neg (by omega), if_neg (by simpa using c2), if_neg c3]
        clear c1 c2
        go_wp2
        refine bodyPost_ret (v := .tuple #[v1, .int .i64 0]) (by simp [results, Try.results62, go_sem]) rfl ⟨v1, ?_, ?_, hw1⟩
        · rw [hf.out]; rfl
        · rw [hf.out]; exact hb1
    · have q2 := u8_ne c2
      have hf : Hid (fwhole k l = ([], 11)) := by show _ = _; rw [hw.out, if_neg (by omega), if_pos c2]
      clear c1 c2
      go_wp2
      refine bodyPost_ret (v := .tuple #[.slice none 0 0, .int .i64 11]) (by simp [results, Try.results62, go_sem]) rfl ⟨.slice none 0 0, ?_, ?_, hw1⟩
      · rw [hf.out]; rfl
      · rw [hf.out]; exact Rd.nil _ _
  · have q1 : ((tf : Int) != 0) = true := by rw [bne_iff_ne]; omega
    have hf : Hid (fwhole k l = ([], tf)) := by show _ = _; rw [hw.out, if_pos c1]
    clear c1
    go_wp2
    refine bodyPost_ret (v := .tuple #[.slice none 0 0, .int .i64 tf]) (by simp [results, Try.results62, go_sem]) rfl ⟨.slice none 0 0, ?_, ?_, hw1⟩
    · rw [hf.out]
    · rw [hf.out]; exact Rd.nil _ _

set_option maxRecDepth 100000 in
theorem rfwhole_any (k : UInt8) (K : Int) (hK : K = k.toNat) (y : Value) (l : List UInt8) (w : World) (hy : Bs w y l) (hl : l.length ≤ 1048576) : Calls Try.prog 63 #[.int .u8 K, y] w (WholePost k l w) := by
  subst hK
  obtain ⟨a, ca, hs⟩ := hy.shape
  subst hs
  have ht := rftake_any _ l w hy hl
  obtain ⟨tk, tc, tn, tf, hv⟩ : ∃ a b c d, ftake l = (a, b, c, d) := ⟨_, _, _, _, rfl⟩
  have HT := Lib.hid ht
  have hw : Hid (fwhole k l = if tf ≠ 0 then ([], tf) else if tk ≠ k then ([], 11) else if tn < l.length then ([], 13) else (tc, 0)) := by show _ = _; unfold fwhole; rw [hv]
  have HV := Lib.hid hv
  clear ht hv
  go_enter Try.func63, Try.ntmps63
  go_wp2_with fail
  refine HT.out.mono ?_
  rintro e w1 ⟨v1, he, hb1, hw1⟩
  rw [HV.out] at he hb1
  subst he
  by_cases c1 : tf = 0
  · have q1 : ((tf : Int) != 0) = false := by rw [c1]; rfl
    by_cases c2 : tk = k
    · have q2 : ((tk.toNat : Int) != k.toNat) = false := by rw [c2]; simp
      by_cases c3 : tn < l.length
      · have hf : Hid (fwhole k l = ([], 13)) := by show _ = _; rw [hw.out, if_neg (by omega), if_neg (by simpa using c2), if_pos c3]
        clear c1 c2
        go_wp2
        refine bodyPost_ret (v := .tuple #[.slice none 0 0, .int .i64 13]) (by simp [results, Try.results63, go_sem]) rfl ⟨.slice none 0 0, ?_, ?_, hw1⟩
        · rw [hf.out]; rfl
        · rw [hf.out]; exact Rd.nil _ _
      · have hf : Hid (fwhole k l = (tc, 0)) := by show _ = _; rw [hw.out, if_neg (by omega), if_neg (by simpa using c2), if_neg c3]
        clear c1 c2
        go_wp2
        refine bodyPost_ret (v := .tuple #[v1, .int .i64 0]) (by simp [results, Try.results63, go_sem]) rfl ⟨v1, ?_, ?_, hw1⟩
        · rw [hf.out]; rfl
        · rw [hf.out]; exact hb1
    · have q2 := u8_ne c2
      have hf : Hid (fwhole k l = ([], 11)) := by show _ = _; rw [hw.out, if_neg (by omega), if_pos c2]
      clear c1 c2
      go_wp2
      refine bodyPost_ret (v := .tuple #[.slice none 0 0, .int .i64 11]) (by simp [results, Try.results63, go_sem]) rfl ⟨.slice none 0 0, ?_, ?_, hw1⟩
      · rw [hf.out]; rfl
      · rw [hf.out]; exact Rd.nil _ _
  · have q1 : ((tf : Int) != 0) = true := by rw [bne_iff_ne]; omega
    have hf : Hid (fwhole k l = ([], tf)) := by show _ = _; rw [hw.out, if_pos c1]
    clear c1
    go_wp2
    refine bodyPost_ret (v := .tuple #[.slice none 0 0, .int .i64 tf]) (by simp [results, Try.results63, go_sem]) rfl ⟨.slice none 0 0, ?_, ?_, hw1⟩
    · rw [hf.out]
    · rw [hf.out]; exact Rd.nil _ _


set_option maxRecDepth 100000 in
set_option maxHeartbeats 800000 in
theorem frameTakes_walk (K : Int) (vb : Value) (l : List UInt8) (w : World) (hK : 0 ≤ K ∧ K < 256) (hb : Bs w vb l) :
    Calls Try.prog 13 #[.int .u8 K, vb] w fun e w' => e = .returned (.bool true) ∧ Below w.heap.size w w' := by
  obtain ⟨k, hk⟩ : ∃ k : UInt8, K = k.toNat := ⟨UInt8.ofNat K.toNat, by rw [UInt8.toNat_ofNat']; omega⟩
  have HK := Lib.hid hk
  clear hk
  obtain ⟨a, ca, hs⟩ := hb.shape
  subst hs
  by_cases hl : l.length ≤ 3000
  · go_enter Try.func13, Try.ntmps13
    go_wp2_with fail
    refine (awake4 _).mono ?_
    rintro e w1 ⟨rfl, hb1⟩
    go_wp2_with fail
    refine (ftake_any _ l _ (hb.below hb1) (by omega)).mono ?_
    rintro e w2 ⟨v2, he, h2, hb2⟩
    subst he
    have hw2 := hb1.trans (hb2.mono hb1.size)
    go_wp2_with fail
    refine (rftake_any _ l _ (hb.below hw2) (by omega)).mono ?_
    rintro e w3 ⟨v3, he, h3, hb3⟩
    subst he
    have hw3 := hw2.trans (hb3.mono hw2.size)
    go_wp2_with fail
    refine (fwhole_any k K HK.out _ l _ (hb.below hw3) (by omega)).mono ?_
    rintro e w4 ⟨v4, he, h4, hb4⟩
    subst he
    have hw4 := hw3.trans (hb4.mono hw3.size)
    go_wp2_with fail
    refine (rfwhole_any k K HK.out _ l _ (hb.below hw4) (by omega)).mono ?_
    rintro e w5 ⟨v5, he, h5, hb5⟩
    subst he
    have hw5 := hw4.trans (hb5.mono hw4.size)
    have g2 := ((h2.below hb3).below hb4).below hb5
    have g3 := (h3.below hb4).below hb5
    have g4 := h4.below hb5
    clear h2 h3 h4
    go_wp2_with fail
    refine (same_any _ _ _ _ _ g2 g3).mono ?_
    rintro e w6 ⟨rfl, hb6⟩
    rw [beq_self_true]
    have hw6 := hw5.trans (hb6.mono hw5.size)
    go_wp2_with fail
    refine (same_any _ _ _ _ _ (g4.below hb6) (h5.below hb6)).mono ?_
    rintro e w7 ⟨rfl, hb7⟩
    rw [beq_self_true]
    go_wp2
    go_ret
    exact ⟨ret_bool (by simp), hw6.trans (hb7.mono hw6.size)⟩
  · have hl' : (3000 : Int) < l.length := by omega
    go_enter Try.func13, Try.ntmps13
    go_wp2_with fail
    refine (awake4 _).mono ?_
    rintro e w1 ⟨rfl, hb1⟩
    go_wp2
    go_ret
    exact ⟨rfl, hb1⟩

end Go.Proofs.Ytkgfcaoeldfbdaa
