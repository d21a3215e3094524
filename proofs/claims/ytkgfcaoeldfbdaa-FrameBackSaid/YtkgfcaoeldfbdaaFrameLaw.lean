/- The walk of the statement FramePuts. -/
import Derived.Test.YtkgfcaoeldfbdaaFramePut
namespace Go.Proofs.Ytkgfcaoeldfbdaa
open Go.RowKit

theorem fframe_ex : (fframe 1 []).length = 7 ∧ (fframe 1 [])[0]? = some 199 ∧ (fframe 1 [])[1]? = some 1 ∧ (fframe 1 [])[2]? = some 0 := by
  have h : vput 0 = [0] := by rw [vput_small (by omega)]; rfl
  have e : fhead 1 [] = [199, 1, 0] := by simp [fhead, h]
  unfold fframe
  rw [e]
  exact ⟨rfl, rfl, rfl, rfl⟩

set_option maxRecDepth 100000 in
theorem awake4 (w : World) : Calls Try.prog 57 #[] w fun e w' => e = .returned (.bool true) ∧ Below w.heap.size w w' := by
  have hp := Lib.hid (fput_any 1 1 (by decide) (.slice none 0 0) [] w (Rd.nil w 1) (by simp))
  go_enter Try.func57, Try.ntmps57
  go_wp2_with fail
  refine hp.out.mono ?_
  rintro e w1 ⟨v, rfl, ho, hb⟩
  obtain ⟨e1, e2, e3, e4⟩ := fframe_ex
  obtain ⟨a, ca, adr, hv, h1, h2, h3, h4, h5⟩ := Bs.open_n elB ho.bs 7 e1
  subst hv
  have c0 : w1.cell? (adr 0) = some (.int .u8 199) := h5 0 199 e2
  have c1 : w1.cell? (adr 1) = some (.int .u8 1) := h5 1 1 e3
  have c2 : w1.cell? (adr 2) = some (.int .u8 0) := h5 2 0 e4
  clear h4 h5 ho e1 e2 e3 e4 hp
  go_wp2
  go_ret
  exact ⟨rfl, hb⟩

set_option maxRecDepth 100000 in
theorem framePuts_walk (K : Int) (vb : Value) (l : List UInt8) (w : World) (hK : 0 ≤ K ∧ K < 256) (hb : Bs w vb l) :
    Calls Try.prog 12 #[.int .u8 K, vb] w fun e w' => e = .returned (.bool true) ∧ Below w.heap.size w w' := by
  obtain ⟨k, hk⟩ : ∃ k : UInt8, K = k.toNat := ⟨UInt8.ofNat K.toNat, by rw [UInt8.toNat_ofNat']; omega⟩
  have HK := Lib.hid hk
  clear hk
  obtain ⟨a, ca, hs⟩ := hb.shape
  subst hs
  by_cases hl : l.length ≤ 3000
  · go_enter Try.func12, Try.ntmps12
    go_wp2_with fail
    refine (awake4 _).mono ?_
    rintro e w1 ⟨rfl, hb1⟩
    go_wp2_with fail
    refine (fput_any k K HK.out _ l _ (hb.below hb1) (by omega)).mono ?_
    rintro e w2 ⟨v2, rfl, ho2, hb2⟩
    have hw2 := hb1.trans (hb2.mono hb1.size)
    go_wp2_with fail
    refine (rfput_any k K HK.out _ l _ (hb.below hw2) (by omega)).mono ?_
    rintro e w3 ⟨v3, rfl, ho3, hb3⟩
    have hw3 := hw2.trans (hb3.mono hw2.size)
    go_wp2_with fail
    refine (same_any _ _ _ _ _ (ho2.bs.below hb3) ho3.bs).mono ?_
    rintro e w4 ⟨rfl, hb4⟩
    rw [beq_self_true]
    go_wp2
    go_ret
    exact ⟨rfl, hw3.trans (hb4.mono hw3.size)⟩
  · have hl' : (3000 : Int) < l.length := by omega
    go_enter Try.func12, Try.ntmps12
    go_wp2_with fail
    refine (awake4 _).mono ?_
    rintro e w1 ⟨rfl, hb1⟩
    go_wp2
    go_ret
    exact ⟨rfl, hb1⟩

end Go.Proofs.Ytkgfcaoeldfbdaa
