/- The walk of the statement FrameBack. -/
import Derived.Test.YtkgfcaoeldfbdaaFrameBack0
namespace Go.Proofs.Ytkgfcaoeldfbdaa
open Go.RowKit

theorem u8_same {K : Int} {k : UInt8} (h : K = k.toNat) : (((k.toNat : Nat) : Int) != K) = false := by rw [h]; simp

set_option maxRecDepth 100000 in
set_option maxHeartbeats 800000 in
theorem frameBack_walk (K : Int) (va : Value) (la : List UInt8) (vb : Value) (lb : List UInt8) (w : World) (hK : 0 ≤ K ∧ K < 256) (ha : Bs w va la) (hb : Bs w vb lb) :
    Calls Try.prog 14 #[.int .u8 K, va, vb] w fun e w' => e = .returned (.bool true) ∧ Below w.heap.size w w' := by
  obtain ⟨k, hk⟩ : ∃ k : UInt8, K = k.toNat := ⟨UInt8.ofNat K.toNat, by rw [UInt8.toNat_ofNat']; omega⟩
  have hkk := u8_same hk
  have HK := Lib.hid hk
  clear hk
  obtain ⟨a, ca, hs⟩ := ha.shape
  subst hs
  obtain ⟨b, cb, hs⟩ := hb.shape
  subst hs
  by_cases hl : la.length ≤ 2000
  · have dl : decide ((2000 : Int) < la.length) = false := by simp; omega
    by_cases hm : lb.length ≤ 2000
    · have dm : decide ((2000 : Int) < lb.length) = false := by simp; omega
      go_enter Try.func14, Try.ntmps14
      go_wp2_with fail
      refine (awake4 _).mono ?_
      rintro e w1 ⟨rfl, hb1⟩
      go_wp2_with fail
      refine (fput_any k K HK.out _ la _ (ha.below hb1) (by omega)).mono ?_
      rintro e w2 ⟨v2, rfl, ho2, hb2⟩
      have hw2 := hb1.trans (hb2.mono hb1.size)
      have hlen := fframe_len k la
      have hvl := vput_len10 la.length (by omega)
      have hft := ftake_frame k la lb (by omega)
      have hwh := fwhole_frame k la (by omega)
      have hcut : ∀ cut, cut < (fframe k la).length → (ftake ((fframe k la).take cut)).2.2.2 = 10 := fun cut h => ftake_cut k la cut (by omega) h
      obtain ⟨fr, hfr⟩ : ∃ fr, fr = fframe k la := ⟨_, rfl⟩
      rw [← hfr] at ho2 hlen hft hwh hcut
      have HFT := Lib.hid hft
      have HWH := Lib.hid hwh
      have HCUT := Lib.hid hcut
      have hvp := vput_pos la.length
      have hfl : fr.length ≤ 2016 ∧ 6 < fr.length := by omega
      obtain ⟨hf1, hf2⟩ := hfl
      clear hft hwh hcut hfr hlen hvl hvp
      have hv2 := ho2.bs
      clear ho2
      obtain ⟨a2, c2, hs⟩ := hv2.shape
      subst hs
      have hb' := hb.below hw2
      go_wp2_with (first | (at_builtin; refine wpList_append_bytes (ob_made w2 _) (hv2.alloc _) elB (by simp; omega) (by simp; omega) (by simp) ?_ _ _ rfl rfl rfl rfl; intro v3 w3 ho3 hg3 hb3 _; have hbs3 := hb'.below (((Below.refl _ _).alloc (Nat.le_refl _) _).trans hb3); have hsz3 := hb3.size) | (at_builtin; go_must (refine wpList_append_bytes ho3 hbs3 elB (by simp; omega) (by simp; omega) (by simp at hsz3; omega) ?_ _ _ rfl rfl rfl rfl); intro v4 w4 ho4 hg4 hb4 _))
      have hst : Below w2.heap.size w2 w4 := ((Below.refl _ _).alloc (Nat.le_refl _) _).trans (hb3.trans hb4)
      have hw4 := hw2.trans (hst.mono hw2.size)
      have h4 : Bs w4 v4 (fr ++ lb) := by simpa using ho4.bs
      have hv4 := hv2.below hst
      clear ho3 ho4 hg3 hg4 hb3 hb4 hbs3 hsz3 hst
      refine (ftake_any _ _ _ h4 (by simp; omega)).mono ?_
      rintro e w5 ⟨v5, he, h5, hb5⟩
      rw [HFT.out] at he h5
      subst he
      have hw5 := hw4.trans (hb5.mono hw4.size)
      have hv5 := hv4.below hb5
      go_wp2_with fail
      refine (fwhole_any k K HK.out _ fr _ hv5 (by omega)).mono ?_
      rintro e w6 ⟨v6, he, h6, hb6⟩
      rw [HWH.out] at he h6
      subst he
      have hw6 := hw5.trans (hb6.mono hw5.size)
      have hv6 := hv5.below hb6
      have h5' := h5.below hb6
      simp only at h5' h6
      clear h4 hv4 hv5 h5
      go_wp2_with fail
      refine (same_any _ _ _ _ _ h5' (ha.below hw6)).mono ?_
      rintro e w7 ⟨rfl, hb7⟩
      rw [beq_self_true]
      have hw7 := hw6.trans (hb7.mono hw6.size)
      have hv7 := hv6.below hb7
      go_wp2_with fail
      refine (same_any _ _ _ _ _ (h6.below hb7) (ha.below hw7)).mono ?_
      rintro e w8 ⟨rfl, hb8⟩
      rw [beq_self_true]
      have hw8 := hw7.trans (hb8.mono hw7.size)
      have hv8 := hv7.below hb8
      clear hv7 h6 h5' hv6
      go_wp2
      go_loopw [90] (fun i wr => ∃ (j : Nat), j ≤ fr.length ∧ i = .int .i64 (j : Int) ∧ Below w8.heap.size w8 wr) (fun i _ => fr.length - (intOf i).toNat)
      case atStart => exact ⟨0, by omega, rfl, Below.refl _ _⟩
      case round =>
        obtain ⟨j, hj, rfl, hwr⟩ := hrel
        have hv9 := hv8.below hwr
        by_cases hlt : j < fr.length
        · obtain ⟨Y, hY, hYb⟩ := Bs.upto (P := Try.prog) elB hv9 j (by omega)
          by_cases h12 : 12 < j
          · by_cases hlo : (j : Int) < fr.length - 6
            · go_wp2
              go_roundw
              case rel => exact ⟨j + 1, by omega, by go_num, hwr⟩
              case measure => simp [intOf]; omega
            · go_wp2_with fail
              refine (ftake_any _ _ _ hYb (by simp; omega)).mono ?_
              rintro e w10 ⟨v10, he, h10, hb10⟩
              rw [HCUT.out j hlt] at he
              subst he
              go_wp2
              go_roundw
              case rel => exact ⟨j + 1, by omega, by go_num, hwr.trans (hb10.mono hwr.size)⟩
              case measure => simp [intOf]; omega
          · go_wp2_with fail
            refine (ftake_any _ _ _ hYb (by simp; omega)).mono ?_
            rintro e w10 ⟨v10, he, h10, hb10⟩
            rw [HCUT.out j hlt] at he
            subst he
            go_wp2
            go_roundw
            case rel => exact ⟨j + 1, by omega, by go_num, hwr.trans (hb10.mono hwr.size)⟩
            case measure => simp [intOf]; omega
        · have hw9 := hw8.trans (hwr.mono hw8.size)
          go_wp2_with (at_make; go_must (refine wpList_make_bytes _ elB 1048577 (by omega) (by decide) rfl _ _ rfl _ _ rfl rfl ?_); intro v11 w11 ho11 hb11)
          refine (fput_no K _ _ _ ho11.bs (by rw [List.length_replicate]; omega)).mono ?_
          rintro e w12 ⟨rfl, hb12⟩
          go_wp2
          go_ret
          exact ⟨rfl, (hw9.trans (hb11.mono hw9.size)).trans (hb12.mono (by have := hb11.size; have := hw9.size; omega))⟩
    · have dm : decide ((2000 : Int) < lb.length) = true := by simp; omega
      go_enter Try.func14, Try.ntmps14
      go_wp2_with fail
      refine (awake4 _).mono ?_
      rintro e w1 ⟨rfl, hb1⟩
      go_wp2
      go_ret
      exact ⟨rfl, hb1⟩
  · have dl : decide ((2000 : Int) < la.length) = true := by simp; omega
    go_enter Try.func14, Try.ntmps14
    go_wp2_with fail
    refine (awake4 _).mono ?_
    rintro e w1 ⟨rfl, hb1⟩
    go_wp2
    go_ret
    exact ⟨rfl, hb1⟩

end Go.Proofs.Ytkgfcaoeldfbdaa
