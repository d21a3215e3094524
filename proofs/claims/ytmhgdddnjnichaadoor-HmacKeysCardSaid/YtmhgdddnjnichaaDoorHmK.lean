/- Layer 8 (hmac): the walk of the statement HmacKeys. -/
import Derived.Test.YtmhgdddnjnichaaDoorHmL
set_option linter.unusedSimpArgs false
namespace Go.Proofs.YtmhgdddnjnichaaDoor
open Go.RowKit Go.Sort

set_option maxRecDepth 100000 in
set_option maxHeartbeats 6400000 in
theorem hmackeys_walk (vk vb : Value) (key b : List UInt8) (n : Nat) (w : World) (hk : Bs w vk key) (hb : Bs w vb b) (hn : n < 256) (hT : Tabbed w) :
    Calls Tryd.prog 6 #[vk, vb, .int .u8 (n : Int)] w fun e w' => e = .returned (.bool true) ∧ Below w.heap.size w w' := by
  obtain ⟨ka, kc, rfl⟩ := hk.shape
  obtain ⟨ba, bc, rfl⟩ := hb.shape
  have HT := Lib.hid hT
  have HK := Lib.hid hk
  have HB := Lib.hid hb
  clear hk hb hT
  by_cases hl : key.length ≤ 500
  · by_cases hl2 : b.length ≤ 500
    · have l1 : (key.length : Int) ≤ 500 := by omega
      have l2 : (b.length : Int) ≤ 500 := by omega
      go_enter Tryd.func6, Tryd.ntmps6
      go_wp2_with fail
      refine (awake8 _ HT.out).mono ?_
      rintro e w1 ⟨rfl, hb1⟩
      have HB1 := Lib.hid hb1
      clear hb1
      have HO1 : Hid (Ob (w1.alloc (.cells #[] 5)) w1.heap.size 5 (.slice (some ⟨w1.heap.size, 0, none⟩) 0 0) []) := ob_made w1 5
      have HA1 : Hid (Below w1.heap.size w1 (w1.alloc (.cells #[] 5))) := (Below.refl _ _).alloc (Nat.le_refl _) _
      go_upto_if 24 with (at_builtin; go_must (refine wpList_append_bytes HO1.out ((HK.out.below HB1.out).below HA1.out) elB (by simp; omega) (by simp; omega) (by simp) ?_ _ _ rfl rfl rfl rfl; intro v2 w2 ho2 hg2 hb2 _; have HO2 := Lib.hid ho2; have HB2 := Lib.hid (HB1.out.trans ((HA1.out.trans hb2).mono HB1.out.size)); have HS2 := hb2.size; clear ho2 hg2 hb2))
      go_cut [7] (fun s7 wx => Hid (Ob wx w.heap.size 5 s7 (hkey key)) ∧ Hid (Below w.heap.size w wx))
      case first =>
        by_cases h64 : 64 < key.length
        · have e1 : (64 : Int) < (key.length : Int) := by omega
          go_wp2_with (go_at_call 19; refine (sha_sum _ key (by omega) _ (HK.out.below HB2.out) (HT.out.below HB2.out)).mono ?_; rintro e w3 ⟨v3, rfl, ho3, hb3⟩; have HO3 := Lib.hid ho3; have HB3 := Lib.hid (HB2.out.trans (hb3.mono HB2.out.size)); clear ho3 hb3)
          go_meet
          case rel => exact ⟨Lib.hid (by unfold hkey; rw [if_pos h64]; exact HO3.out.mono HB2.out.size), HB3⟩
        · have e1 : ¬ (64 : Int) < (key.length : Int) := by omega
          go_wp2
          go_meet
          case rel => exact ⟨Lib.hid (by unfold hkey; rw [if_neg h64]; simpa using HO2.out.mono HB1.out.size), HB2⟩
      case rest =>
        obtain ⟨ho0, hb0⟩ := hcut
        obtain ⟨W0, hW0⟩ : ∃ W, W = wc := ⟨_, rfl⟩
        subst hW0
        clear HO1 HA1
        go_upto_block 0 with fail
        go_cut [7] (fun s7 wx => ∃ k : Nat, (hkey key).length + k ≤ 64 ∧ Hid (Ob wx w.heap.size 5 s7 (hkey key ++ List.replicate k 0)) ∧ Hid (Below w.heap.size w wx))
        case first =>
          go_wp2_with fail
          go_loopw [7, 8] (fun v vi wr => ∃ k : Nat, k ≤ n ∧ (hkey key).length + k ≤ 64 ∧ vi = .int .i64 k ∧ Hid (Ob wr w.heap.size 5 v (hkey key ++ List.replicate k 0)) ∧ Hid (Below w.heap.size w wr)) (fun _ vi _ => n - (intOf vi).toNat)
          case atStart => exact ⟨0, by omega, by have := hkey_len key; omega, rfl, Lib.hid (by simpa using ho0.out), hb0⟩
          case round =>
            obtain ⟨k, hkn, hk64, rfl, ho, hb⟩ := hrel
            obtain ⟨M, hM⟩ : ∃ M, (hkey key ++ List.replicate k 0).length = M := ⟨_, rfl⟩
            have hMk : M = (hkey key).length + k := by rw [← hM]; simp
            obtain ⟨a7, c7, rfl⟩ := ho.out.shape
            rw [hM] at ho ⊢
            have HM := Lib.hid hM
            have HMK := Lib.hid hMk
            have n1 : (0 : Int) ≤ n ∧ (n : Int) < 256 := by omega
            have hsr := hb.out.size
            clear hM hMk
            by_cases h1 : k < n
            · have e1 : (k : Int) < n := by omega
              by_cases h2 : M < 64
              · have e2 : (M : Int) < 64 := by omega
                go_wp2_with (at_builtin; go_must (refine wpList_append_byte ho.out 0 elB (by rw [HM.out]; omega) (by rw [HM.out]; omega) (by omega) ?_ _ _ rfl rfl _ rfl rfl rfl); intro v4 w4 ho4 hg4 hb4; have HO4 := Lib.hid ho4; have HB4 := Lib.hid hb4; clear ho4 hb4 hg4)
                go_roundw
                case rel =>
                  refine ⟨k + 1, by omega, by have := HMK.out; omega, by go_num, Lib.hid ?_, Lib.hid (hb.out.trans HB4.out)⟩
                  rw [List.replicate_succ', ← List.append_assoc]
                  exact HO4.out
                case measure => simp [intOf]; omega
              · have e2 : ¬ (M : Int) < 64 := by omega
                go_wp2
                go_meet
                case rel => exact ⟨k, by omega, ho, hb⟩
            · have e1 : ¬ (k : Int) < n := by omega
              go_wp2
              go_meet
              case rel => exact ⟨k, by omega, ho, hb⟩
        case rest =>
          obtain ⟨k, hk64, ho1, hb1⟩ := hcut
          obtain ⟨W3, hW3⟩ : ∃ W, W = wc := ⟨_, rfl⟩
          subst hW3
          obtain ⟨ot, hot⟩ : ∃ ot, hkey key ++ List.replicate k 0 = ot := ⟨_, rfl⟩
          have htg : htag ot b = htag key b := by
            refine htag_congr ?_ b
            rw [← hot, hbyte_noughts _ _ hk64]
            unfold hkey
            split
            · exact hbyte_long key (by assumption)
            · rfl
          have hol : ot.length < 4294967296 := by rw [← hot]; simp; omega
          rw [hot] at ho1
          obtain ⟨a7, c7, rfl⟩ := ho1.out.shape
          obtain ⟨q, hq⟩ : ∃ q : Nat, (b.length : Int) / 3 = q := ⟨b.length / 3, by omega⟩
          have hq2 : q ≤ b.length := by omega
          have hq3 : (b.length : Int).tdiv 3 = (q : Int) := by rw [Int.tdiv_eq_ediv_of_nonneg (by omega)]; exact hq
          have hq4 : IntKind.i64.wrap (q : Int) = (q : Int) := IntWalk.i64_in _ (by omega)
          have hq5 : (0 : Int) ≤ q ∧ (q : Int) ≤ b.length := by omega
          obtain ⟨Y1, r1, b1⟩ := HB.out.upto elB q hq2
          obtain ⟨Y2, r2, b2⟩ := HB.out.from elB q hq2
          have hcat : b.take q ++ b.drop q = b := List.take_append_drop _ _
          obtain ⟨L1, hL1⟩ : ∃ L, b.take q = L := ⟨_, rfl⟩
          obtain ⟨L2, hL2⟩ : ∃ L, b.drop q = L := ⟨_, rfl⟩
          rw [hL1, hL2] at hcat
          rw [hL1] at b1
          rw [hL2] at b2
          obtain ⟨A1, C1, rfl⟩ := b1.shape
          obtain ⟨A2, C2, rfl⟩ := b2.shape
          have hrefl : (htag key b == htag key b) = true := by simp
          have HR := Lib.hid hrefl
          have hkb : Bs W3 (.slice ka key.length kc) key := HK.out.below hb1.out
          have hbb : Bs W3 (.slice ba b.length bc) b := HB.out.below hb1.out
          have hob := ho1.out.bs
          have hy1 := b1.below hb1.out
          have hy2 := b2.below hb1.out
          have hT3 := HT.out.below hb1.out
          have T1 : Hid (∀ W g, Below W3.heap.size W3 W → W.cell? ⟨g, 0, none⟩ = some (.slice ba b.length bc) → Calls Tryd.prog 23 #[.slice ka key.length kc, .slice (some ⟨g, 0, none⟩) 1 1] W fun e w' => ∃ v, e = .returned v ∧ Hid (Bs w' v (htag key b)) ∧ Below W.heap.size W w') := by
            intro W g hW hc
            refine (tag1_any _ _ key b g W (hkb.below hW) hc (hbb.below hW) (by omega) (by omega) (hT3.below hW)).mono ?_
            rintro e w' ⟨v, rfl, ho, hb⟩
            exact ⟨v, rfl, Lib.hid ho.bs, hb⟩
          have T2 : Hid (∀ W g, Below W3.heap.size W3 W → W.cell? ⟨g, 0, none⟩ = some (.slice ba b.length bc) → Calls Tryd.prog 23 #[.slice a7 ot.length c7, .slice (some ⟨g, 0, none⟩) 1 1] W fun e w' => ∃ v, e = .returned v ∧ Hid (Bs w' v (htag key b)) ∧ Below W.heap.size W w') := by
            intro W g hW hc
            refine (tag1_any _ _ ot b g W (hob.below hW) hc (hbb.below hW) hol (by omega) (hT3.below hW)).mono ?_
            rintro e w' ⟨v, rfl, ho, hb⟩
            exact ⟨v, rfl, Lib.hid (by rw [← htg]; exact ho.bs), hb⟩
          have T3 : Hid (∀ W g, Below W3.heap.size W3 W → Rd W 1 (.slice (some ⟨g, 0, none⟩) 3 3) 3 [.slice none 0 0, .slice A1 L1.length C1, .slice A2 L2.length C2] → Calls Tryd.prog 23 #[.slice ka key.length kc, .slice (some ⟨g, 0, none⟩) 3 3] W fun e w' => ∃ v, e = .returned v ∧ Hid (Bs w' v (htag key b)) ∧ Below W.heap.size W w') := by
            intro W g hW hc
            have hfl : [[], L1, L2].flatten = b := by simpa using hcat
            refine (tag_any _ _ key [.slice none 0 0, .slice A1 L1.length C1, .slice A2 L2.length C2] [[], L1, L2] rfl W (hkb.below hW) hc ?_ (by omega) (by rw [hfl]; omega) (hT3.below hW)).mono ?_
            · intro i v l hv hl
              match i with
              | 0 => obtain rfl : _ = v := by simpa using hv
                     obtain rfl : [] = l := by simpa using hl
                     exact Rd.nil _ 1
              | 1 => obtain rfl : _ = v := by simpa using hv
                     obtain rfl : L1 = l := by simpa using hl
                     exact hy1.below hW
              | 2 => obtain rfl : _ = v := by simpa using hv
                     obtain rfl : L2 = l := by simpa using hl
                     exact hy2.below hW
              | i + 3 => simp at hv
            · rw [hfl]
              rintro e w' ⟨v, rfl, ho, hb⟩
              exact ⟨v, rfl, Lib.hid ho.bs, hb⟩
          have HBW := Lib.hid hb1.out
          have HB0 : Below W3.heap.size W3 W3 := Below.refl _ _
          clear hot htg hol hcat hL1 hL2 b1 b2 hkb hbb hob hy1 hy2 hT3 hrefl ho1 ho0 hb0 hb1 HB1 HB2 HO2 HS2 hk64
          go_upto_region 12 with fail
          go_region_held3 (fun _ => True) (exact trivial) (first
            | (go_at_call 23; revert HB7; intro HB7; with_reducible refine (T3.out _ _ (by repeat (first | assumption | refine bel_dr ?_ | refine bel_al ?_ _)) (by first | with_reducible exact rd_n1 _ _ _ _ _ | with_reducible exact rd_n2 _ _ _ _ _ _ | with_reducible exact rd_n3 _ _ _ _ _ _ | exact Rd.below (by first | with_reducible exact rd_n1 _ _ _ _ _ | with_reducible exact rd_n2 _ _ _ _ _ _ | with_reducible exact rd_n3 _ _ _ _ _ _) hb7)).mono ?_; rintro e w8 ⟨v8, rfl, ho8, hb8⟩; have HB8 := bel_tr (w := W3) (by repeat (first | assumption | refine bel_dr ?_ | refine bel_al ?_ _)) hb8; have ho78 := Lib.hid (ho7.out.below (bel_tr (w := w7) (by repeat (first | exact Below.refl _ _ | refine bel_dr ?_ | refine bel_al ?_ _)) hb8)))
            | (go_at_call 23; revert HB6; intro HB6; with_reducible refine (T1.out _ _ (by repeat (first | assumption | refine bel_dr ?_ | refine bel_al ?_ _)) (by (try rw [cell_dr]); first | with_reducible exact cell_n1 _ _ _ | with_reducible exact cell_n2 _ _ _ _ | with_reducible exact cell_n3 _ _ _ _)).mono ?_; rintro e w7 ⟨v7, rfl, ho7, hb7⟩; have HB7 := bel_tr (w := W3) (by repeat (first | assumption | refine bel_dr ?_ | refine bel_al ?_ _)) hb7)
            | (go_at_call 21; revert HB8; intro HB8; with_reducible refine (shasame_any _ _ _ _ _ ho78.out ho8.out).mono ?_; rw [HR.out]; rintro e w9 ⟨rfl, hb9⟩; have HB9 := Lib.hid (bel_tr (w := W3) (by repeat (first | assumption | refine bel_dr ?_ | refine bel_al ?_ _)) hb9))
            | (go_at_call 21; with_reducible refine (shasame_any _ _ _ _ _ ho45.out ho5.out).mono ?_; rw [HR.out]; rintro e w6 ⟨rfl, hb6⟩; have HB6 := bel_tr (w := W3) (by repeat (first | assumption | refine bel_dr ?_ | refine bel_al ?_ _)) hb6)
            | (go_at_call 23; with_reducible refine (T2.out _ _ (by repeat (first | assumption | refine bel_dr ?_ | refine bel_al ?_ _)) (by (try rw [cell_dr]); first | with_reducible exact cell_n1 _ _ _ | with_reducible exact cell_n2 _ _ _ _ | with_reducible exact cell_n3 _ _ _ _ | exact (hb4.cell (by first | (simp; done) | (simp; omega))).trans (by (try rw [cell_dr]); first | with_reducible exact cell_n1 _ _ _ | with_reducible exact cell_n2 _ _ _ _ | with_reducible exact cell_n3 _ _ _ _))).mono ?_; rintro e w5 ⟨v5, rfl, ho5, hb5⟩; have HB5 := bel_tr (w := W3) (by repeat (first | assumption | refine bel_dr ?_ | refine bel_al ?_ _)) hb5; have ho45 := Lib.hid (ho4.out.below (bel_tr (w := w4) (by repeat (first | exact Below.refl _ _ | refine bel_dr ?_ | refine bel_al ?_ _)) hb5)))
            | (go_at_call 23; with_reducible refine (T1.out _ _ (by repeat (first | assumption | refine bel_dr ?_ | refine bel_al ?_ _)) (by (try rw [cell_dr]); first | with_reducible exact cell_n1 _ _ _ | with_reducible exact cell_n2 _ _ _ _ | with_reducible exact cell_n3 _ _ _ _)).mono ?_; rintro e w4 ⟨v4, rfl, ho4, hb4⟩; have HB4 := bel_tr (w := W3) (by repeat (first | assumption | refine bel_dr ?_ | refine bel_al ?_ _)) hb4))
          all_goals
            go_wp2
            go_ret
            exact ⟨rfl, bel_tr HBW.out HB9.out⟩
    · have l1 : (key.length : Int) ≤ 500 := by omega
      have l2 : (500 : Int) < b.length := by omega
      go_enter Tryd.func6, Tryd.ntmps6
      go_wp2_with (go_at_call 22; refine (awake8 _ HT.out).mono ?_; rintro e w1 ⟨rfl, hb1⟩; have HB1 := Lib.hid hb1; clear hb1)
      go_ret
      exact ⟨rfl, HB1.out⟩
  · have l1 : (500 : Int) < key.length := by omega
    go_enter Tryd.func6, Tryd.ntmps6
    go_wp2_with (go_at_call 22; refine (awake8 _ HT.out).mono ?_; rintro e w1 ⟨rfl, hb1⟩; have HB1 := Lib.hid hb1; clear hb1)
    go_ret
    exact ⟨rfl, HB1.out⟩

theorem hmackeys_row (vk : Value) (key : List UInt8) (vb : Value) (b : List UInt8) (n : Int) (w : World) (hk : Bs w vk key) (hb : Bs w vb b) (hn : 0 ≤ n ∧ n < 256) (hT : Tabbed w) :
    Calls Tryd.prog 6 #[vk, vb, .int .u8 n] w fun e w' => e = .returned (.bool true) ∧ Below w.heap.size w w' := by
  obtain ⟨m, rfl⟩ := Int.eq_ofNat_of_zero_le hn.1
  exact hmackeys_walk vk vb key b m w hk hb (by omega) hT

end Go.Proofs.YtmhgdddnjnichaaDoor
