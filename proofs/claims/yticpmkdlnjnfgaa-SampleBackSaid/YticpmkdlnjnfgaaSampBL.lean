/- The walk of the statement SampleBack. -/
import Derived.Test.YticpmkdlnjnfgaaSampL
import Derived.Test.YticpmkdlnjnfgaaSamp6
import Derived.Test.YticpmkdlnjnfgaaSamp8
import Derived.Lib.QuietBelow
namespace Go.Proofs.Yticpmkdlnjnfgaa
open Go.RowKit Go.Sort

set_option maxRecDepth 100000 in
set_option maxHeartbeats 3200000 in
theorem sampleBack_walk (va : Value) (l : List Smp) (vb : Value) (b : List UInt8) (n : Int) (w : World) (ha : Ss w va l) (hb : Bs w vb b) (hn : -9223372036854775808 ≤ n ∧ n ≤ 9223372036854775807) :
    Calls Try.prog 5 #[va, vb, .int .i64 n] w fun e w' => e = .returned (.bool true) ∧ Below w.heap.size w w' := by
  obtain ⟨a, ca, hs⟩ := ha.shape
  subst hs
  obtain ⟨a2, cb, hs⟩ := hb.shape
  subst hs
  by_cases hl : l.length ≤ 300
  · have dl : decide ((300 : Int) < l.length) = false := by simp; omega
    by_cases hlb : b.length ≤ 2000
    · have dlb : decide ((2000 : Int) < b.length) = false := by simp; omega
      go_enter Try.func5, Try.ntmps5
      go_wp2_with fail
      refine (awake5 _).mono ?_
      rintro e w1 ⟨rfl, hb1⟩
      go_wp2_with fail
      refine (sput_any _ l _ (ha.below hb1)).mono ?_
      rintro e w2 h2
      unfold SPutPost at h2
      rw [if_neg (by omega)] at h2
      rcases h2 with ⟨hR, v2, rfl, ho2, hb2⟩ | ⟨hR, rfl, hb2⟩
      focus
        have hw2 := hb1.trans (hb2.mono hb1.size)
        have hsl := sputs_len l szero (.inl rfl) (fun s hs => by obtain ⟨i, hi, rfl⟩ := List.getElem_of_mem hs; exact (hR i _ (List.getElem?_eq_getElem hi)).1)
        have hst := stake_put l b hR (by omega)
        obtain ⟨x, hx⟩ : ∃ x, sputs szero l = x := ⟨_, rfl⟩
        rw [hx] at ho2 hsl hst
        have HST := Lib.hid hst
        have hv2 := ho2.bs
        have hb' := hb.below hw2
        clear hst hx ho2 hR
        obtain ⟨a3, c3, hs⟩ := hv2.shape
        subst hs
        go_wp2_with (first | (at_builtin; refine wpList_append_bytes (ob_made w2 _) (hv2.alloc _) elB (by simp; omega) (by simp; omega) (by simp) ?_ _ _ rfl rfl rfl rfl; intro v3 w3 ho3 hg3 hb3 _; have hbs3 := hb'.below (((Below.refl _ _).alloc (Nat.le_refl _) _).trans hb3); have hsz3 := hb3.size) | (at_builtin; go_must (refine wpList_append_bytes ho3 hbs3 elB (by simp; omega) (by simp; omega) (by simp at hsz3; omega) ?_ _ _ rfl rfl rfl rfl); intro v4 w4 ho4 hg4 hb4 _))
        have hst4 : Below w2.heap.size w2 w4 := ((Below.refl _ _).alloc (Nat.le_refl _) _).trans (hb3.trans hb4)
        have hw4 := hw2.trans (hst4.mono hw2.size)
        have h4 : Bs w4 v4 (x ++ b) := by simpa using ho4.bs
        clear ho3 ho4 hg3 hg4 hb3 hb4 hbs3 hsz3 hst4
        refine (stake_any _ _ _ (by omega) _ h4 (by simp; omega)).mono ?_
        rintro e w5 ⟨v5, he, h5, hb5⟩
        rw [HST.out] at he h5
        simp only at he h5
        subst he
        have hw5 := hw4.trans (hb5.mono hw4.size)
        have ha5 := ha.below hw5
        go_wp2_with fail
        refine (ssame_any _ _ _ _ ha5 h5).mono ?_
        rintro e W6 ⟨rfl, hb6⟩
        have hW6 := hw5.trans (hb6.mono hw5.size)
        clear h4 h5 ha5 hb' hv2
        go_wp2_with fail
      rotate_left 1
      focus
        have hW6 := hb1.trans (hb2.mono hb1.size)
        obtain ⟨W6, hw⟩ : ∃ W, W = w2 := ⟨_, rfl⟩
        rw [← hw] at hW6
        rw [← hw]
        clear hw
        go_wp2_with fail
      all_goals
        obtain ⟨out, used, err, hv⟩ : ∃ o u e, stake b n = (o, u, e) := ⟨_, _, _, rfl⟩
        have hP := stake_any (.slice a2 b.length cb) b n hn W6 (hb.below hW6) (by omega)
        unfold STakePost at hP
        rw [hv] at hP
        simp only at hP
        refine hP.mono ?_
        rintro e w7 ⟨v7, rfl, h7, hb7⟩
        have hw7 := hW6.trans (hb7.mono hW6.size)
        clear hP
        by_cases he : err = 0
        · subst he
          obtain ⟨t1, t2, t3, t4, t5⟩ := stake_taken b n out used hv
          obtain ⟨m, hm⟩ : ∃ m, out.length = m := ⟨_, rfl⟩
          rw [hm] at t2 t5
          obtain ⟨b7, c7, bk, ok, hv7, ha1, ha2, ha3, ha4, ha5⟩ := Ss.open_n elS h7 m hm
          subst hv7
          have HM := Lib.hid hm
          have HR := Lib.hid t1
          have H7 := Lib.hid h7
          have HT4 := Lib.hid t4
          clear hm t1 h7 t4 hv
          go_wp2
          go_loopw [79] (fun i wr => ∃ k : Nat, k ≤ m ∧ i = .int .i64 k ∧ Below w7.heap.size w7 wr) (fun i _ => m - (intOf i).toNat)
          case atStart => exact ⟨0, by omega, rfl, Below.refl _ _⟩
          case round =>
            obtain ⟨k, hk, rfl, hw⟩ := hrel
            have hsz := hw.size
            by_cases hlt : k < m
            · obtain ⟨s, hs⟩ : ∃ s, out[k]? = some s := ⟨_, List.getElem?_eq_getElem (by have := HM.out; omega)⟩
              obtain ⟨p0, p1, p2⟩ := ha5 k s hs
              have hbb := ha4 k hlt
              rw [← hw.cell (by exact hbb)] at p0 p1 p2
              have e1 : (k : Int) < m := by omega
              have r0 := fun d os => cell_regrown p0 d os
              have r1 := fun d os => cell_regrown p1 d os
              have r2 := fun d os => cell_regrown p2 d os
              obtain ⟨hsm, hsp⟩ := HR.out k s hs
              have HSM : Hid (mayB s = true) := (mayB_iff s).2 hsm
              have HSP := Lib.hid hsp
              clear hsm hsp
              by_cases hk0 : k = 0
              · have hd : decide (0 < k) = false := by simp; omega
                clear hk0 ha5 ha4 hs
                go_wp2
                refine wp_region_quiet_below (by kernel_rfl) (by kernel_rfl) ?_
                repeat (go_big_quiet_step ((go_at_call 17; exact Calls.regrown_of (smay_is s true HSM.out _))))
                refine wpQuiet_nil ?_
                intro _ hw'
                obtain ⟨⟨dq, osq⟩, hw''⟩ := hw'
                subst hw''
                have hb8 := below_regrown wr dq osq
                obtain ⟨w8, hwq⟩ : ∃ x, x = grow (redrawn wr dq) osq := ⟨_, rfl⟩
                rw [← hwq] at hb8 ⊢
                clear hwq
                go_wp2
                go_roundw
                case rel => exact ⟨k + 1, by omega, by go_num, hw.trans (hb8.mono hsz)⟩
                case measure => simp [intOf]; omega
              · have hd : decide (0 < k) = true := by simp; omega
                obtain ⟨p, hp⟩ : ∃ p, out[k - 1]? = some p := ⟨_, List.getElem?_eq_getElem (by have := HM.out; omega)⟩
                have hprev := (ha5 (k - 1) p hp).1
                rw [← hw.cell (by exact hbb)] at hprev
                have r3 := fun d os => cell_regrown hprev d os
                have e2 : ((k : Int) - 1).toNat = k - 1 := by omega
                have e3 : (0 : Int) ≤ (k : Int) - 1 := by omega
                have e4 : (k : Int) - 1 < m := by omega
                have hidx := fun W => ha3 W ((k : Int) - 1) e3 e4
                rw [e2] at hidx
                have hlt2 := HSP.out (by omega) p hp
                have hd2 : decide (s.t ≤ p.t) = false := by simp; omega
                clear hs hp ha4 ha5 e2 hlt2 hk0
                go_wp2
                refine wp_region_quiet_below (by kernel_rfl) (by kernel_rfl) ?_
                repeat (go_big_quiet_step ((go_at_call 17; exact Calls.regrown_of (smay_is s true HSM.out _))))
                refine wpQuiet_nil ?_
                intro _ hw'
                obtain ⟨⟨dq, osq⟩, hw''⟩ := hw'
                subst hw''
                have hb8 := below_regrown wr dq osq
                obtain ⟨w8, hwq⟩ : ∃ x, x = grow (redrawn wr dq) osq := ⟨_, rfl⟩
                rw [← hwq] at hb8 ⊢
                clear hwq
                go_wp2
                go_roundw
                case rel => exact ⟨k + 1, by omega, by go_num, hw.trans (hb8.mono hsz)⟩
                case measure => simp [intOf]; omega
            · have hw8 := hw7.trans (hw.mono hw7.size)
              go_wp2_with fail
              refine (sput_any _ out _ (H7.out.below hw)).mono ?_
              rintro e w9 h9
              unfold SPutPost at h9
              rw [if_neg (by rw [HM.out]; omega)] at h9
              rcases h9 with ⟨-, v9, rfl, ho9, hb9⟩ | ⟨hno, -⟩
              · have hw9 := hw8.trans (hb9.mono hw8.size)
                obtain ⟨Y, hY, hYb⟩ := Bs.upto (P := Try.prog) elB (hb.below hw9) used t3
                rw [HT4.out] at hYb
                have hmn : ((m : Int) == n) = true := by simpa using t2
                have HYB := Lib.hid hYb
                clear hYb t2
                go_wp2_with fail
                refine (same_any _ _ _ _ _ ho9.bs HYB.out).mono ?_
                rintro e w10 ⟨rfl, hb10⟩
                rw [beq_self_true]
                go_wp2
                go_ret
                exact ⟨rfl, hw9.trans (hb10.mono hw9.size)⟩
              · exact absurd HR.out hno
        · obtain ⟨rfl, rfl⟩ := stake_fail b n out used err hv he
          have hd : ((err : Int) != 0) = true := by simp; omega
          obtain ⟨a7, c7, hs⟩ := h7.shape
          rw [show ([] : List Smp).length = 0 from rfl] at hs
          subst hs
          clear he hv h7
          go_wp2
          go_ret
          exact ⟨rfl, hw7⟩
    · have dlb : decide ((2000 : Int) < b.length) = true := by simp; omega
      go_enter Try.func5, Try.ntmps5
      go_wp2_with fail
      refine (awake5 _).mono ?_
      rintro e w1 ⟨rfl, hb1⟩
      go_wp2
      go_ret
      exact ⟨rfl, hb1⟩
  · have dl : decide ((300 : Int) < l.length) = true := by simp; omega
    go_enter Try.func5, Try.ntmps5
    go_wp2_with fail
    refine (awake5 _).mono ?_
    rintro e w1 ⟨rfl, hb1⟩
    go_wp2
    go_ret
    exact ⟨rfl, hb1⟩

end Go.Proofs.Yticpmkdlnjnfgaa
