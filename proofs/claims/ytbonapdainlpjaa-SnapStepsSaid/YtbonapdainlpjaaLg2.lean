/- Layer 35 (log): the document's Same and Records. -/
import Derived.Test.YtbonapdainlpjaaLg1
import Derived.Lib.QuietBelow
set_option linter.unusedSimpArgs false
namespace Go.Proofs.Ytbonapdainlpjaa
open Go.RowKit Go.Sort

theorem rbs_len (ps : List Rc) : (rbs ps).length = ps.length := by simp [rbs]
theorem rbs_get {ps : List Rc} {k : Nat} {x : Rc} (h : ps[k]? = some x) : (rbs ps)[k]? = some x.2 := by simp [rbs, h]
theorem Rc.shape {w : World} {x : Rc} (h : Bs w x.v x.2) : x.v = .slice x.1.1 x.2.length x.1.2.2 := by
  obtain ⟨_, a', c', he, _⟩ := h
  simp only [Rc.v, Value.slice.injEq] at he
  rw [Rc.v, he.2.1]

set_option maxRecDepth 100000 in
set_option maxHeartbeats 800000 in
theorem rlsame_any (va vb : Value) (pa pb : List Rc) (w : World) (ha : Rcs w va pa) (hb : Rcs w vb pb) :
    Calls Try.prog 45 #[va, vb] w fun e w' => e = .returned (.bool (rbs pa == rbs pb)) ∧ Below w.heap.size w w' := by
  obtain ⟨ha, hia⟩ := ha
  obtain ⟨hb, hib⟩ := hb
  obtain ⟨n, hn⟩ : ∃ n, pa.length = n := ⟨_, rfl⟩
  obtain ⟨m, hm⟩ : ∃ n, pb.length = n := ⟨_, rfl⟩
  obtain ⟨a, c, b, o, rfl, h1, h2, hix, hlt', hcell, -⟩ := ha.open_n layP elOB n hn
  obtain ⟨a2, c2, b2, o2, rfl, h3, h4, hix2, hlt2, hcell2, -⟩ := hb.open_n layP elOB m hm
  have HC := Lib.hid hcell
  have HC2 := Lib.hid hcell2
  have HN := Lib.hid hn
  have HM := Lib.hid hm
  have HLT := Lib.hid hlt'
  have HLT2 := Lib.hid hlt2
  have HIA := Lib.hid hia
  have HIB := Lib.hid hib
  obtain ⟨R, hR⟩ : ∃ R, (rbs pa == rbs pb) = R := ⟨_, rfl⟩
  have HR := Lib.hid hR
  rw [hR]
  clear ha hb hn hm hcell hlt' hcell2 hlt2 hia hib hR
  by_cases hnm : n = m
  · subst hnm
    have hnn : ((n : Int) != n) = false := by simp
    go_enter Try.func45, Try.ntmps45
    go_wp2_with fail
    go_loopw [5] (fun vi wr => ∃ k : Nat, k ≤ n ∧ vi = .int .i64 k ∧ Hid ((rbs pa).take k = (rbs pb).take k) ∧ Hid (Below w.heap.size w wr)) (fun vi _ => n - (intOf vi).toNat)
    case atStart => exact ⟨0, by omega, rfl, by simp [Hid], Below.refl _ _⟩
    case round =>
      obtain ⟨k, hk, rfl, HT, HB⟩ := hrel
      by_cases hlt : k < n
      · have e2 : (k : Int) < n := by omega
        obtain ⟨x, hx⟩ : ∃ s, pa[k]? = some s := ⟨_, List.getElem?_eq_getElem (by have := HN.out; omega)⟩
        obtain ⟨y, hy⟩ : ∃ s, pb[k]? = some s := ⟨_, List.getElem?_eq_getElem (by have := HM.out; omega)⟩
        have m0 := HC.out k x hx 0 _ rfl
        have p0 := HC2.out k y hy 0 _ rfl
        rw [Nat.add_zero] at m0 p0
        rw [← HB.out.cell (by exact HLT.out k hlt)] at m0
        rw [← HB.out.cell (by exact HLT2.out k hlt)] at p0
        have hixk := fun W => hix W k hlt
        have hixk2 := fun W => hix2 W k hlt
        have HX := Lib.hid ((HIA.out x (List.mem_of_getElem? hx)).below HB.out)
        have HY := Lib.hid ((HIB.out y (List.mem_of_getElem? hy)).below HB.out)
        have r0 := fun d os => cell_regrown m0 d os
        have r3 := fun d os => cell_regrown p0 d os
        have HGX := Lib.hid (rbs_get hx)
        have HGY := Lib.hid (rbs_get hy)
        have HLTK := Lib.hid hlt
        have CS := Lib.hid (same_any x.v y.v x.2 y.2 wr HX.out HY.out)
        obtain ⟨xv, hxv⟩ : ∃ v, x.v = v := ⟨_, rfl⟩
        obtain ⟨yv, hyv⟩ : ∃ v, y.v = v := ⟨_, rfl⟩
        obtain ⟨xl, hxl⟩ : ∃ v, x.2 = v := ⟨_, rfl⟩
        obtain ⟨yl, hyl⟩ : ∃ v, y.2 = v := ⟨_, rfl⟩
        rw [hxv] at m0 r0 HX
        rw [hyv] at p0 r3 HY
        rw [hxl] at HX HGX
        rw [hyl] at HY HGY
        have CS : Hid (∀ W : World, Below wr.heap.size wr W → Calls Try.prog 30 #[xv, yv] W fun e w' => e = .returned (.bool (xl == yl)) ∧ Below W.heap.size W w') := fun W hW => same_any xv yv xl yl W (HX.out.below hW) (HY.out.below hW)
        obtain ⟨q, hq⟩ : ∃ q, (xl == yl) = q := ⟨_, rfl⟩
        rw [hq] at CS
        have HQ := Lib.hid hq
        clear hx hy hxv hyv hxl hyl hq
        go_upto_region 6 with fail
        clear m0 p0
        refine wp_region_quiet_below (by kernel_rfl) (by kernel_rfl) ?_
        repeat (go_big_quiet_step ((go_at_call 30; exact Calls.regrown_of (CS.out _ (below_regrown wr _ _)))))
        refine wpQuiet_nil ?_
        intro _ hw'
        obtain ⟨⟨dq, osq⟩, hw''⟩ := hw'
        subst hw''
        have HB2 := below_regrown wr dq osq
        obtain ⟨W2, hwq⟩ : ∃ x, x = grow (redrawn wr dq) osq := ⟨_, rfl⟩
        rw [← hwq] at HB2 ⊢
        clear hwq
        have hf : Hid (Below w.heap.size w W2) := HB.out.trans (HB2.mono HB.out.size)
        clear HB2
        cases q with
        | true =>
          have HT2 : Hid ((rbs pa).take (k + 1) = (rbs pb).take (k + 1)) := by
            show _ = _
            rw [List.take_add_one, List.take_add_one, HT.out, HGX.out, HGY.out, beq_iff_eq.1 HQ.out]
          go_wp2
          go_roundw
          case rel => exact ⟨k + 1, by have := HLTK.out; omega, by go_num, HT2, hf⟩
          case measure => simp [intOf]; have := HLTK.out; omega
        | false =>
          have HF : Hid (R = false) := by
            show _ = _
            rw [← HR.out]
            refine beq_eq_false_iff_ne.2 fun e => ?_
            have h1 := HGX.out
            rw [e, HGY.out] at h1
            cases h1
            exact absurd HQ.out (by simp)
          go_wp2
          go_ret
          exact ⟨ret_bool HF.out.symm, hf.out⟩
      · obtain rfl : k = n := by omega
        have e2 : ¬ (k : Int) < k := by omega
        have HF : Hid (R = true) := by
          show _ = _
          rw [← HR.out, beq_iff_eq]
          have := HT.out
          rw [List.take_of_length_le (by rw [rbs_len, HN.out]; exact Nat.le_refl _), List.take_of_length_le (by rw [rbs_len, HM.out]; exact Nat.le_refl _)] at this
          exact this
        go_wp2
        go_ret
        exact ⟨ret_bool HF.out.symm, HB.out⟩
  · have hnn : ((n : Int) != m) = true := by simp; omega
    have HF : Hid (R = false) := by
      show _ = _
      rw [← HR.out]
      refine beq_eq_false_iff_ne.2 fun e => hnm ?_
      have := congrArg List.length e
      rw [rbs_len, rbs_len, HN.out, HM.out] at this
      exact this
    clear hnm
    go_enter Try.func45, Try.ntmps45
    go_wp2
    go_ret
    exact ⟨ret_bool HF.out.symm, Below.refl _ _⟩

/-- the document's records: their pieces of the bytes -/
def RRecPost (w : World) (l : List UInt8) (e : Ending) (w' : World) : Prop :=
  ∃ (v : Value) (ps : List Rc), e = .returned (.tuple #[v, .int .i64 ((lrecs l).2 : Int)]) ∧ Rcs w' v ps ∧ rbs ps = (lrecs l).1 ∧ Below w.heap.size w w'

theorem lrecs_step {l : List UInt8} {at_ : Nat} {r : List UInt8} {q : Nat} (h : lfirst (l.drop at_) = some (r, q)) : (lrecs (l.drop at_)).1 = r :: (lrecs (l.drop (at_ + q))).1 ∧ (lrecs (l.drop at_)).2 = q + (lrecs (l.drop (at_ + q))).2 := by
  rw [lrecs_some h, List.drop_drop]
  exact ⟨rfl, rfl⟩

structure RecAt (w : World) (l : List UInt8) (B : Nat) (v : Value) (ps : List Rc) (p : Nat) (W : World) : Prop where
  own : Gw 1 csP W B 43 v ps
  each : ∀ x ∈ ps, Bs w x.v x.2
  len : ps.length ≤ p
  recs : rbs ps ++ (lrecs (l.drop p)).1 = (lrecs l).1
  fin : p + (lrecs (l.drop p)).2 = (lrecs l).2
  le : p ≤ l.length
  bel : Below w.heap.size w W

set_option maxRecDepth 100000 in
set_option maxHeartbeats 1600000 in
theorem rrecs_any (vb : Value) (l : List UInt8) (w : World) (hb : Bs w vb l) (hlen : l.length ≤ 1000000000) : Calls Try.prog 44 #[vb] w (RRecPost w l) := by
  obtain ⟨L, hL⟩ : ∃ L, l.length = L := ⟨_, rfl⟩
  obtain ⟨a, ca, adr, rfl, ha1, ha2, ha3, ha4, ha5⟩ := Bs.open_n elB hb L hL
  have HBS := Lib.hid hb
  have HA4 := Lib.hid ha4
  have HA5 := Lib.hid ha5
  rw [hL] at hlen
  have HL := Lib.hid hL
  clear hb ha4 ha5 hL
  go_enter Try.func44, Try.ntmps44
  go_wp2_with fail
  go_loopw [4, 5] (fun vo vi wr => ∃ (p : Nat) (ps : List Rc), p ≤ L ∧ vi = .int .i64 p ∧ Hid (RecAt w l w.heap.size vo ps p wr)) (fun _ vi _ => L - (intOf vi).toNat)
  case atStart => exact ⟨0, [], by omega, rfl, ⟨Gw.nil _ _ _, by simp, by simp, by simp [rbs], by simp, by omega, Below.refl _ _⟩⟩
  case round =>
    obtain ⟨p, ps, hp, rfl, HR⟩ := hrel
    obtain ⟨Y, hY, hYb⟩ := Bs.from (P := Try.prog) elB HBS.out p (by have := HL.out; omega)
    have HYB := Lib.hid (hYb.below HR.out.bel)
    have C := Lib.hid (rtake_any Y (l.drop p) wr HYB.out)
    have hg := vtake_good (l.drop p)
    obtain ⟨F, hF⟩ : ∃ F, lfirst (l.drop p) = F := ⟨_, rfl⟩
    have hF' := hF
    unfold lfirst at hF'
    obtain ⟨n, hn⟩ : ∃ n, (vtake (l.drop p)).1 = n := ⟨_, rfl⟩
    obtain ⟨k, hk⟩ : ∃ n, (vtake (l.drop p)).2.1 = n := ⟨_, rfl⟩
    obtain ⟨E, hE⟩ : ∃ n, (vtake (l.drop p)).2.2 = n := ⟨_, rfl⟩
    rw [hn, hk, hE] at hF' C hg
    have HF := Lib.hid hF
    have stop : F = none → rbs ps = (lrecs l).1 ∧ p = (lrecs l).2 := fun h => by
      have h1 := HR.out.recs
      have h2 := HR.out.fin
      rw [lrecs_none (HF.out.trans h)] at h1 h2
      exact ⟨by simpa using h1, h2⟩
    have STOP := Lib.hid stop
    clear hYb hF hn hk hE stop
    by_cases h0 : E = 0
    · subst h0
      obtain ⟨g1, g2, g3, -⟩ := hg rfl
      rw [List.length_drop, HL.out] at g3
      have e0 : (((0 : Nat) : Int) != 0) = false := by simp
      by_cases h1 : n < 1
      · have e1 : (n : Int) < 1 := by omega
        have hst := STOP.out (by rw [← hF', if_neg (by rintro ⟨_, h, _⟩; omega)])
        have HST := Lib.hid hst
        clear hF' hst hg
        go_wp2_with (go_at_call 92; refine C.out.mono ?_; rintro e w1 ⟨rfl, hb1⟩; have HB1 := Lib.hid hb1; clear hb1)
        go_ret2
        exact ⟨_, ps, by rw [← HST.out.2]; rfl, ⟨HR.out.own.gs.below HB1.out, fun x hx => (HR.out.each x hx).below (HR.out.bel.trans (HB1.out.mono HR.out.bel.size))⟩, HST.out.1, HR.out.bel.trans (HB1.out.mono HR.out.bel.size)⟩
      · have e1 : ¬ (n : Int) < 1 := by omega
        by_cases h2 : 262144 < n
        · have e2 : (262144 : Int) < n := by omega
          have hst := STOP.out (by rw [← hF', if_neg (by rintro ⟨_, _, h, _⟩; omega)])
          have HST := Lib.hid hst
          clear hF' hst hg
          go_wp2_with (go_at_call 92; refine C.out.mono ?_; rintro e w1 ⟨rfl, hb1⟩; have HB1 := Lib.hid hb1; clear hb1)
          go_ret2
          exact ⟨_, ps, by rw [← HST.out.2]; rfl, ⟨HR.out.own.gs.below HB1.out, fun x hx => (HR.out.each x hx).below (HR.out.bel.trans (HB1.out.mono HR.out.bel.size))⟩, HST.out.1, HR.out.bel.trans (HB1.out.mono HR.out.bel.size)⟩
        · have e2 : ¬ (262144 : Int) < n := by omega
          by_cases h3 : L ≤ p + k + n
          · have e3 : (L : Int) ≤ (p : Int) + k + n := by omega
            have hst := STOP.out (by
              rw [← hF', if_neg]
              rintro ⟨_, _, _, h⟩
              have := (List.getElem?_eq_some_iff.1 h).1
              rw [List.length_drop, HL.out] at this
              omega)
            have HST := Lib.hid hst
            clear hF' hst hg
            go_wp2_with (go_at_call 92; refine C.out.mono ?_; rintro e w1 ⟨rfl, hb1⟩; have HB1 := Lib.hid hb1; clear hb1)
            go_ret2
            exact ⟨_, ps, by rw [← HST.out.2]; rfl, ⟨HR.out.own.gs.below HB1.out, fun x hx => (HR.out.each x hx).below (HR.out.bel.trans (HB1.out.mono HR.out.bel.size))⟩, HST.out.1, HR.out.bel.trans (HB1.out.mono HR.out.bel.size)⟩
          · have e3 : ¬ (L : Int) ≤ (p : Int) + k + n := by omega
            obtain ⟨x, hx⟩ : ∃ x, l[p + k + n]? = some x := ⟨_, List.getElem?_eq_getElem (by rw [HL.out]; omega)⟩
            have hx' : (l.drop p)[k + n]? = some x := by rw [List.getElem?_drop, ← hx]; congr 1; omega
            have hix := fun W => ha3 W ((p : Int) + k + n) (by omega) (by omega)
            rw [show ((p : Int) + k + n).toNat = p + k + n by omega] at hix
            have hcell := HA5.out _ _ hx
            rw [← HR.out.bel.cell (by exact HA4.out (p + k + n) (by omega))] at hcell
            have HX := Lib.hid hcell
            have HLT := Lib.hid (Nat.lt_of_lt_of_le (HA4.out (p + k + n) (by omega)) HR.out.bel.size)
            by_cases hne : x = 165
            · subst hne
              have e4 : (((165 : UInt8).toNat : Int) != 165) = false := by decide
              rw [if_pos ⟨rfl, by omega, by omega, hx'⟩] at hF'
              obtain ⟨Z, hZ, hZb⟩ := Bs.piece (P := Try.prog) elB HBS.out (p + k) (p + k + n) (by omega) (by rw [HL.out]; omega)
              rw [show p + k + n - (p + k) = n by omega, ← List.drop_drop] at hZb
              rw [show (((p + k : Nat)) : Int) = (p : Int) + k by omega, show (((p + k + n : Nat)) : Int) = (p : Int) + k + n by omega] at hZ
              obtain ⟨R, hRR⟩ : ∃ R, ((l.drop p).drop k).take n = R := ⟨_, rfl⟩
              rw [hRR] at hZb hF'
              have hs := lrecs_step (HF.out.trans hF'.symm)
              obtain ⟨az, cz, rfl⟩ := hZb.shape
              have hnext : ∀ (W2 : World) (v' : Value), Below w.heap.size w W2 → Gw 1 csP W2 w.heap.size 43 v' (ps ++ [((az, R.length, cz), R)]) → RecAt w l w.heap.size v' (ps ++ [((az, R.length, cz), R)]) (p + k + n + 1) W2 := fun W2 v' h2 h3 => by
                have h5 := HR.out.recs
                have h6 := HR.out.fin
                have h7 := HR.out.len
                rw [hs.1] at h5
                rw [hs.2] at h6
                rw [show p + (k + n + 1) = p + k + n + 1 by omega] at h5 h6
                refine ⟨h3, ?_, by simp; omega, ?_, by omega, by rw [HL.out]; omega, h2⟩
                · intro y hy
                  rcases List.mem_append.1 hy with hy | hy
                  · exact HR.out.each y hy
                  · simp only [List.mem_singleton] at hy
                    subst hy
                    exact hZb
                · rw [← h5]
                  simp [rbs]
              have NEXT := Lib.hid hnext
              obtain ⟨rl, hrl⟩ : ∃ rl, R.length = rl := ⟨_, rfl⟩
              rw [hrl] at hZ NEXT
              have hplen : ps.length ≤ 1000000000 := by have := HR.out.len; omega
              have HPL := Lib.hid hplen
              clear hF' hg hZb hx hx' hcell hRR hs hnext hplen hrl
              go_wp2_with fail
              refine C.out.mono ?_
              rintro e w1 ⟨rfl, hb1⟩
              have hc1 := (hb1.cell (by exact HLT.out)).trans HX.out
              have hal : Below w1.heap.size w1 (w1.alloc (.cells #[.slice az rl cz] 43)) := (Below.refl w1.heap.size w1).alloc (Nat.le_refl _) _
              have hbA := HR.out.bel.trans (hb1.mono HR.out.bel.size)
              have HBA := Lib.hid (hbA.trans (hal.mono hbA.size))
              have hown := (HR.out.own.below hb1).below hal
              have hlit : Gs 1 csP (w1.alloc (.cells #[.slice az rl cz] 43)) (.slice (some ⟨w1.heap.size, 0, none⟩) 1 1) [(((az, rl, cz), R) : Rc)] := (gw_lit layP w1 43 #[.slice az rl cz] [(((az, rl, cz), R) : Rc)] 1 rfl (by decide) rfl).gs
              have hbz := HBA.out.size
              clear hal hb1 hbA
              go_wp2_with (at_builtin; go_must (refine wpList_append_gs layP hown hlit elOB (by simp; have := HPL.out; omega) (by simp; have := HPL.out; omega) hbz ?_ _ _ rfl rfl rfl rfl); intro v8 w8 h8 hg8 hb8 _; have H8 := Lib.hid h8; have HB8 := Lib.hid (HBA.out.trans hb8); clear h8 hg8 hb8)
              clear hown hlit hbz
              go_roundw
              case rel => exact ⟨p + k + n + 1, _, by omega, by go_num, NEXT.out _ _ HB8.out H8.out⟩
              case measure => simp [intOf]; omega
            · have e4 : ((x.toNat : Int) != 165) = true := by
                simp only [bne_iff_ne, ne_eq]
                intro hc
                exact hne (UInt8.toNat_inj.1 (by rw [show (165 : UInt8).toNat = 165 from rfl]; omega))
              have hst := STOP.out (by
                rw [← hF', if_neg]
                rintro ⟨_, _, _, h⟩
                rw [hx'] at h
                exact hne (Option.some.inj h))
              have HST := Lib.hid hst
              clear hF' hst hg hx hx' hcell hne
              go_wp2_with (go_at_call 92; refine C.out.mono ?_; rintro e w1 ⟨rfl, hb1⟩; have HB1 := Lib.hid hb1; have hc1 := (hb1.cell (by exact HLT.out)).trans HX.out; clear hb1)
              go_ret2
              exact ⟨_, ps, by rw [← HST.out.2]; rfl, ⟨HR.out.own.gs.below HB1.out, fun x hx => (HR.out.each x hx).below (HR.out.bel.trans (HB1.out.mono HR.out.bel.size))⟩, HST.out.1, HR.out.bel.trans (HB1.out.mono HR.out.bel.size)⟩
    · have e0 : ((E : Int) != 0) = true := by simp; omega
      have hst := STOP.out (by rw [← hF', if_neg (by rintro ⟨h, _⟩; exact h0 h)])
      have HST := Lib.hid hst
      clear hF' hst hg
      go_wp2_with (go_at_call 92; refine C.out.mono ?_; rintro e w1 ⟨rfl, hb1⟩; have HB1 := Lib.hid hb1; clear hb1)
      go_ret2
      exact ⟨_, ps, by rw [← HST.out.2]; rfl, ⟨HR.out.own.gs.below HB1.out, fun x hx => (HR.out.each x hx).below (HR.out.bel.trans (HB1.out.mono HR.out.bel.size))⟩, HST.out.1, HR.out.bel.trans (HB1.out.mono HR.out.bel.size)⟩

end Go.Proofs.Ytbonapdainlpjaa
