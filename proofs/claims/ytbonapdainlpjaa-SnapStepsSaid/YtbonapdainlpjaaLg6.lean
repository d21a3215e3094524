/- Layer 35 (log): wipe. -/
import Derived.Test.YtbonapdainlpjaaLg5
import Derived.Deep.CutBlock
set_option linter.unusedSimpArgs false
namespace Go.Proofs.Ytbonapdainlpjaa
open Go.RowKit Go.Sort

theorem LoAt.bpart {w : World} {B lg bb bc g : Nat} {vr : Value} {ps : List Rc} {d : Lg} (h : LoAt w B lg bb bc g vr ps d) {i : Nat} (hi : i < d.n) : Bs w (.slice (some ⟨bb, i * 64, none⟩) 64 (bc - i * 64)) (lpt d.b i) := by
  have h1 := h.bs.cut (i * 64) (i * 64 + 64) (by omega) (by rw [h.blen]; omega)
  have h2 := h.cap
  rw [if_neg (by omega), show i * 64 + 64 - i * 64 = 64 by omega] at h1
  unfold lpt
  simpa [Addr.add_lit] using h1

/-- what a wipe leaves -/
def WipePost (w : World) (B lg bb bc g gb : Nat) (fo : Option Nat) (vr : Value) (ps : List Rc) (s : BSt) (d : Lg) (p : Nat) (e : Ending) (w' : World) : Prop :=
  ∃ fo' s' d' E, e = .returned (.int .i64 E) ∧ StAt w' B g gb fo' s' ∧ LoAt w' B lg bb bc g vr ps d' ∧ ((E = 0 ∧ WipeR s d p d.n s' d') ∨ (E = 50 ∧ TornR s d p d.n s' d')) ∧
    Only (fun k => stF g gb fo k ∨ k = lg ∨ k = bb) w w' ∧ (∀ k, fo' = some k → fo = some k ∨ w.heap.size ≤ k)

structure WipeS (w : World) (B lg bb bc g gb : Nat) (fo : Option Nat) (vr : Value) (ps : List Rc) (s : BSt) (d : Lg) (p i : Nat) (wr : World) (fo1 : Option Nat) (s1 : BSt) (d1 : Lg) : Prop where
  st : StAt wr B g gb fo1 s1
  lo : LoAt wr B lg bb bc g vr ps d1
  r : WipeR s d (max p (i * 64)) (d.n - i) s1 d1
  only : Only (fun k => stF g gb fo k ∨ k = lg ∨ k = bb) w wr
  fo : ∀ k, fo1 = some k → fo = some k ∨ w.heap.size ≤ k

theorem WipeS.trans {w wr w' : World} {B lg bb bc g gb : Nat} {fo fo1 fo' : Option Nat} {vr : Value} {ps : List Rc} {s s1 s' : BSt} {d d1 d' : Lg} {p i j : Nat} (h : WipeS w B lg bb bc g gb fo vr ps s d p i wr fo1 s1 d1)
    (hst : StAt w' B g gb fo' s') (hlo : LoAt w' B lg bb bc g vr ps d') (hr : WipeR s d (max p (j * 64)) (d.n - j) s' d') (ho : Only (fun k => stF g gb fo1 k ∨ k = lg ∨ k = bb) wr w') (hf : ∀ k, fo' = some k → fo1 = some k ∨ wr.heap.size ≤ k) :
    WipeS w B lg bb bc g gb fo vr ps s d p j w' fo' s' d' :=
  ⟨hst, hlo, hr, h.only.trans' ho (fun k hk => by
    rcases hk with (hk | hk | hk) | hk
    · exact .inl (.inl (.inl hk))
    · exact .inl (.inl (.inr (.inl hk)))
    · rcases h.fo k hk with h1 | h1
      · exact .inl (.inl (.inr (.inr h1)))
      · exact .inr h1
    · exact .inl (.inr hk)), fun k hk => by
    rcases hf k hk with h1 | h1
    · exact h.fo k h1
    · exact .inr (Nat.le_trans h.only.size h1)⟩

def WipeJ (w : World) (B lg bb bc g gb : Nat) (fo : Option Nat) (vr : Value) (ps : List Rc) (s : BSt) (d : Lg) (p : Nat) (a' : Act) (wr : World) : Prop :=
  ∃ (i : Nat) (fo1 : Option Nat) (s1 : BSt) (d1 : Lg) (u2 u3 u4 u6 u7 u8 u9 u10 u11 u12 u13 u14 u15 u16 u17 u18 u19 u20 u21 u22 u23 u24 u25 u26 u27 u28 u29 u30 u31 u32 u33 u34 u35 u36 u37 u38 u39 u40 u41 u42 u43 u44 u45 u46 u47 u48 : Value), a' = { tmps := List.toArray ((.pointer (some ⟨lg, 0, none⟩)) :: (.int .i64 (p : Int)) :: (u2) :: (u3) :: (u4) :: (.int .i64 (i : Int)) :: (u6) :: (u7) :: (u8) :: (u9) :: (u10) :: (u11) :: (u12) :: (u13) :: (u14) :: (u15) :: (u16) :: (u17) :: (u18) :: (u19) :: (u20) :: (u21) :: (u22) :: (u23) :: (u24) :: (u25) :: (u26) :: (u27) :: (u28) :: (u29) :: (u30) :: (u31) :: (u32) :: (u33) :: (u34) :: (u35) :: (u36) :: (u37) :: (u38) :: (u39) :: (u40) :: (u41) :: (u42) :: (u43) :: (u44) :: (u45) :: (u46) :: (u47) :: (u48) :: []), defers := [] } ∧ i < d.n ∧ Hid (WipeS w B lg bb bc g gb fo vr ps s d p (i + 1) wr fo1 s1 d1)

set_option maxRecDepth 100000 in
set_option maxHeartbeats 3200000 in
theorem lWipe_any (w : World) (B lg bb bc g gb : Nat) (fo : Option Nat) (vr : Value) (ps : List Rc) (s : BSt) (d : Lg) (p : Nat) (hs : StAt w B g gb fo s) (h : LoAt w B lg bb bc g vr ps d)
    (hon : s.off = false) (hsync : Sync s d) (hfit : d.fr + d.n ≤ s.n) (hc0 : 0 ≤ s.cnt) (hc : s.cnt ≤ 4000000000000000000) :
    Calls Try.prog 91 #[.pointer (some ⟨lg, 0, none⟩), .int .i64 (p : Int)] w (WipePost w B lg bb bc g gb fo vr ps s d p) := by
  have hcs := h.cells
  obtain ⟨-, -, c2, -, -, -, -⟩ := hcs
  have hn1 := h.n1
  have hn2 := h.n2
  have START : Hid (WipeS w B lg bb bc g gb fo vr ps s d p (d.n - 1 + 1) w fo s d) := ⟨hs, h, (WipeR.start hon h.blen _ (by omega)).more (by omega), .refl _ _, fun k hk => .inl hk⟩
  have HSY := Lib.hid hsync
  have HBL := Lib.hid h.blen
  have HFIT := Lib.hid hfit
  have HC0 := Lib.hid hc0
  have HC := Lib.hid hc
  obtain ⟨n, hn⟩ : ∃ n, d.n = n := ⟨_, rfl⟩
  rw [hn] at c2 hn1 hn2 START
  have HN := Lib.hid hn
  clear h hs hsync hfit hon hc0 hc hn
  go_enter Try.func91, Try.ntmps91
  go_wp2_with fail
  refine wp_scope_jumps2 0 (WipeJ w B lg bb bc g gb fo vr ps s d p) (fun a' _ => (intOf (a'.tmps.getD 5 undef)).toNat) rfl ?_ ?_
  · intro hq
    go_wp2_with (fail)
    have em : ((n - 1 : Nat) : Int) = (n : Int) - 1 := by omega
    rw [← em]
    clear em
    go_step3
    exact (by assumption : ∀ a w, Code.wp _ _ _ a w → _) _ _ (hq _ _ ⟨n - 1, fo, s, d, _, _, _, _, _, _, _, _, _, _, _, _, _, _, _, _, _, _, _, _, _, _, _, _, _, _, _, _, _, _, _, _, _, _, _, _, _, _, _, _, _, _, _, _, _, _, rfl, by rw [HN.out]; omega, START⟩)
  · rintro a wr ⟨i, fo1, s1, d1, u2, u3, u4, u6, u7, u8, u9, u10, u11, u12, u13, u14, u15, u16, u17, u18, u19, u20, u21, u22, u23, u24, u25, u26, u27, u28, u29, u30, u31, u32, u33, u34, u35, u36, u37, u38, u39, u40, u41, u42, u43, u44, u45, u46, u47, u48, rfl, hi, HS⟩
    clear START c2
    rw [HN.out] at hi
    have hip : (i : Int) ≤ 32768 := by omega
    by_cases hpi : p < i * 64 + 64
    · have e1 : (p : Int) < (i : Int) * 64 + 64 := by omega
      obtain ⟨K, hK⟩ : ∃ K, p - i * 64 = K := ⟨_, rfl⟩
      have hmx : (if (p : Int) - (i : Int) * 64 < 0 then 0 else (p : Int) - (i : Int) * 64) = (K : Int) := by split <;> omega
      have hK64 : K < 64 := by omega
      have HK := Lib.hid hK
      clear hK
      have hdr := HS.out.r.d1
      have hn1' : d1.n = n := by rw [hdr]; exact HN.out
      have hfr1 : d1.fr = d.fr := by rw [hdr]
      have hcap := HS.out.lo.cap
      rw [hn1'] at hcap
      obtain ⟨T, hT⟩ : ∃ T, wr.heap.size = T := ⟨_, rfl⟩
      obtain ⟨W3, hW3⟩ : ∃ W3, wr.alloc (.cells (rowb 64 fun _ => 0) 5) = W3 := ⟨_, rfl⟩
      have hb3 : Below wr.heap.size wr W3 := by rw [← hW3]; exact (Below.refl _ _).alloc (Nat.le_refl _) _
      have r3 : W3.heap[T]? = some (.cells (rowb 64 fun _ => 0) 5 (0, 0)) := by rw [← hW3, ← hT]; exact heap_alloc_new _ _
      have lo3 := HS.out.lo.below hb3
      have c3 := lo3.cells.2.2.2.1
      rw [hn1'] at c3
      have CP := Lib.hid (lPart_any lg bb bc n i W3 c3 (by omega) hn2 hcap.1)
      have hup := run_upto (some ⟨bb, i * 64, none⟩) 64 (bc - i * 64) K (by omega) (by omega)
      have hsrc : Bs W3 (.slice (some ⟨bb, i * 64, none⟩) K (bc - i * 64)) ((lpt d1.b i).take K) := (lo3.bpart (by omega)).take K (by rw [lpt_len (by rw [lo3.blen, hn1']; omega)]; omega)
      have hsl : ((lpt d1.b i).take K).length = K := by rw [List.length_take, lpt_len (by rw [lo3.blen, hn1']; omega)]; omega
      have R3 := Lib.hid r3
      have HB3 := Lib.hid hb3
      have LO3 := Lib.hid lo3
      have SRC := Lib.hid hsrc
      have HSL := Lib.hid hsl
      have HT := Lib.hid hT
      have HDR := Lib.hid hdr
      have HN1 := Lib.hid hn1'
      have HFR1 := Lib.hid hfr1
      clear hdr hn1' hfr1 hb3 r3 lo3 c3 hsrc hsl
      go_upto_region 5 with (at_make; go_must (refine wpList_make_rowb elB 64 64 (by omega) (by omega) (by decide) rfl _ _ rfl _ _ rfl rfl ?_))
      try rw [hW3, hT]
      clear hW3 hT
      go_upto_region 6 with (first | (go_at_call 115; refine CP.out.mono ?_; rintro e w' ⟨rfl, rfl⟩) | (with_reducible refine wpList_copy_rowb rfl _ _ 43 43 rfl Try.underlying43 (by kernel_rfl) T 0 64 (fun _ => 0) R3.out 64 64 K (bc - i * 64) (some ⟨bb, i * 64, none⟩) rfl rfl ((lpt d1.b i).take K) HSL.out (by omega) SRC.out (by rw [HSL.out]; omega) ?_; intro w4 r4 o4))
      have hb4 : Below wr.heap.size wr w4 := HB3.out.trans (o4.below (fun k hk => by rw [hk, HT.out]; exact Nat.le_refl _) (by exact HB3.out.size))
      have st4 := HS.out.st.below hb4
      have lo4 := HS.out.lo.below hb4
      have c4 := lo4.cells.2.2.2.1
      rw [HN1.out] at c4
      have CP4 := Lib.hid (lPart_any lg bb bc n i w4 c4 (by omega) hn2 hcap.1)
      obtain ⟨cl, hcl⟩ : ∃ cl, lclean d1.b i p = cl := ⟨_, rfl⟩
      obtain ⟨pt, hpt⟩ : ∃ pt, lpt d1.b i = pt := ⟨_, rfl⟩
      have ho4 : Ob w4 T 5 (.slice (some ⟨T, 0, none⟩) 64 64) cl := by
        rw [← hcl]
        unfold lclean
        rw [HK.out]
        exact ob_rowb r4.out T 64 (Nat.le_refl _) (Nat.le_refl _) (by decide)
      have hp4 : Bs w4 (.slice (some ⟨bb, i * 64, none⟩) 64 (bc - i * 64)) pt := by rw [← hpt]; exact lo4.bpart (by rw [HN1.out]; omega)
      have CE := Lib.hid (equal_any _ _ cl pt w4 ho4.bs hp4)
      have HB4 := Lib.hid hb4
      have ST4 := Lib.hid st4
      have LO4 := Lib.hid lo4
      have HO4 := Lib.hid ho4
      have HCL := Lib.hid hcl
      have HPT := Lib.hid hpt
      have hbl : d.b.length = d.n * 64 := HBL.out
      have hind : i < d.n := by rw [HN.out]; exact hi
      have HIND := Lib.hid hind
      have HPI := Lib.hid hpi
      clear hb4 st4 lo4 c4 ho4 hp4 hcl hpt r4 o4 R3 HB3 LO3 SRC HSL CP hup hmx hbl hind
      obtain ⟨q, hq⟩ : ∃ q, (cl == pt) = q := ⟨_, rfl⟩
      rw [hq] at CE
      have HQ := Lib.hid hq
      clear hq
      go_upto_if 37 with (first | (go_at_call 115; refine CP4.out.mono ?_; rintro e w' ⟨rfl, rfl⟩) | (go_at_call 116; refine CE.out.mono ?_; rintro e w' ⟨rfl, rfl⟩))
      cases q with
      | true =>
        have HS2 : Hid (WipeS w B lg bb bc g gb fo vr ps s d p i w' fo1 s1 d1) := by
          refine HS.out.trans ST4.out LO4.out ((HS.out.r.skip HSY.out HBL.out HIND.out HPI.out ?_).more (by have := HN.out; omega)) (.of_below HB4.out) (fun k hk => .inl hk)
          rw [HCL.out, HPT.out]
          exact beq_iff_eq.1 HQ.out
        clear HB4 ST4 LO4 HO4
        obtain ⟨fo9, s9, d9, HS2⟩ : ∃ a b c, Hid (WipeS w B lg bb bc g gb fo vr ps s d p i w' a b c) := ⟨_, _, _, HS2⟩
        by_cases hi0 : i = 0
        · subst hi0
          have HF := Lib.hid (HS2.out.r)
          go_wp2
          simp only [Exit.jump]
          go_ret
          refine ⟨_, _, _, 0, rfl, HS2.out.st, HS2.out.lo, .inl ⟨rfl, ?_⟩, HS2.out.only, HS2.out.fo⟩
          have := HF.out
          rw [Nat.zero_mul, Nat.max_zero, Nat.sub_zero] at this
          exact this
        · have e3 : (0 : Int) < (i : Int) := by omega
          obtain ⟨m, hm⟩ : ∃ m, i = m + 1 := ⟨i - 1, by omega⟩
          have em : (m : Int) = (i : Int) - 1 := by omega
          have HS3 : Hid (WipeS w B lg bb bc g gb fo vr ps s d p (m + 1) w' fo9 s9 d9) := by rw [← hm]; exact HS2.out
          have HM := Lib.hid hm
          clear hm hi0
          go_wp2_with fail
          rw [← em]
          go_step3
          exact ⟨rfl, ⟨m, _, _, _, _, _, _, _, _, _, _, _, _, _, _, _, _, _, _, _, _, _, _, _, _, _, _, _, _, _, _, _, _, _, _, _, _, _, _, _, _, _, _, _, _, _, _, _, _, _, rfl, by have := HM.out; have := HN.out; omega, HS3⟩, by simp [intOf]; have := HM.out; omega⟩
      | false =>
        have hsoff : ∀ k, (Value.slice (some ⟨T, 0, none⟩) 64 64).ownBlock = some k → ¬ stF g gb fo1 k := by
          intro k hk hf
          simp only [Value.ownBlock, Option.some.injEq] at hk
          have := (HS.out.st.foot k hf).2
          have := HT.out
          omega
        have CW := lWrite_any w' B lg bb bc g gb fo1 vr ps s1 d1 i (.slice (some ⟨T, 0, none⟩) 64 64) cl ST4.out LO4.out HO4.out.bs (by rw [← HCL.out]; exact lclean_len _ _ _) hsoff (by rw [HN1.out]; omega) (by have := HFIT.out; have := HFR1.out; have := HN1.out; have := HN.out; have := HS.out.r.n; omega)
          (by have := HS.out.r.lo; have := HC0.out; omega) (by have := HS.out.r.hi; have := HC.out; have := HN.out; omega)
        have hEc := bwrE_cases s1 ((d1.fr : Int) + i) cl (by omega) (by have := HFIT.out; have := HFR1.out; have := HN.out; have := HS.out.r.n; omega) (by rw [← HCL.out]; exact lclean_len _ _ _)
        have hstep := HS.out.r.step (i := i) HSY.out HBL.out HIND.out HPI.out HFIT.out
        have htorn := HS.out.r.torn (i := i) HSY.out HBL.out HIND.out HPI.out HFIT.out
        rw [HCL.out, ← HFR1.out] at hstep htorn
        have CWH := Lib.hid CW
        have HSTEP := Lib.hid hstep
        have HTORN := Lib.hid htorn
        clear CW hstep htorn hsoff
        rcases hEc with hE | hE
        · have HSTEP := Lib.hid (HSTEP.out hE)
          rw [if_pos hE, hE] at CWH
          clear HTORN hE
          go_wp2_with fail
          refine CWH.out.mono ?_
          rintro e w5 ⟨fo2, rfl, hst5, hlo5, ho5, hf5⟩
          have HS2 := Lib.hid (HS.out.trans hst5 hlo5 (HSTEP.out.more (by have := HN.out; omega)) (Only.trans (.of_below HB4.out) ho5) (fun k hk => by
            rcases hf5 k hk with h1 | h1
            · exact .inl h1
            · exact .inr (Nat.le_trans HB4.out.size h1)))
          clear hst5 hlo5 ho5 hf5 HB4 ST4 LO4 HO4
          obtain ⟨fo9, s9, d9, HS2⟩ : ∃ a b c, Hid (WipeS w B lg bb bc g gb fo vr ps s d p i w5 a b c) := ⟨_, _, _, HS2⟩
          by_cases hi0 : i = 0
          · subst hi0
            have HF := Lib.hid (HS2.out.r)
            go_wp2
            simp only [Exit.jump]
            go_ret
            refine ⟨_, _, _, 0, rfl, HS2.out.st, HS2.out.lo, .inl ⟨rfl, ?_⟩, HS2.out.only, HS2.out.fo⟩
            have := HF.out
            rw [Nat.zero_mul, Nat.max_zero, Nat.sub_zero] at this
            exact this
          · have e3 : (0 : Int) < (i : Int) := by omega
            obtain ⟨m, hm⟩ : ∃ m, i = m + 1 := ⟨i - 1, by omega⟩
            have em : (m : Int) = (i : Int) - 1 := by omega
            have HS3 : Hid (WipeS w B lg bb bc g gb fo vr ps s d p (m + 1) w5 fo9 s9 d9) := by rw [← hm]; exact HS2.out
            have HM := Lib.hid hm
            clear hm hi0
            go_wp2_with fail
            rw [← em]
            go_step3
            exact ⟨rfl, ⟨m, _, _, _, _, _, _, _, _, _, _, _, _, _, _, _, _, _, _, _, _, _, _, _, _, _, _, _, _, _, _, _, _, _, _, _, _, _, _, _, _, _, _, _, _, _, _, _, _, _, rfl, by have := HM.out; have := HN.out; omega, HS3⟩, by simp [intOf]; have := HM.out; omega⟩
        · have HTORN := Lib.hid (HTORN.out hE)
          rw [if_neg (by rw [hE]; decide), hE] at CWH
          clear HSTEP hE
          go_wp2_with fail
          refine CWH.out.mono ?_
          rintro e w5 ⟨fo2, rfl, hst5, hlo5, ho5, hf5⟩
          have HST5 := Lib.hid hst5
          have HLO5 := Lib.hid hlo5
          have HO5 := Lib.hid ho5
          have HF5 := Lib.hid hf5
          clear hst5 hlo5 ho5 hf5
          go_wp2
          simp only [Exit.jump]
          go_ret
          refine ⟨fo2, _, _, 50, rfl, HST5.out, HLO5.out, .inr ⟨rfl, ?_⟩, ?_, ?_⟩
          · have h1 := HTORN.out
            refine ⟨h1.n, h1.off, h1.fu0, h1.fu, h1.f, h1.lo, ?_, fun a b hf => ?_, h1.fr, h1.nn, h1.recs, h1.fin, h1.dead⟩
            · have := h1.hi
              have := HN.out
              omega
            · have := h1.fz a b hf
              have := HN.out
              omega
          · refine HS.out.only.trans' (Only.trans (.of_below HB4.out) HO5.out) (fun k hk => ?_)
            rcases hk with (hk | hk | hk) | hk
            · exact .inl (.inl (.inl hk))
            · exact .inl (.inl (.inr (.inl hk)))
            · rcases HS.out.fo k hk with h1 | h1
              · exact .inl (.inl (.inr (.inr h1)))
              · exact .inr h1
            · exact .inl (.inr hk)
          · intro k hk
            rcases HF5.out k hk with h1 | h1
            · exact HS.out.fo k h1
            · exact .inr (Nat.le_trans HS.out.only.size (Nat.le_trans HB4.out.size h1))
    · have e1 : ¬ (p : Int) < (i : Int) * 64 + 64 := by omega
      have hmax : max p ((i + 1) * 64) = p := by omega
      have HMX := Lib.hid hmax
      clear hmax hpi
      go_wp2_with fail
      simp only [Exit.jump]
      go_ret
      refine ⟨fo1, s1, d1, 0, rfl, HS.out.st, HS.out.lo, .inl ⟨rfl, ?_⟩, HS.out.only, HS.out.fo⟩
      have := HS.out.r
      rw [HMX.out] at this
      exact this.more (by omega)

end Go.Proofs.Ytbonapdainlpjaa
