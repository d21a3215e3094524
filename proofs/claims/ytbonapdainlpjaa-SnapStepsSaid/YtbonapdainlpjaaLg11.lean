/- Layer 35 (log): Append, where there is room. -/
import Derived.Test.YtbonapdainlpjaaLg10
import Derived.Deep.RegionLaw
import Derived.Deep.RegionHeld3
import Derived.Deep.DrawnRows
import Derived.Deep.CutBlock
set_option linter.unusedSimpArgs false
namespace Go.Proofs.Ytbonapdainlpjaa
open Go.RowKit Go.Sort

/-- what is common to both ends of an append that went well -/
structure AppOk (s : BSt) (d : Lg) (r : List UInt8) (k : Nat) (s' : BSt) (d' : Lg) : Prop where
  n : s'.n = s.n
  on : s'.off = false
  f : AppF s d (lapp d r) (d.n * 64) s'.f
  fu : s.fu = none → s'.fu = none
  lo : s.cnt ≤ s'.cnt
  hi : s'.cnt ≤ s.cnt + k
  fz : ∀ a b, s.fu = some (a, b) → ∃ a', s'.fu = some (a', b) ∧ a ≤ a' + k
  d1 : d' = { d with b := lapp d r, fin := d.fin + (lstands r).length, recs := d.recs ++ [r] }

def AppendPost (w : World) (B lg bb bc g gb : Nat) (fo : Option Nat) (vr : Value) (ps : List Rc) (s : BSt) (d : Lg) (r : List UInt8) (e : Ending) (w' : World) : Prop :=
  ∃ fo' s' d' vr' ps' E, e = .returned (.int .i64 E) ∧ StAt w' B g gb fo' s' ∧ LoAt w' B lg bb bc g vr' ps' d' ∧
    ((E = 0 ∧ (∃ x : Rc, ps' = ps ++ [x]) ∧ AppOk s d r d.n s' d') ∨ (E = 50 ∧ vr' = vr ∧ ps' = ps ∧ TornA s d (lapp d r) d.n s' d')) ∧
    Only (fun k => stF g gb fo k ∨ k = lg ∨ k = bb ∨ vr.ownBlock = some k) w w' ∧ (∀ k, fo' = some k → fo = some k ∨ w.heap.size ≤ k) ∧ (vr'.ownBlock = vr.ownBlock ∨ ∀ k, vr'.ownBlock = some k → w.heap.size ≤ k) ∧
    (∀ x ∈ ps', x ∈ ps ∨ ∀ k, x.v.ownBlock = some k → w.heap.size ≤ k)

theorem Only.of_below' {F : Nat → Prop} {w w' : World} (h : Below w.heap.size w w') : Only F w w' := .of_below h
/-- the end and the records set anew, the records' row appended to -/
theorem LoAt.upd2 {w W : World} {B lg bb bc g : Nat} {vr vr' : Value} {ps ps' : List Rc} {d : Lg} {fin' : Nat} {recs' : List (List UInt8)} (h : LoAt w B lg bb bc g vr ps d) (ho : Only (fun k => k = lg ∨ vr.ownBlock = some k) w W)
    (hr : W.heap[lg]? = some (.cells (loRow g bb bc vr' { d with fin := fin', recs := recs' }) 128 (0, 0))) (hg : Gw 1 csP W B 43 vr' ps') (he : ∀ p ∈ ps', Ob W B 5 p.v p.2 ∧ p.v.ownBlock ≠ some bb) (hi : rbs ps' = recs') (hf : fin' ≤ d.n * 64) (hl : ps'.length ≤ fin') :
    LoAt W B lg bb bc g vr' ps' { d with fin := fin', recs := recs' } := by
  obtain ⟨n1, n2, n3, n4⟩ := h.ne_b
  refine ⟨h.low, h.lowb, hr, h.b.only ho ?_, h.blen, h.n1, h.n2, h.f2, hg, he, hi, hf, hl⟩
  rintro (e | e)
  · exact n1 e.symm
  · exact n2 e

section
variable {P : Program} {α : Type} {sz : Nat} {cs : α → List Value} {t e : TypeId} {z : Value} {bytes : Nat} {ops : Array Oper} {o : Oper} {a : Act} {Q : Exit → Act → World → Prop} {base : Nat} {v : Value} {l : List α} {w : World}
theorem step_append_g {K : Act → World → Prop} {F : Prop} (L : Lay sz cs) (hown : Gw sz cs w base e v l) {y : Value} {m : List α} (hrd : Gs sz cs w y m) (E : ElTy P t e z sz bytes) (h63 : (l.length + m.length) * bytes ≤ 140737488355328) (hmx : l.length + m.length ≤ 9223372036854775807) (hbase : base ≤ w.heap.size)
    (h : ∀ v' w', Gw sz cs w' base e v' (l ++ m) → w.grownBy w' v.ownBlock → (v'.ownBlock = v.ownBlock ∨ v'.ownBlock = some w.heap.size) → K (a.put o.dst v') w')
    (so xo : Operand) (hgd : o.guard = none) (ho : o.op = .call { callee := .builtin .append, args := #[so, xo], argTypes := #[t, t] })
    (hs : a.eval so = v) (hx : a.eval xo = y) : if Region.wanted o (yielded ops a.tmps) = true then Oper.wp P o a w K Q else F := by
  have hw : Region.wanted o (yielded ops a.tmps) = true := by simp [Region.wanted, hgd]
  rw [if_pos hw]
  refine wp_append_mv so xo t ho E base v l.length (gcells cs l) y m.length (gcells cs m) hs hown hx hrd (gcells_one L m) (by simpa [maxLen] using hmx) h63 hbase ?_
  intro v' w' h1 h2 h3
  refine h v' w' ?_ h2 h3
  unfold Gw
  rw [gcells_append, List.length_append]
  exact h1
end

theorem Row.part {w : World} {T cT : Nat} {al : List UInt8} (h : Row 1 csU w 5 T cT al) {i : Nat} (hi : i * 64 + 64 ≤ al.length) : Bs w (.slice (Option.some ⟨T, i * 64, none⟩) 64 (cT - i * 64)) (lpt al i) := by
  have h1 := h.bs.cut (i * 64) (i * 64 + 64) (by omega) hi
  have h2 := h.le
  rw [if_neg (by omega), show i * 64 + 64 - i * 64 = 64 by omega] at h1
  unfold lpt
  simpa [Addr.add_lit] using h1

theorem meets {A : Act} {R : (Nat → Value) → Act} (h : A = R (fun i => A.tmps.getD i undef)) : ∃ f, A = R f := ⟨_, h⟩

structure AppS (w : World) (B lg bb bc g gb : Nat) (fo : Option Nat) (vr : Value) (ps : List Rc) (s : BSt) (d : Lg) (al : List UInt8) (T cT i : Nat) (wr : World) (fo1 : Option Nat) (s1 : BSt) (d1 : Lg) : Prop where
  st : StAt wr B g gb fo1 s1
  lo : LoAt wr B lg bb bc g vr ps d1
  r : AppR s d al i i s1 d1
  only : Only (fun k => stF g gb fo k ∨ k = lg ∨ k = bb) w wr
  fo : ∀ k, fo1 = some k → fo = some k ∨ w.heap.size ≤ k
  row : Row 1 csU wr 5 T cT al
  new : w.heap.size ≤ T

set_option maxRecDepth 100000 in
def AppJ (w : World) (B lg bb bc g gb : Nat) (fo : Option Nat) (vr : Value) (ps : List Rc) (s : BSt) (d : Lg) (al : List UInt8) (S N : Nat) (v : Value) (a' : Act) (wr : World) : Prop :=
  ∃ (i : Nat) (fo1 : Option Nat) (s1 : BSt) (d1 : Lg) (T cT : Nat) (a1 : Option Addr) (c1 : Nat), (∃ f : Nat → Value, a' = { tmps := List.toArray ((.pointer (some ⟨lg, 0, none⟩)) :: (v) :: (f 2) :: (f 3) :: (f 4) :: (.slice a1 S c1) :: (.slice (some ⟨T, 0, none⟩) N cT) :: (.int .i64 (i : Int)) :: (f 8) :: (f 9) :: (f 10) :: (f 11) :: (f 12) :: (f 13) :: (f 14) :: (f 15) :: (f 16) :: (f 17) :: (f 18) :: (f 19) :: (f 20) :: (f 21) :: (f 22) :: (f 23) :: (f 24) :: (f 25) :: (f 26) :: (f 27) :: (f 28) :: (f 29) :: (f 30) :: (f 31) :: (f 32) :: (f 33) :: (f 34) :: (f 35) :: (f 36) :: (f 37) :: (f 38) :: (f 39) :: (f 40) :: (f 41) :: (f 42) :: (f 43) :: (f 44) :: (f 45) :: (f 46) :: (f 47) :: (f 48) :: (f 49) :: (f 50) :: (f 51) :: (f 52) :: (f 53) :: (f 54) :: (f 55) :: (f 56) :: (f 57) :: (f 58) :: (f 59) :: (f 60) :: (f 61) :: (f 62) :: (f 63) :: (f 64) :: (f 65) :: (f 66) :: (f 67) :: (f 68) :: (f 69) :: (f 70) :: (f 71) :: (f 72) :: (f 73) :: (f 74) :: (f 75) :: (f 76) :: (f 77) :: (f 78) :: (f 79) :: (f 80) :: (f 81) :: (f 82) :: (f 83) :: (f 84) :: (f 85) :: (f 86) :: (f 87) :: (f 88) :: (f 89) :: (f 90) :: (f 91) :: (f 92) :: (f 93) :: (f 94) :: (f 95) :: (f 96) :: (f 97) :: (f 98) :: (f 99) :: (f 100) :: (f 101) :: (f 102) :: (f 103) :: (f 104) :: (f 105) :: (f 106) :: (f 107) :: (f 108) :: (f 109) :: (f 110) :: (f 111) :: (f 112) :: (f 113) :: []), defers := [] }) ∧ i ≤ d.n ∧ Hid (AppS w B lg bb bc g gb fo vr ps s d al T cT i wr fo1 s1 d1)

set_option maxRecDepth 100000 in
set_option maxHeartbeats 3200000 in
theorem lAppend_any (w : World) (B lg bb bc g gb : Nat) (fo : Option Nat) (vr : Value) (ps : List Rc) (s : BSt) (d : Lg) (v : Value) (r : List UInt8) (hs : StAt w B g gb fo s) (h : LoAt w B lg bb bc g vr ps d)
    (hd : d.dead = false) (hon : s.off = false) (hsync : Sync s d) (htail : Tail d) (hfit : d.fr + d.n ≤ s.n) (hc0 : 0 ≤ s.cnt) (hc : s.cnt ≤ 4000000000000000000) (hv : Bs w v r) (hvd : ∀ k, v.ownBlock = some k → ¬ (stF g gb fo k ∨ k = lg ∨ k = bb))
    (hr : lgood r) (hf : d.fin + (lstands r).length ≤ d.n * 64) (hB : B ≤ w.heap.size) :
    Calls Try.prog 51 #[.pointer (some ⟨lg, 0, none⟩), v] w (AppendPost w B lg bb bc g gb fo vr ps s d r) := by
  have hcs := h.cells
  obtain ⟨c0, -, -, c3, c4, -, c6⟩ := hcs
  rw [hd] at c6
  have HH := Lib.hid h
  have HSS := Lib.hid hs
  have HSY := Lib.hid hsync
  have HTL := Lib.hid htail
  have HFIT := Lib.hid hfit
  have HC0 := Lib.hid hc0
  have HC := Lib.hid hc
  have HON := Lib.hid hon
  have HV := Lib.hid hv
  have HVD := Lib.hid hvd
  have HB := Lib.hid hB
  have HF := Lib.hid hf
  have HBL := Lib.hid h.blen
  have C := Lib.hid (lIs_any lg g w c0)
  have CS := Lib.hid (stands_any v r w hv (by have := hr.2; omega))
  obtain ⟨av, cv, rfl⟩ := hv.shape
  have HR := Lib.hid hr
  obtain ⟨h1, h2⟩ := hr
  have e1 : ¬ (r.length : Int) < 1 := by omega
  have e2 : ¬ (262144 : Int) < r.length := by omega
  have hfin := h.fin
  have hn2 := h.n2
  obtain ⟨al, hal⟩ : ∃ al, lapp d r = al := ⟨_, rfl⟩
  obtain ⟨n, hn⟩ : ∃ n, d.n = n := ⟨_, rfl⟩
  obtain ⟨N, hN⟩ : ∃ N, d.n * 64 = N := ⟨_, rfl⟩
  obtain ⟨q, hq⟩ : ∃ q, d.fin = q := ⟨_, rfl⟩
  obtain ⟨S, hS⟩ : ∃ S, (lstands r).length = S := ⟨_, rfl⟩
  rw [hN] at hf hfin
  rw [hq, hS] at hf
  rw [hq] at hfin
  have e3 : ¬ (N : Int) - (q : Int) < (S : Int) := by omega
  have HSL := Lib.hid hS
  have HNN := Lib.hid hN
  have HQ := Lib.hid hq
  have HAL := Lib.hid hal
  have hNb : N ≤ 2097152 := by omega
  have hSb : S ≤ 2097152 := by omega
  have hS1 : 1 ≤ S := by rw [← hS, lstands_len]; omega
  have hw : IntKind.i64.wrap ((N : Int) - (q : Int)) = (N : Int) - (q : Int) := IntWalk.i64_in _ (by omega)
  have HN := Lib.hid hn
  clear h hd hv hn hN hq hS c3 c4 hs hsync htail hfit hc0 hc hon hvd hB hal
  go_enter Try.func51, Try.ntmps51
  go_wp2_with fail
  refine wp_scope_jumps2 0 (AppJ w B lg bb bc g gb fo vr ps s d al S N (.slice av r.length cv)) (fun a' _ => n - (intOf (a'.tmps.getD 7 undef)).toNat) rfl ?_ ?_
  · intro hp
    have HP := Lib.hid hp
    clear hp
--<F
    go_wp2_with (first | (go_at_call 93; refine C.out.mono ?_; rintro e w' ⟨rfl, rfl⟩) | (go_at_call 97; refine CS.out.mono ?_; rintro e w1 ⟨v1, rfl, ho1, hb1⟩; obtain ⟨a1, c1', hs1⟩ := ho1.shape; rw [HSL.out] at hs1; subst hs1; have HB1 := Lib.hid hb1; have HO1 := Lib.hid ho1; clear ho1 hb1))
    have hc1 := (HH.out.below HB1.out).cells
    obtain ⟨-, -, -, c3, c4, -, -⟩ := hc1
    rw [HNN.out] at c3
    rw [HQ.out] at c4
    have r3 := fun d os => cell_regrown c3 d os
    have r4 := fun d os => cell_regrown c4 d os
    clear c3 c4
    refine wp_region_quiet_below (by kernel_rfl) (by kernel_rfl) ?_
    repeat (go_big_quiet_step ((fail)))
    refine wpQuiet_nil ?_
    intro _ hw'
    obtain ⟨⟨dq, osq⟩, hw''⟩ := hw'
    subst hw''
    have HB2 := below_regrown w1 dq osq
    obtain ⟨W2, hwq⟩ : ∃ x, x = grow (redrawn w1 dq) osq := ⟨_, rfl⟩
    rw [← hwq] at HB2 ⊢
    clear hwq
    have HB12 := Lib.hid HB2
    have HB2 := Lib.hid (HB1.out.trans (HB2.mono HB1.out.size))
    have HO2 := Lib.hid (HO1.out.below HB12.out)
    clear r3 r4
    have hlo2 := HH.out.below HB2.out
    obtain ⟨Y, hY, hYb⟩ := Bs.upto (P := Try.prog) elB hlo2.bs q (by rw [hlo2.blen, HNN.out]; omega)
    rw [HNN.out] at hY
    have HYB := Lib.hid (hYb.below (Below.refl W2.heap.size W2).drew)
    have hc2 := hlo2.cells
    obtain ⟨-, -, -, c3, c4, -, -⟩ := hc2
    rw [HNN.out] at c3
    rw [HQ.out] at c4
    have KS : Hid (∀ V : World, Below W2.heap.size W2 V → V.cell? ⟨lg, 3, none⟩ = some (.slice (some ⟨bb, 0, none⟩) N bc) ∧ V.cell? ⟨lg, 4, none⟩ = some (.int .i64 q)) := fun V hV => by
      have := (hlo2.below hV).cells
      rw [HNN.out, HQ.out] at this
      exact ⟨this.2.2.2.1, this.2.2.2.2.1⟩
    have CC := Lib.hid (clone1_any Y (d.b.take q) W2.drew HYB.out (by rw [List.length_take, HBL.out, HNN.out]; omega))
    have htl : (d.b.take q).length = q := by rw [List.length_take, HBL.out, HNN.out]; omega
    have HTL2 := Lib.hid htl
    clear hlo2 hYb c3 c4 htl
    go_wp2_with fail
    go_region_held3 (fun W => W.cell? ⟨lg, 3, none⟩ = some (.slice (some ⟨bb, 0, none⟩) N bc) ∧ W.cell? ⟨lg, 4, none⟩ = some (.int .i64 q)) (first
      | (with_reducible exact KS.out _ B4)
      | (with_reducible exact KS.out _ B3)
      | (with_reducible exact KS.out _ ((Below.refl _ _).drew))) (first
      | (go_at_call 98; (with_reducible refine CC.out.mono ?_); rintro e w3 ⟨v3, rfl, ho3, hb3⟩; have B3 : Below W2.heap.size W2 w3 := (Below.refl W2.heap.size W2).drew.trans hb3; have O3 := Lib.hid ho3; clear ho3 hb3)
      | (refine step_append_bytes_mv O3.out (HO2.out.bs.below B3) elB (by rw [HTL2.out, HSL.out]; omega) (by rw [HTL2.out, HSL.out]; omega) B3.size ?_ _ _ rfl rfl rfl rfl; intro v4 w4 ho4 hg4 hm4; have B4 : Below W2.heap.size W2 w4 := B3.trans ((Below.refl _ _).grown hg4 B3.size (fun k hk => (O3.out.lt k hk).1)); have O4 := Lib.hid ho4; clear ho4 hg4 hm4))
    have hal4 : (d.b.take q ++ lstands r).length = q + S := by rw [List.length_append, HTL2.out, HSL.out]
    obtain ⟨a4, c4', hs4⟩ := O4.out.shape
    obtain ⟨M, hM⟩ : ∃ M, q + S = M := ⟨_, rfl⟩
    rw [hal4, hM] at hs4
    subst hs4
    obtain ⟨v5, w5, hrun, ho5, hb5⟩ := run_append_zeros w4 w'.heap.size _ _ (N - M) (O4.out.mono (Nat.le_trans HB2.out.size (by simp))) (by rw [hal4]; omega) (by rw [hal4]; omega) (Nat.le_trans HB2.out.size B4.size) 43
    have hle : d.b.take q ++ lstands r ++ List.replicate (N - M) 0 = al := by
      rw [← HAL.out]
      unfold lapp
      rw [HNN.out, HQ.out, HSL.out, hM]
    rw [hle] at ho5
    have hall : al.length = N := by rw [← HAL.out, lapp_len HBL.out HF.out, HNN.out]
    obtain ⟨T, cT, rfl, hTB, hrow⟩ := ho5.row1 (by rw [hall]; omega)
    rw [hall] at hrun ho5
    have hNM : (N : Int) - (M : Int) = ((N - M : Nat) : Int) := by omega
    rw [← hNM] at hrun
    have HRUN := Lib.hid hrun
    have HROW := Lib.hid hrow
    have HTB := Lib.hid hTB
    have hb25 : Below w'.heap.size w' w5 := (HB2.out.trans (B4.mono HB2.out.size)).trans hb5
    have HB5 := Lib.hid hb25
    have hc4 := KS.out w4 B4
    obtain ⟨c43, -⟩ := hc4
    have hc5 := (HH.out.below hb25).cells
    have c54 := hc5.2.2.2.2.1
    rw [HQ.out] at c54
    have hMN : (M : Int) ≤ (N : Int) := by omega
    have HM := Lib.hid hM
    have HALL := Lib.hid hall
    clear hNM hal4 hM hrun ho5 hb5 hle hall hTB hrow hb25 hc5 hY
    go_wp2_with (at_builtin; go_must (refine wpList_append_run rfl _ _ 43 3 rfl (.slice a4 M c4') (.int .i64 ((N : Int) - M)) rfl rfl HRUN.out ?_))
    have eq64 : ((q / 64 : Nat) : Int) = (q : Int) / 64 := by omega
    rw [← eq64]
    go_step3
    refine (by assumption : ∀ a w, Code.wp _ _ _ a w → _) _ _ (HP.out _ _ ⟨q / 64, fo, s, d, T, cT, _, _, meets rfl, ?_, ?_⟩)
    · have := HNN.out
      omega
    · refine ⟨HSS.out.below HB5.out, HH.out.below HB5.out, ?_, .of_below HB5.out, fun k hk => .inl hk, HROW.out, HTB.out⟩
      rw [← HAL.out]
      exact (AppR.start HON.out HSY.out HBL.out HF.out (by rw [HQ.out]; omega)).more (Nat.zero_le _)
-->F
  · rintro a wr ⟨i, fo1, s1, d1, T, cT, a1, c1, ⟨f, rfl⟩, hi, HS⟩
--<G
    have hdr := HS.out.r.d1
    have hn1' : d1.n = n := by rw [hdr]; exact HN.out
    have hfr1 : d1.fr = d.fr := by rw [hdr]
    have hfin1 : d1.fin = q := by rw [hdr]; exact HQ.out
    have hcs := HS.out.lo.cells
    have c4 := hcs.2.2.2.2.1
    rw [hfin1] at c4
    have hall : al.length = N := by rw [← HAL.out, lapp_len HBL.out HF.out, HNN.out]
    have hNn : n * 64 = N := by rw [← HN.out]; exact HNN.out
    rw [HN.out] at hi
    have hip : (i : Int) ≤ 32768 := by omega
    have HDR := Lib.hid hdr
    have HN1 := Lib.hid hn1'
    have HFR1 := Lib.hid hfr1
    have HALL := Lib.hid hall
    have HNN2 := Lib.hid hNn
    have HIN := Lib.hid hi
    clear hdr hn1' hfr1 hfin1 hcs c0 c6
    by_cases hlt : i * 64 < q + S
    · have e4 : (i : Int) * 64 < (q : Int) + (S : Int) := by omega
      have hin : i < n := by omega
      have hai : i * 64 + 64 ≤ al.length := by rw [hall]; omega
      have hrl := HS.out.row.le
      have hsl := run_lpart T n cT i hin (by omega)
      rw [hNn] at hsl
      have htag : ∀ fo' s', StAt wr B g gb fo' s' → ∀ k, (Value.slice (some ⟨T, i * 64, none⟩) 64 (cT - i * 64)).ownBlock = some k → ¬ stF g gb fo' k := by
        intro fo' s' hst k hk hf
        simp only [Value.ownBlock, Option.some.injEq] at hk
        subst hk
        obtain ⟨A, u, h1, h2⟩ := hst.tag hf
        obtain ⟨cur, h3, _⟩ := HS.out.row.row
        have := tags_apart h1 h3
        subst this
        rcases h2 with h2 | h2 | h2 <;> exact absurd h2 (by decide)
      have hEc := bwrE_cases s1 ((d1.fr : Int) + i) (lpt al i) (by omega) (by have := HFIT.out; have := HFR1.out; have := HN.out; have := HS.out.r.n; omega) (lpt_len hai)
      have CW := lWrite_any wr B lg bb bc g gb fo1 vr ps s1 d1 i _ (lpt al i) HS.out.st HS.out.lo (HS.out.row.part hai) (lpt_len hai) (htag _ _ HS.out.st) (by rw [HN1.out]; exact hin) (by have := HFIT.out; have := HFR1.out; have := HN1.out; have := HN.out; have := HS.out.r.n; omega)
        (by have := HS.out.r.lo; have := HC0.out; omega) (by have := HS.out.r.hi; have := HC.out; omega)
      have hstep := HS.out.r.step (i := i) HBL.out (by rw [HALL.out, HNN.out]) (by rw [HN.out]; exact hin) HFIT.out
      have htorn := HS.out.r.torn (i := i) (by rw [HALL.out, HNN.out]) (by rw [HN.out]; exact hin) HFIT.out
      rw [← HFR1.out] at hstep htorn
      have CWH := Lib.hid CW
      have HSTEP := Lib.hid hstep
      have HTORN := Lib.hid htorn
      have HINN := Lib.hid hin
      clear CW hstep htorn htag hrl hai hin hi hlt
      rcases hEc with hE | hE
      · have HSTEP := Lib.hid (HSTEP.out hE)
        rw [if_pos hE, hE] at CWH
        clear HTORN hE hall hNn
        go_wp2_with (go_at_call 99; refine CWH.out.mono ?_; rintro e w5 ⟨fo2, rfl, hst5, hlo5, ho5, hf5⟩; have HST5 := Lib.hid hst5; have HLO5 := Lib.hid hlo5; have HO5 := Lib.hid ho5; have HF5 := Lib.hid hf5; clear hst5 hlo5 ho5 hf5)
        obtain ⟨fo9, s9, d9, HAP⟩ : ∃ x y z, Hid (AppS w B lg bb bc g gb fo vr ps s d al T cT (i + 1) w5 x y z) := by
          refine ⟨fo2, _, _, HST5.out, HLO5.out, HSTEP.out, ?_, ?_, HS.out.row.only HO5.out ?_, HS.out.new⟩
          · refine HS.out.only.trans' HO5.out (fun k hk => ?_)
            rcases hk with (hk | hk | hk) | hk
            · exact .inl (.inl (.inl hk))
            · exact .inl (.inl (.inr (.inl hk)))
            · rcases HS.out.fo k hk with h1 | h1
              · exact .inl (.inl (.inr (.inr h1)))
              · exact .inr h1
            · exact .inl (.inr hk)
          · intro k hk
            rcases HF5.out k hk with h1 | h1
            · exact HS.out.fo k h1
            · exact .inr (Nat.le_trans HS.out.only.size h1)
          · obtain ⟨cur, h3, _⟩ := HS.out.row.row
            rintro (hk | hk | hk)
            · obtain ⟨A, u, h1, h2⟩ := HS.out.st.tag hk
              have := tags_apart h1 h3
              subst this
              rcases h2 with h2 | h2 | h2 <;> exact absurd h2 (by decide)
            · subst hk
              exact absurd (tags_apart h3 HS.out.lo.row) (by decide)
            · subst hk
              have := HH.out.b.lt
              have := HS.out.new
              omega
        have em : ((i + 1 : Nat) : Int) = (i : Int) + 1 := by omega
        try rw [← em]
        go_step3
        refine ⟨rfl, ⟨i + 1, fo9, s9, d9, T, cT, a1, c1, meets rfl, ?_, HAP⟩, ?_⟩
        · have := HINN.out
          rw [HN.out]
          omega
        · have := HINN.out
          simp [intOf]
          omega
      · have HTORN := Lib.hid (HTORN.out hE)
        rw [if_neg (by rw [hE]; decide), hE] at CWH
        clear HSTEP hE hall hNn
        go_wp2_with (go_at_call 99; refine CWH.out.mono ?_; rintro e w5 ⟨fo2, rfl, hst5, hlo5, ho5, hf5⟩; have HST5 := Lib.hid hst5; have HLO5 := Lib.hid hlo5; have HO5 := Lib.hid ho5; have HF5 := Lib.hid hf5; clear hst5 hlo5 ho5 hf5)
        simp only [Exit.jump]
        go_ret
        have hlt := HTORN.out
        refine ⟨fo2, _, _, vr, ps, 50, rfl, HST5.out, HLO5.out, .inr ⟨rfl, rfl, rfl, ?_⟩, ?_, ?_, .inl rfl, fun x hx => .inl hx⟩
        · rw [HAL.out]
          refine ⟨hlt.n, hlt.off, hlt.fu0, hlt.fu, hlt.f, hlt.lo, ?_, fun x y hf => ?_, hlt.fr, hlt.nn, hlt.recs, hlt.fin, hlt.dead⟩
          · have := hlt.hi
            have := HINN.out
            rw [HN.out]
            omega
          · have := hlt.fz x y hf
            have := HINN.out
            rw [HN.out]
            omega
        · refine (HS.out.only.mono (G := fun k => stF g gb fo k ∨ k = lg ∨ k = bb ∨ vr.ownBlock = some k) (fun k _ hk => ?_)).trans' HO5.out (fun k hk => ?_)
          · rcases hk with hk | hk | hk
            · exact .inl hk
            · exact .inr (.inl hk)
            · exact .inr (.inr (.inl hk))
          · rcases hk with (hk | hk | hk) | hk | hk
            · exact .inl (.inl (.inl hk))
            · exact .inl (.inl (.inr (.inl hk)))
            · rcases HS.out.fo k hk with h1 | h1
              · exact .inl (.inl (.inr (.inr h1)))
              · exact .inr h1
            · exact .inl (.inr (.inl hk))
            · exact .inl (.inr (.inr (.inl hk)))
        · intro k hk
          rcases HF5.out k hk with h1 | h1
          · exact HS.out.fo k h1
          · exact .inr (Nat.le_trans HS.out.only.size h1)
    · have e4 : ¬ (i : Int) * 64 < (q : Int) + (S : Int) := by omega
      obtain ⟨hF, hD⟩ := (show AppR s d (lapp d r) i i s1 d1 by rw [HAL.out]; exact HS.out.r).done HBL.out HF.out HTL.out HSY.out (by rw [HQ.out, HSL.out]; omega) (by rw [HN.out]; exact hi)
      have f4 := row_free HS.out.lo.row 4
      obtain ⟨wA, hwA⟩ : ∃ V, wr.setCell ⟨lg, 4, none⟩ (.int .i64 ((q : Int) + S)) = V := ⟨_, rfl⟩
      have oA : Only (fun k => k = lg) wr wA := by rw [← hwA]; exact set_only wr lg 4 _
      have rowA : wA.heap[lg]? = some (.cells (loRow g bb bc vr { d with b := al, fin := q + S }) 128 (0, 0)) := by
        have h1 := row_setCell HS.out.lo.row 4 (.int .i64 ((q : Int) + S))
        rw [hwA] at h1
        rw [h1, hD, HAL.out]
        rfl
      have gA : Gw 1 csP wA B 43 vr ps := HS.out.lo.recs.only oA (fun k hk e => HS.out.lo.ne_b.2.2.1 (by rw [← e]; exact hk))
      have hvA : Bs wA (.slice av r.length cv) r := (HV.out.only HS.out.only HVD.out).only oA (fun k hk e => HVD.out k hk (.inr (.inl e)))
      have GA : Hid (∀ V : World, Below wA.heap.size wA V → Gw 1 csP V B 43 vr ps) := fun V hV => gA.below hV
      have KA : Hid (∀ V : World, Below wA.heap.size wA V → V.cell? ⟨lg, 5, none⟩ = some vr) := fun V hV => by
        rw [cell_of_row V lg 5 _ _ _ ((hV.block lg (heap_lt rowA)).trans rowA)]
        rfl
      have CCL : Hid (∀ V : World, Below wA.heap.size wA V → Calls Try.prog 98 #[.slice av r.length cv] V fun e w' => ∃ v', e = .returned v' ∧ Ob w' V.heap.size 5 v' r ∧ Below V.heap.size V w') := fun V hV => clone1_any _ r V (hvA.below hV) (by omega)
      have ROWA := Lib.hid rowA
      have HOA := Lib.hid oA
      have HFF := Lib.hid hF
      have HDD := Lib.hid hD
      have HPL : Hid (ps.length ≤ 2097152) := by
        have h1 := HH.out.few
        have h2 := HQ.out
        show _ ≤ _
        omega
      have HBA : Hid (B ≤ wA.heap.size) := Nat.le_trans HB.out (Nat.le_trans HS.out.only.size oA.size)
      have HNE : Hid (vr.ownBlock ≠ some lg) := HS.out.lo.ne_b.2.2.1
      clear oA rowA gA hvA hF hD hall hNn hi hlt
      go_wp2_with fail
      try rw [hwA]
      clear hwA f4 c4
      have c5A := KA.out wA (Below.refl _ _)
      go_region_law (first
        | (go_simp; go_at_call 98; (with_reducible refine (CCL.out _ (bw_dr (Below.refl _ _))).mono ?_); rintro e w3 ⟨v3, rfl, ho3, hb3⟩; have B3 : Below wA.heap.size wA w3 := (bw_dr (Below.refl _ _)).trans (hb3.mono (by simp)); obtain ⟨a3, c3', hs3⟩ := ho3.shape; subst hs3; have c53 := KA.out w3 B3; have c53a : ∀ ob, (w3.alloc ob).cell? ⟨lg, 5, none⟩ = some vr := fun ob => KA.out _ (bw_al B3 ob); have HO3 := Lib.hid ho3; clear ho3 hb3)
        | (refine step_append_g layP (GA.out _ (bw_al B3 _)) (gw_lit layP w3 43 #[.slice a3 r.length c3'] [(((a3, r.length, c3'), r) : Rc)] 1 rfl (by decide) rfl).gs elOB (by have := HPL.out; simp; omega) (by have := HPL.out; simp; omega) (Nat.le_trans HBA.out (bw_al B3 (.cells #[.slice a3 r.length c3'] 43)).size) ?_ _ _ rfl rfl rfl rfl; intro v5 w5 ho5 hg5 hm5; obtain ⟨n5, hn5⟩ : ∃ n, (ps ++ [(((a3, r.length, c3'), r) : Rc)]).length = n := ⟨_, rfl⟩; obtain ⟨a5, c5', hs5⟩ := ho5.gs.shape; rw [hn5] at hs5; subst hs5; clear hn5; have r55 : w5.heap[lg]? = some (.cells (loRow g bb bc vr { d with b := al, fin := q + S }) 128 (0, 0)) := ((grown_only hg5).block lg (by have := heap_lt ROWA.out; have := (bw_al B3 (.cells #[.slice a3 r.length c3'] 43)).size; omega) HNE.out).trans (((bw_al B3 _).block lg (heap_lt ROWA.out)).trans ROWA.out); have c55 : w5.cell? ⟨lg, 5, none⟩ = some vr := (by rw [cell_of_row w5 lg 5 _ _ _ r55]; rfl); have f55 := row_free r55 5; have R55 := Lib.hid r55; have HO5 := Lib.hid ho5; have HG5 := Lib.hid hg5; have HM5 := Lib.hid hm5; have HB3 := Lib.hid B3; clear ho5 hg5 hm5 r55 B3))
      all_goals
        have ob3 : Below wA.heap.size wA (w3.alloc (.cells #[.slice a3 r.length c3'] 43)) := bw_al HB3.out _
        have hsz1 : wr.heap.size ≤ wA.heap.size := HOA.out.size
        have hsz2 : w.heap.size ≤ wr.heap.size := HS.out.only.size
        have hsz3 := ob3.size
        have o5 : Only (fun k => k = lg ∨ vr.ownBlock = some k) wr w5 := ((HOA.out.mono (fun k _ hk => .inl hk)).trans (.of_below' ob3)).trans' (grown_only HG5.out) (fun k hk => .inl (.inr hk))
        have o6 : Only (fun k => k = lg ∨ vr.ownBlock = some k) wr (w5.setCell ⟨lg, 5, none⟩ (.slice a5 n5 c5')) := o5.trans' (set_only w5 lg 5 _) (fun k hk => .inl (.inl hk))
        have hx : Ob w5 B 5 (.slice a3 r.length c3') r := by
          have h1 := HO3.out.below (show Below w3.heap.size w3 (w3.alloc (.cells #[.slice a3 r.length c3'] 43)) from (Below.refl _ _).alloc (Nat.le_refl _) _)
          refine (h1.only (grown_only HG5.out) (fun k hk hk2 => ?_)).mono (Nat.le_trans HBA.out (by simp))
          have h2 := (HO3.out.lt k hk).1
          have h3 := (HS.out.lo.recs.lt k hk2).2
          simp at h2
          omega
        have hxn : ∀ k, (Value.slice a3 r.length c3').ownBlock = some k → wA.heap.size ≤ k := fun k hk => by have := (HO3.out.lt k hk).1; simpa using this
        have hbb : bb < w.heap.size := HH.out.b.lt
        have hlg : lg < w.heap.size := heap_lt HH.out.row
        have hlo : LoAt (w5.setCell ⟨lg, 5, none⟩ (.slice a5 n5 c5')) B lg bb bc g (.slice a5 n5 c5') (ps ++ [(((a3, r.length, c3'), r) : Rc)]) { d1 with fin := q + S, recs := d.recs ++ [r] } := by
          refine HS.out.lo.upd2 o6 ?_ (HO5.out.only (set_only w5 lg 5 _) (fun k hk e => ?_)) ?_ ?_ ?_ ?_
          · rw [HDD.out, HAL.out]
            exact row_setCell R55.out 5 _
          · subst e
            obtain ⟨A, hA⟩ := HO5.out.tag _ hk
            exact absurd (tags_apart R55.out hA) (by decide)
          · intro p hp
            rcases List.mem_append.1 hp with hp | hp
            · refine ⟨(HS.out.lo.each p hp).1.only o6 (fun k hk hk2 => ?_), (HS.out.lo.each p hp).2⟩
              rcases hk2 with hk2 | hk2
              · subst hk2
                exact HS.out.lo.ne_b.2.2.2 p hp hk
              · obtain ⟨A, hA⟩ := HS.out.lo.recs.tag _ hk2
                obtain ⟨A', hA'⟩ := (HS.out.lo.each p hp).1.tag _ hk
                exact absurd (tags_apart hA hA') (by decide)
            · simp only [List.mem_singleton] at hp
              subst hp
              refine ⟨hx.only (set_only w5 lg 5 _) (fun k hk e => ?_), fun hk => ?_⟩
              · have := hxn k hk
                omega
              · have := hxn bb hk
                omega
          · have h1 := HS.out.lo.is
            rw [HDD.out] at h1
            simp only at h1
            rw [← h1]
            simp [rbs]
          · rw [HN1.out]
            have h1 := HF.out
            rw [HQ.out, HSL.out, HN.out] at h1
            exact h1
          · have h1 := HH.out.few
            have h2 := HQ.out
            rw [List.length_append, List.length_singleton]
            have h3 : 1 ≤ S := hS1
            omega
        have hst := HS.out.st.only o6 (fun k hk hk2 => by
          rcases hk2 with hk2 | hk2
          · exact HS.out.lo.apart HS.out.st k (.inl (.inl hk2)) hk
          · exact HS.out.lo.apart HS.out.st k (.inl (.inr (.inr hk2))) hk)
        have HLO := Lib.hid hlo
        have HST := Lib.hid hst
        have HO6 := Lib.hid o6
        have HXN := Lib.hid hxn
        have HSZ : Hid (w.heap.size ≤ wA.heap.size ∧ w.heap.size ≤ (w3.alloc (.cells #[.slice a3 r.length c3'] 43)).heap.size) := ⟨by omega, by omega⟩
        clear ob3 hsz1 hsz2 hsz3 o5 o6 hx hxn hbb hlg hlo hst
        go_wp2_with fail
        simp only [Exit.jump]
        go_ret
        refine ⟨_, _, _, _, _, 0, rfl, HST.out, HLO.out, .inl ⟨rfl, ⟨_, rfl⟩, ⟨HS.out.r.n, HS.out.r.on, HFF.out, HS.out.r.fu, HS.out.r.lo, ?_, fun x y hf => ?_, ?_⟩⟩, ?_, HS.out.fo, ?_, ?_⟩
        · have := HS.out.r.hi
          have := HIN.out
          rw [HN.out]
          omega
        · obtain ⟨x', h1, h2⟩ := HS.out.r.fz x y hf
          have := HIN.out
          rw [HN.out]
          exact ⟨x', h1, by omega⟩
        · rw [HDD.out, HQ.out, HSL.out]
        · refine (HS.out.only.mono (G := fun k => stF g gb fo k ∨ k = lg ∨ k = bb ∨ vr.ownBlock = some k) (fun k _ hk => ?_)).trans (HO6.out.mono (fun k _ hk => ?_))
          · rcases hk with hk | hk | hk
            · exact .inl hk
            · exact .inr (.inl hk)
            · exact .inr (.inr (.inl hk))
          · rcases hk with hk | hk
            · exact .inr (.inl hk)
            · exact .inr (.inr (.inr hk))
        · rcases HM5.out with h1 | h1
          · exact .inl h1
          · right
            intro k hk
            rw [h1] at hk
            cases hk
            exact HSZ.out.2
        · intro y hy
          rcases List.mem_append.1 hy with hy | hy
          · exact .inl hy
          · right
            simp only [List.mem_singleton] at hy
            subst hy
            intro k hk
            have := HXN.out k hk
            have := HSZ.out.1
            omega
-->G

end Go.Proofs.Ytbonapdainlpjaa
