/- Layer 35 (log): the statement LogTorn, the walk. -/
import Derived.Test.YtbonapdainlpjaaLg19
import Derived.Lib.QuietBelow
import Derived.Deep.CutBlock
import Derived.Deep.DeepCutAuto
set_option linter.unusedSimpArgs false
namespace Go.Proofs.Ytbonapdainlpjaa
open Go.RowKit Go.Sort

/-- a list of records of the call's own: its row, and where each record's bytes lie -/
structure WA (W V : World) (vw : Value) (pw : List Rc) : Prop where
  own : Gw 1 csP V W.heap.size 43 vw pw
  each : ∀ p ∈ pw, Ob V W.heap.size 5 p.v p.2 ∨ Bs W p.v p.2
section
variable {W V V' : World} {vw : Value} {pw : List Rc} {g gb : Nat} {fo : Option Nat} {s : BSt}
theorem WA.rcs (h : WA W V vw pw) (hb : Below W.heap.size W V) : Rcs V vw pw :=
  ⟨h.own.gs, fun p hp => (h.each p hp).elim (fun h1 => h1.bs) (fun h1 => h1.below hb)⟩
theorem WA.below (h : WA W V vw pw) (hb : Below V.heap.size V V') : WA W V' vw pw :=
  ⟨h.own.below hb, fun p hp => (h.each p hp).imp (fun h1 => h1.below hb) (fun h1 => h1)⟩
theorem WA.st (h : WA W V vw pw) (hst : StAt V W.heap.size g gb fo s) (ho : Only (stF g gb fo) V V') : WA W V' vw pw := by
  have key : ∀ (t : Nat) (k : Nat) (A : Array Value), V.heap[k]? = some (.cells A t (0, 0)) → (t = 5 ∨ t = 43) → ¬ stF g gb fo k := by
    intro t k A hA ht hf
    obtain ⟨A', t', h1, h2⟩ := hst.tag hf
    have := tags_apart hA h1
    subst this
    rcases ht with rfl | rfl <;> rcases h2 with h2 | h2 | h2 <;> exact absurd h2 (by decide)
  refine ⟨h.own.only ho (fun k hk => ?_), fun p hp => (h.each p hp).imp (fun h1 => h1.only ho (fun k hk => ?_)) (fun h1 => h1)⟩
  · obtain ⟨A, hA⟩ := h.own.tag k hk
    exact key _ _ _ hA (.inr rfl)
  · obtain ⟨A, hA⟩ := h1.tag k hk
    exact key _ _ _ hA (.inl rfl)
end

/-- a store that is on, no power goes any more -/
structure TSi2 (w : World) (g gb : Nat) (W : World) (record : List UInt8) (R : List (List UInt8)) (fo : Option Nat) (s : BSt) : Prop where
  st : StAt W w.heap.size g gb fo s
  reg : Reg record s.f R
  on : s.off = false
  sn : s.n = 60
  c0 : 0 ≤ s.cnt
  c1 : s.cnt ≤ 3500
  bel : Below w.heap.size w W
set_option maxRecDepth 100000 in
theorem TSi2.open_ {w W : World} {g gb : Nat} {record : List UInt8} {R : List (List UInt8)} {fo : Option Nat} {s : BSt} (h : TSi2 w g gb W record R fo s) (hfu : s.fu = none) (h1 : 1 ≤ record.length) (h2 : record.length ≤ 400) :
    Calls Try.prog 43 #[.pointer (some ⟨g, 0, none⟩), .int .i64 0, .int .i64 60] W fun e W' => ∃ lg, e = .returned (.tuple #[.pointer (some ⟨lg, 0, none⟩), .int .i64 0]) ∧ Only (stF g gb fo) W W' ∧ ∃ bb bc fo' s' d vr ps, TOi w g gb lg bb bc W' R fo' s' d vr ps := by
  refine (lOpen_any W w.heap.size g gb fo s 0 60 h.st h.on (by omega) (by rw [h.sn]; omega) h.c0 (by have := h.c1; omega) h.bel.size).mono fun e W' hh => ?_
  obtain ⟨fo', s', d', E, hst, ho, hfo', hr⟩ := hh
  have hrec := h.reg.recs h1 h2
  have hbel : Below w.heap.size w W' := h.bel.trans (ho.below (fun q hq => (h.st.foot q hq).1) h.bel.size)
  rcases hr with ⟨rfl, hW, lg, bb, bc, vr, ps, he, hlo⟩ | ⟨rfl, hT, he⟩
  · obtain ⟨hok, h3, h4, h5, h6⟩ := opened_ok (by rw [h.sn]; omega) hW
    rw [lreg0, hrec] at h5 h6
    refine ⟨lg, he, ho, bb, bc, fo', s', d', vr, ps, hst, hlo.mono h.bel.size, hok, h3, h4, h5, ?_, ?_, hbel⟩
    · have := hW.lo; have := h.c0; omega
    · have := hW.hi; have := h.c1; omega
  · exact absurd hfu hT.fu0

theorem bl_tr {w a b : World} (h : Below w.heap.size w a) (k : Below a.heap.size a b) : Below w.heap.size w b := h.trans (k.mono h.size)

set_option maxRecDepth 100000 in
set_option maxHeartbeats 6400000 in
theorem lt_walk (v : Value) (rs : List Rc) (u : Value) (r : List UInt8) (t0 t1 t2 t3 : Nat) (ht : t0 < 256 ∧ t1 < 256 ∧ t2 < 256 ∧ t3 < 256) (w : World) (h : Rcs w v rs) (hu : Bs w u r) :
    Calls Try.prog 9 #[v, u, .agg #[.int .u8 (t0 : Int), .int .u8 (t1 : Int), .int .u8 (t2 : Int), .int .u8 (t3 : Int)]] w fun e w' => e = .returned (.bool true) ∧ Below w.heap.size w w' := by
  obtain ⟨q, hq⟩ : ∃ q, w.heap.size = q := ⟨_, rfl⟩
  obtain ⟨W, hW⟩ : ∃ V, w.alloc (.cells #[.int .u8 (t0 : Int), .int .u8 (t1 : Int), .int .u8 (t2 : Int), .int .u8 (t3 : Int)] 77) = V := ⟨_, rfl⟩
  have hB : Below w.heap.size w W := by rw [← hW]; exact (Below.refl _ _).alloc (Nat.le_refl _) _
  have hr : W.heap[q]? = some (.cells #[.int .u8 (t0 : Int), .int .u8 (t1 : Int), .int .u8 (t2 : Int), .int .u8 (t3 : Int)] 77 (0, 0)) := by rw [← hW, ← hq]; exact heap_alloc_new _ _
  have HZ := Lib.hid (fun (V : World) (hV : V.heap[q]? = W.heap[q]?) => show V.cell? ⟨q, 0, none⟩ = some (.int .u8 t0) ∧ V.cell? ⟨q, 1, none⟩ = some (.int .u8 t1) ∧ V.cell? ⟨q, 2, none⟩ = some (.int .u8 t2) ∧ V.cell? ⟨q, 3, none⟩ = some (.int .u8 t3) from
    ⟨cell_of_row V _ _ _ _ _ (hV.trans hr), cell_of_row V _ _ _ _ _ (hV.trans hr), cell_of_row V _ _ _ _ _ (hV.trans hr), cell_of_row V _ _ _ _ _ (hV.trans hr)⟩)
  have HRQ := Lib.hid hr
  have HR : Hid (Rcs W v rs) := h.below hB
  have HU : Hid (Bs W u r) := hu.below hB
  have HB := Lib.hid hB
  have CA := Lib.hid (lAwake_any W)
  obtain ⟨fa, hfa⟩ : ∃ fa, t0 % 10 = fa := ⟨_, rfl⟩
  obtain ⟨fc, hfc⟩ : ∃ fc, t2 % 6 = fc := ⟨_, rfl⟩
  have hfa2 : (t0 : Int) % 10 = (fa : Int) := by omega
  have hfc2 : (t2 : Int) % 6 = (fc : Int) := by omega
  obtain ⟨K, hK⟩ : ∃ K, rs.length = K := ⟨_, rfl⟩
  obtain ⟨a, c, bq, o, rfl, hq1, hq2, hix, hlt', hcell, -⟩ := HR.out.1.open_n layP elOB K hK
  obtain ⟨rl, hrl⟩ : ∃ rl, r.length = rl := ⟨_, rfl⟩
  obtain ⟨ua, uc, hus⟩ := hu.shape
  rw [hrl] at hus
  subst hus
  have HC := Lib.hid hcell
  have HLT := Lib.hid hlt'
  have HK := Lib.hid hK
  have HRL := Lib.hid hrl
  obtain ⟨ht0, ht1, ht2, ht3⟩ := ht
  have HQ := Lib.hid hq
  have HFA := Lib.hid hfa2
  have HFC := Lib.hid hfc2
  have HFB := Lib.hid (show fa ≤ 9 ∧ fc ≤ 5 by omega)
  clear h hu hB hr hfa hfc hcell hlt' hK hrl hfa2 hfc2
  go_enter Try.func9, Try.ntmps9
  go_wp2_with fail
  try rw [hq]
  try rw [hW]
  clear hq hW
  refine CA.out.mono ?_
  rintro e w1 ⟨rfl, hb1⟩
  have HB1 := Lib.hid hb1
  have HB01 := Lib.hid (bl_tr HB.out hb1)
  have CSm := Lib.hid (small_any _ rs w1 (HR.out.below hb1))
  clear hb1 CA
  go_wp2_with fail
  refine CSm.out.mono ?_
  rintro e w2 ⟨bs, rfl, hiff, hb2⟩
  have HB2 := Lib.hid (bl_tr HB1.out hb2)
  have HB02 := Lib.hid (bl_tr HB01.out hb2)
  clear hb2 CSm
  cases bs with
  | false =>
    go_wp2
    go_ret
    exact ⟨rfl, HB02.out⟩
  | true =>
    have hlen : ∀ V : World, (Builtin.len_ #[65] 3 #[.slice a K c]).run Try.prog V = .ok (.int .i64 (K : Int)) V := fun V => run_len_slice V 65 3 a K c (by simp [Program.elem, Try.underlying65])
    have hlen2 : ∀ V : World, (Builtin.len_ #[43] 3 #[.slice ua rl uc]).run Try.prog V = .ok (.int .i64 (rl : Int)) V := fun V => run_len_slice V 43 3 ua rl uc (by simp [Program.elem, Try.underlying43])
    by_cases h12 : 12 < K
    · have e1 : decide ((12 : Int) < (K : Int)) = true := decide_eq_true (by omega)
      clear h12
      go_wp2
      all_goals
        go_ret
        exact ⟨rfl, HB02.out⟩
    · have e1 : decide ((12 : Int) < (K : Int)) = false := decide_eq_false (by omega)
      by_cases hr1 : rl < 1
      · have e2 : decide ((rl : Int) < 1) = true := decide_eq_true (by omega)
        clear h12 hr1
        go_wp2
        all_goals
          go_ret
          exact ⟨rfl, HB02.out⟩
      · have e2 : decide ((rl : Int) < 1) = false := decide_eq_false (by omega)
        by_cases hr4 : 400 < rl
        · have e3 : decide ((400 : Int) < (rl : Int)) = true := decide_eq_true (by omega)
          clear h12 hr1 hr4
          go_wp2
          all_goals
            go_ret
            exact ⟨rfl, HB02.out⟩
        · have e3 : decide ((400 : Int) < (rl : Int)) = false := decide_eq_false (by omega)
          have HK12 := Lib.hid (show K ≤ 12 by omega)
          have HR1 : Hid (1 ≤ r.length ∧ r.length ≤ 400) := by show _ ∧ _; rw [HRL.out]; omega
          have CN := Lib.hid (bNew_any 60 (by omega) (by omega) w2)
          rw [show ((60 : Nat) : Int) = 60 from rfl] at CN
          have HLEN := Lib.hid hlen
          clear hiff h12 hr1 hr4
          go_wp2_with fail
          refine CN.out.mono ?_
          rintro e w3 ⟨rfl, hb3, hst3⟩
          have CO := Lib.hid (lOpen_any w3 w2.heap.size (w2.heap.size + 1) w2.heap.size none (bzero 60) 0 60 hst3 rfl (by omega) (by show 0 + 60 ≤ 60; omega) (show (0 : Int) ≤ 0 by decide) (show (0 : Int) ≤ 4000000000000000000 by decide) hb3.size)
          rw [show ((0 : Nat) : Int) = 0 from rfl, show ((60 : Nat) : Int) = 60 from rfl] at CO
          obtain ⟨g, hg⟩ : ∃ g, w2.heap.size + 1 = g := ⟨_, rfl⟩
          obtain ⟨gb, hgb⟩ : ∃ gb, w2.heap.size = gb := ⟨_, rfl⟩
          have HGB := Lib.hid hgb
          rw [hg] at CO hst3 ⊢
          rw [hgb] at CO hst3 hb3
          have HST3 := Lib.hid hst3
          have hb23 : Below w2.heap.size w2 w3 := by rw [HGB.out]; exact hb3
          have HB3 := Lib.hid (bl_tr HB2.out hb23)
          clear hst3 hb3 hg hgb CN hb23
          go_wp2_with fail
          refine CO.out.mono ?_
          intro e w4 hpost
          obtain ⟨s, d, lg, bb, bc, vr, ps, rfl, hst, hlo, ho, hok, hfr, hnn, hrec, hfin, hfu, hsn, hlo0, hhi0, hf⟩ := hpost.ok rfl rfl (by show 0 + 60 ≤ 60; omega)
          have hwg : W.heap.size ≤ gb := by rw [← HGB.out]; exact HB2.out.size
          have START : Hid (∃ s d vr ps, LTi W g gb lg bb bc 0 w4 s d vr ps) := by
            refine ⟨s, d, vr, ps, ?_, hlo.mono HB3.out.size, hok, hfr, hnn, ?_, hfu, ?_, ?_, ?_⟩
            · exact ⟨Nat.le_trans hwg hst.low, Nat.le_trans hwg hst.lowb, hst.n1, hst.n2, hst.row, hst.blk, .inl ⟨rfl, hfu⟩⟩
            · rw [hsn]; rfl
            · have h1 : (bzero 60).cnt = 0 := rfl
              rw [h1] at hlo0
              exact hlo0
            · have h1 : (bzero 60).cnt = 0 := rfl
              rw [h1] at hhi0
              omega
            · exact HB3.out.trans (ho.below (fun j hj => Nat.le_trans hwg (HST3.out.foot j hj).1) HB3.out.size)
          clear hpost hst hlo ho hok hfr hnn hrec hfin hfu hsn hlo0 hhi0 hf hwg CO
          go_wp2_with fail
          go_loopw [57] (fun vi wr => ∃ k : Nat, k ≤ K ∧ vi = .int .i64 k ∧ Hid (∃ s d vr ps, LTi W g gb lg bb bc k wr s d vr ps)) (fun vi _ => K - (intOf vi).toNat)
          case atStart => exact ⟨0, by omega, rfl, START⟩
          case round =>
            obtain ⟨k, hk, rfl, HX⟩ := hrel
            obtain ⟨s, d, vr, ps, hI⟩ := HX.out
            have HI := Lib.hid hI
            clear START HX hI
            by_cases hlt : k < K
            · have e5 : (k : Int) < K := by omega
              obtain ⟨x, hx⟩ : ∃ x, rs[k]? = some x := ⟨_, List.getElem?_eq_getElem (by rw [HK.out]; exact hlt)⟩
              have m0 := HC.out k x hx 0 _ rfl
              rw [Nat.add_zero, ← HI.out.bel.cell (by exact HLT.out k hlt)] at m0
              have hixk := fun W => hix W k hlt
              have CAp := Lib.hid (HI.out.app (by have := HK12.out; omega) x.v x.2 (HR.out.2 x (List.mem_of_getElem? hx)))
              obtain ⟨xv, hxv⟩ : ∃ xv, x.v = xv := ⟨_, rfl⟩
              rw [hxv] at m0 CAp
              have HKK := Lib.hid hlt
              clear hx hxv hlt hk
              go_wp2_with fail
              refine CAp.out.mono ?_
              rintro e w5 ⟨E, rfl, hf⟩
              have HF := Lib.hid hf
              clear hf
              go_wp2_with fail
              go_roundw
              case rel => exact ⟨k + 1, HKK.out, by go_num, HF⟩
              case measure => simp [intOf]; have := HKK.out; omega
            · obtain rfl : k = K := by omega
              have e5 : ¬ (k : Int) < k := by omega
              clear hlt hk hix
--<T
              have CREC := Lib.hid (lRecords_any wr W.heap.size lg bb bc g vr ps d HI.out.lo)
              go_wp2_with fail
              refine CREC.out.mono ?_
              rintro e w5 ⟨v5, rfl, hg5, hb5⟩
              have J5 := Lib.hid (HI.out.below hb5)
              have HG5 := Lib.hid hg5
              obtain ⟨Q, hQ⟩ : ∃ Q, d.fin = Q := ⟨_, rfl⟩
              have hend := lEnd_any w5 W.heap.size lg bb bc g vr ps d J5.out.lo
              rw [hQ] at hend
              have CE := Lib.hid (hend.mono fun _ _ h => (⟨h.1, h.2.symm⟩ : _ ∧ w5 = _))
              have hq5 : w5.heap[q]? = W.heap[q]? := J5.out.bel.block q (heap_lt HRQ.out)
              obtain ⟨z0, z1, -, -⟩ := HZ.out w5 hq5
              have hfa2 := HFA.out
              have CF := Lib.hid (bFuse_any g gb none s (fa : Int) (t1 : Int) (by have := HFB.out.1; omega) (by omega) W.heap.size w5 J5.out.st J5.out.bel.size)
              have HQD := Lib.hid hQ
              have HWRS := Lib.hid hb5.size
              clear hg5 hb5 hQ hend hq5 CREC
              go_wp2_with (go_at_call 47; refine CE.out.mono ?_; rintro e w' ⟨rfl, rfl⟩)
              refine CF.out.mono ?_
              rintro e w6 ⟨rfl, fo6, hst6, ho6, hf6⟩
              have hlo6 := J5.out.lo.only ho6 (fun k hk => J5.out.lo.apart J5.out.st k hk)
              have hb6 : Below W.heap.size W w6 := J5.out.bel.trans (ho6.below (fun k hk => (J5.out.st.foot k hk).1) J5.out.bel.size)
              have hwa5 : WA W w5 v5 ps := ⟨HG5.out.mono (Nat.le_trans HI.out.bel.size (Nat.le_refl _)), fun p hp => .inl (J5.out.lo.each p hp).1⟩
              have hwa6 := hwa5.st J5.out.st ho6
              have HLO6 := Lib.hid hlo6
              have HB6 := Lib.hid hb6
              have HWA6 := Lib.hid hwa6
              have HST6 := Lib.hid hst6
              have HO6 := Lib.hid ho6
              clear hlo6 hb6 hwa5 hwa6 hst6 ho6 hf6 z0 z1 hfa2 CE CF
              obtain ⟨S, hS⟩ : ∃ S, (lstands r).length = S := ⟨_, rfl⟩
              have HSL := Lib.hid hS
              have CST : Hid (∀ V : World, Below W.heap.size W V → Calls Try.prog 52 #[.slice ua rl uc] V fun e w' => ∃ v', e = .returned v' ∧ Ob w' V.heap.size 5 v' (lstands r) ∧ Below V.heap.size V w') := fun V hV => rstands_any _ r V (HU.out.below hV) (by have := HR1.out.2; omega)
              have hSb : S ≤ 500 := by
                rw [← hS, lstands_len]
                have h1 : (vput r.length).length ≤ 10 := vput_len10 _ (by have := HR1.out.2; omega)
                have := HR1.out.2
                omega
              have hQb : Q ≤ 3840 := by have h1 := HI.out.ok.le; rw [HI.out.nn, HQD.out] at h1; omega
              clear hS
              by_cases hfull : 3840 < Q + S
              · have CAp := Lib.hid (lAppend_full w6 W.heap.size lg bb bc g vr ps d _ r HLO6.out HI.out.ok.live (HU.out.below HB6.out) (by have := HR1.out; exact ⟨this.1, by omega⟩) (by rw [HI.out.nn, HQD.out, HSL.out]; omega))
                have e6 : ((51 : Int) == 51) = true := by decide
                have e7 : decide ((3840 : Int) - (Q : Int) < (S : Int)) = true := decide_eq_true (by omega)
                clear hfull
                go_wp2_with (first | (go_at_call 51; refine CAp.out.mono ?_; rintro e w7 ⟨rfl, hb7⟩; have HB7 := Lib.hid (bl_tr HB6.out hb7); clear hb7) | (go_at_call 52; refine (CST.out _ HB7.out).mono ?_; rintro e w8 ⟨v8, rfl, ho8, hb8⟩; obtain ⟨a8, c8, hs8⟩ := ho8.shape; rw [HSL.out] at hs8; subst hs8; have HB8 := Lib.hid (bl_tr HB7.out hb8); clear ho8 hb8))
                go_ret
                exact ⟨rfl, bl_tr HB.out HB8.out⟩
              · have CLA := Lib.hid (HI.out.last (by have := HK12.out; omega) (fa : Int) (t1 : Int) (by omega) (by omega) HST6.out HLO6.out HB6.out _ r HU.out HR1.out.1 HR1.out.2 (by rw [HI.out.nn, HQD.out, HSL.out]; omega))
                rw [HQD.out] at CLA
                have HFL := Lib.hid (show Q + S ≤ 3840 by omega)
                clear hfull
                go_wp2_with fail
                refine CLA.out.mono ?_
                rintro e w7 ⟨E, rfl, b, fo7, s7, d7, vr7, ps7, hT, hblk⟩
                have hwa7 : WA W w7 v5 ps := by
                  have ha := HWA6.out
                  have ho := hblk
                  have tg : ∀ (q t : Nat) (A : Array Value), w6.heap[q]? = some (.cells A t (0, 0)) → (t = 5 ∨ t = 43) → ¬ stF g gb fo6 q := by
                    intro q t A hA ht hf
                    obtain ⟨A', t', h1, h2⟩ := HST6.out.tag hf
                    have := tags_apart hA h1
                    subst this
                    rcases ht with rfl | rfl <;> rcases h2 with h2 | h2 | h2 <;> exact absurd h2 (by decide)
                  refine ⟨ha.own.only ho ?_, fun p hp => .inl ((HLO6.out.each p hp).1.only ho ?_)⟩
                  · rintro q hq (hf | hf | hf | hf)
                    · obtain ⟨A, hA⟩ := ha.own.tag q hq
                      exact tg _ _ _ hA (.inr rfl) hf
                    · subst hf
                      obtain ⟨A, hA⟩ := ha.own.tag _ hq
                      exact absurd (tags_apart hA HLO6.out.row) (by decide)
                    · subst hf
                      obtain ⟨A, hA⟩ := ha.own.tag _ hq
                      obtain ⟨cur, h3, _⟩ := HLO6.out.b.row
                      exact absurd (tags_apart hA h3) (by decide)
                    · have h1 := (HG5.out.lt q hq).1
                      have h2 := (HI.out.lo.recs.lt q hf).2
                      omega
                  · rintro q hq (hf | hf | hf | hf)
                    · obtain ⟨A, hA⟩ := (HLO6.out.each p hp).1.tag q hq
                      exact tg _ _ _ hA (.inl rfl) hf
                    · subst hf
                      exact HLO6.out.ne_b.2.2.2 p hp hq
                    · subst hf
                      exact (HLO6.out.each p hp).2 hq
                    · obtain ⟨A, hA⟩ := HLO6.out.recs.tag _ hf
                      obtain ⟨A', hA'⟩ := (HLO6.out.each p hp).1.tag _ hq
                      exact absurd (tags_apart hA hA') (by decide)
                have HT := Lib.hid hT
                have HWA7 := Lib.hid hwa7
                have HIS : Hid (rbs ps = d.recs) := HI.out.lo.is
                obtain ⟨RW, hRW⟩ : ∃ RW, (if b then d.recs ++ [r] else d.recs) = RW := ⟨_, rfl⟩
                have HREG : Hid (Reg r s7.f RW) := by rw [← hRW]; exact hT.reg
                have HRW := Lib.hid hRW
                have HBY := Lib.hid hT.byte
                have HOUT := hT.out
                have HBE7 := Lib.hid hT.bel
                clear hT hblk hwa7 hRW CLA
                have x0 : ((0 : Int) == 51) = false := by decide
                have x1 : ((50 : Int) == 51) = false := by decide
                have x2 : ((0 : Int) != 0) = false := by decide
                have x3 : ((50 : Int) != 0) = true := by decide
                have x4 : ((50 : Int) != 50) = false := by decide
                have STEP : Hid (∀ V : World, Below W.heap.size W V → True) := fun _ _ => trivial
                rcases HOUT with ⟨rfl, hbt⟩ | ⟨rfl, hdead, hrecs⟩
                focus
                  have HB9 := Lib.hid HBE7.out
                  have HWA9 := Lib.hid HWA7.out
                  have HST9 := Lib.hid HT.out.st
                  have HEB : Hid ((0 : Int) = 0 → b = true) := fun _ => hbt
                  clear hbt
                  obtain ⟨w9, rfl⟩ : ∃ V, V = w7 := ⟨_, rfl⟩
                  have HN7 := Lib.hid HT.out.sn
                  have HC7 := Lib.hid (show 0 ≤ s7.cnt ∧ s7.cnt ≤ 2000 from ⟨HT.out.c0, HT.out.c1⟩)
                  clear HT HWA7 HBE7 x0 x1 x3 x4 STEP
                  go_upto_region 23 with fail
                rotate_left 1
                focus
                  have hlo7 := HT.out.lo
                  have CD := Lib.hid (lAppend_dead w7 W.heap.size lg bb bc g vr7 ps7 d7 (.slice ua rl uc) hlo7 hdead)
                  have CC := Lib.hid (lClear_dead w7 W.heap.size lg bb bc g vr7 ps7 d7 hlo7 hdead)
                  have CR := Lib.hid (lRecords_any w7 W.heap.size lg bb bc g vr7 ps7 d7 hlo7)
                  have CSM : Hid (∀ (V : World) (z : Value), Below w7.heap.size w7 V → Gw 1 csP V w7.heap.size 43 z ps7 → Calls Try.prog 45 #[z, v5] V fun e w' => e = .returned (.bool true) ∧ Below V.heap.size V w') := fun V z hV hz => by
                    have h1 := rlsame_any z v5 ps7 ps V ⟨hz.gs, fun p hp => ((HT.out.lo.each p hp).1.bs).below hV⟩ ((HWA7.out.below hV).rcs (bl_tr HBE7.out hV))
                    rwa [HT.out.lo.is, hrecs, HIS.out, beq_self_eq_true] at h1
                  have CD := Lib.hid ((CD.out).mono fun _ _ h => (⟨h.1, h.2.symm⟩ : _ ∧ w7 = _))
                  have CC := Lib.hid ((CC.out).mono fun _ _ h => (⟨h.1, h.2.symm⟩ : _ ∧ w7 = _))
                  clear hlo7 hdead hrecs
                  go_upto_region 23 with (first | (go_at_call 51; refine CD.out.mono ?_; rintro e w8 ⟨rfl, rfl⟩) | (go_at_call 53; refine CC.out.mono ?_; rintro e w8 ⟨rfl, rfl⟩) | (go_at_call 46; refine CR.out.mono ?_; rintro e w8 ⟨v8, rfl, hg8, hb8⟩; have HG8 := Lib.hid hg8; have HB8 := Lib.hid hb8; clear hg8 hb8) | (go_at_call 45; refine (CSM.out _ _ HB8.out HG8.out).mono ?_; rintro e w9 ⟨rfl, hb9⟩; have HB89 := Lib.hid (bl_tr HB8.out hb9); clear hb9))
                  have HB9 := Lib.hid (bl_tr HBE7.out HB89.out)
                  have HWA9 := Lib.hid (HWA7.out.below HB89.out)
                  have HST9 := Lib.hid (HT.out.st.below HB89.out)
                  have HEB : Hid ((50 : Int) = 0 → b = true) := fun h => by cases h
                  have HN7 := Lib.hid HT.out.sn
                  have HC7 := Lib.hid (show 0 ≤ s7.cnt ∧ s7.cnt ≤ 2000 from ⟨HT.out.c0, HT.out.c1⟩)
                  clear HT HWA7 HBE7 x0 x1 x2 x4 STEP CD CC CR CSM HG8 HB8 HB89
                rotate_left 1
                all_goals
                  clear HLO6 HB6 HWA6 HST6 HO6 J5 HG5 HWRS
                  have hal1 : Below w9.heap.size w9 (w9.alloc (.cells #[] 43)) := (Below.refl w9.heap.size w9).alloc (Nat.le_refl _) _
                  have hown1 : Gw 1 csP (w9.alloc (.cells #[] 43)) w9.heap.size 43 (.slice (some ⟨w9.heap.size, 0, none⟩) 0 0) [] := gw_lit layP w9 43 #[] [] 0 rfl (by decide) rfl
                  have hrd1 := HWA9.out.own.gs.below hal1
                  have hbz1 := hal1.size
                  have HPL : Hid (ps.length ≤ 4000) := by
                    have h1 := HI.out.lo.few
                    have h2 := HQD.out
                    show _ ≤ _
                    omega
                  have HAL1 := Lib.hid hal1
                  clear hal1
                  go_upto_region 24 with (first
                    | (at_builtin; refine wpList_append_gs layP hown1 hrd1 elOB (by have := HPL.out; simp; omega) (by have := HPL.out; simp; omega) hbz1 ?_ _ _ rfl rfl rfl rfl; intro v10 w10 ho10 hg10 hb10 hm10; have HB10 := Lib.hid (HAL1.out.trans hb10); have hal2 : Below w10.heap.size w10 (w10.alloc (.cells #[.slice ua rl uc] 43)) := (Below.refl w10.heap.size w10).alloc (Nat.le_refl _) _; have hown2 := ho10.below hal2; have hlit2 : Gs 1 csP (w10.alloc (.cells #[.slice ua rl uc] 43)) (.slice (some ⟨w10.heap.size, 0, none⟩) 1 1) [(((ua, rl, uc), r) : Rc)] := (gw_lit layP w10 43 #[.slice ua rl uc] [(((ua, rl, uc), r) : Rc)] 1 rfl (by decide) rfl).gs; have HB11 := Lib.hid (HB10.out.trans (hal2.mono HB10.out.size)); have hbz2 := HB11.out.size; clear hal2 ho10 hg10 hb10 hm10)
                    | (at_builtin; refine wpList_append_gs layP hown2 hlit2 elOB (by have := HPL.out; simp; omega) (by have := HPL.out; simp; omega) hbz2 ?_ _ _ rfl rfl rfl rfl; intro v12 w12 ho12 hg12 hb12 hm12; have HO12 := Lib.hid ho12; have HB12 := Lib.hid (HB11.out.trans hb12); clear ho12 hg12 hb12 hm12))
                  clear hown1 hrd1 hbz1 hown2 hlit2 hbz2
                  have hb912 : Below w9.heap.size w9 w12 := HB12.out
                  have HB12W := Lib.hid (bl_tr HB9.out hb912)
                  have HST12 := Lib.hid (HST9.out.below hb912)
                  have HWAS := Lib.hid (HWA9.out.below hb912)
                  have hwh : WA W w12 v12 (ps ++ [(((ua, rl, uc), r) : Rc)]) := by
                    refine ⟨by have h1 := HO12.out.mono HB9.out.size; simpa using h1, fun p hp => ?_⟩
                    rcases List.mem_append.1 hp with hp | hp
                    · exact HWAS.out.each p hp
                    · simp only [List.mem_singleton] at hp
                      subst hp
                      exact .inr HU.out
                  have HWH := Lib.hid hwh
                  have CI := Lib.hid (bImage_any g gb fo7 s7 W.heap.size w12 HST12.out)
                  have HIL : Hid ((bimg s7).length = 3840) := by show _ = _; unfold bimg; rw [List.length_map, List.length_range, HN7.out]
                  have HIX : Hid ((bimg s7)[Q + S - 1]? = some (s7.f (Q + S - 1))) := by
                    show _ = _
                    unfold bimg
                    rw [List.getElem?_map, HN7.out, List.getElem?_range (by have := HFL.out; omega)]
                    rfl
                  have hfl := HFL.out
                  have hs1 : 1 ≤ S := by rw [← HSL.out, lstands_len]; omega
                  have HTN : Hid (((Q : Int) + (S : Int) - 1).toNat = Q + S - 1) := by show _ = _; omega
                  have hby := HBY.out
                  rw [HSL.out] at hby
                  clear hb912 hwh HB12 HWA9 HST9 HO12
                  cases b
                  focus
                    first
                      | exact absurd (HEB.out rfl) (by decide)
                      | exact absurd (HEB.out trivial) (by decide)
                      | exact absurd (show false = true from HEB.out) (by decide)
                      | (have hb0 : s7.f (Q + S - 1) = 0 := hby
                         rw [hb0] at HIX
                         have y0 : (((0 : UInt8).toNat : Int) == 165) = false := by decide
                         have y1 : ((50 : Int) == 0) = false := by decide
                         clear hby hb0
                         go_upto_region 31 with (first | (go_at_call 39; refine CI.out.mono ?_; rintro e w13 ⟨v13, rfl, ho13, hb13⟩; obtain ⟨a13, c13, adr, rfl, ha1, ha2, ha3, ha4, ha5⟩ := Bs.open_n elB ho13.bs 3840 HIL.out; have hixl := fun V => ha3 V ((Q : Int) + (S : Int) - 1) (by omega) (by omega); rw [HTN.out] at hixl; have hcel := ha5 (Q + S - 1) _ HIX.out; have HCEL := Lib.hid hcel; have HLTA := Lib.hid (ha4 (Q + S - 1) (by omega)); have HB13 := Lib.hid (bl_tr HB12W.out hb13); have HB1213 := Lib.hid hb13; clear ha1 ha2 ha3 ha4 ha5 ho13 hb13 hcel) | (go_at_call 52; refine (CST.out _ HB13.out).mono ?_; rintro e w14 ⟨v14, rfl, ho14, hb14⟩; obtain ⟨a14, c14, hs14⟩ := ho14.shape; rw [HSL.out] at hs14; subst hs14; have hcel := (hb14.cell (by exact HLTA.out)).trans HCEL.out; have HB14 := Lib.hid (bl_tr HB13.out hb14); have HB1214 := Lib.hid (bl_tr HB1213.out hb14); clear ho14 hb14))
                         have HWW : Hid (∃ pw, WA W w14 v5 pw ∧ rbs pw = RW) := ⟨ps, HWAS.out.below HB1214.out, by rw [HIS.out, ← HRW.out]; rfl⟩
                         obtain ⟨vw, hvw⟩ : ∃ vw, v5 = vw := ⟨_, rfl⟩
                         subst hvw)
                  rotate_left 1
                  focus
                    have hb0 : s7.f (Q + S - 1) = 165 := hby
                    rw [hb0] at HIX
                    have y0 : (((165 : UInt8).toNat : Int) == 165) = true := by decide
                    have y2 : (((165 : UInt8).toNat : Int) != 165) = false := by decide
                    have y1 : ((50 : Int) == 0) = false := by decide
                    have y3 : ((0 : Int) == 0) = true := by decide
                    clear hby hb0
                    go_upto_region 31 with (first | (go_at_call 39; refine CI.out.mono ?_; rintro e w13 ⟨v13, rfl, ho13, hb13⟩; obtain ⟨a13, c13, adr, rfl, ha1, ha2, ha3, ha4, ha5⟩ := Bs.open_n elB ho13.bs 3840 HIL.out; have hixl := fun V => ha3 V ((Q : Int) + (S : Int) - 1) (by omega) (by omega); rw [HTN.out] at hixl; have hcel := ha5 (Q + S - 1) _ HIX.out; have HCEL := Lib.hid hcel; have HLTA := Lib.hid (ha4 (Q + S - 1) (by omega)); have HB13 := Lib.hid (bl_tr HB12W.out hb13); have HB1213 := Lib.hid hb13; clear ha1 ha2 ha3 ha4 ha5 ho13 hb13 hcel) | (go_at_call 52; refine (CST.out _ HB13.out).mono ?_; rintro e w14 ⟨v14, rfl, ho14, hb14⟩; obtain ⟨a14, c14, hs14⟩ := ho14.shape; rw [HSL.out] at hs14; subst hs14; have hcel := (hb14.cell (by exact HLTA.out)).trans HCEL.out; have HB14 := Lib.hid (bl_tr HB13.out hb14); have HB1214 := Lib.hid (bl_tr HB1213.out hb14); clear ho14 hb14))
                    have HWW : Hid (∃ pw, WA W w14 v12 pw ∧ rbs pw = RW) := ⟨_, HWH.out.below HB1214.out, by rw [← HRW.out, ← HIS.out]; simp [rbs]⟩
                  rotate_left 1
                  all_goals
                    obtain ⟨pw, hww⟩ := HWW.out
                    obtain ⟨PL, hPL⟩ : ∃ n, pw.length = n := ⟨_, rfl⟩
                    obtain ⟨aw, cw, hsw⟩ := hww.1.own.gs.shape
                    rw [hPL] at hsw
                    subst hsw
                    have HPW := Lib.hid hPL
                    have HW14 := Lib.hid hww.1
                    have HRB := Lib.hid hww.2
                    have HST14 := Lib.hid (HST12.out.below HB1214.out)
                    have CP := Lib.hid (bPower_any g gb fo7 s7 W.heap.size w14 HST14.out)
                    have hpf := bpow_f s7
                    have HPF := Lib.hid hpf
                    obtain ⟨s8, hs8⟩ : ∃ s8, bpow s7 = s8 := ⟨_, rfl⟩
                    rw [hs8] at CP HPF
                    clear hww hPL hpf hs8 HWW CI HIL HIX HTN hfl hs1 hcel hixl
                    go_wp2_with fail
                    refine CP.out.mono ?_
                    rintro e w15 ⟨rfl, fo15, hst15, ho15, hf15⟩
                    have hb15 : Below W.heap.size W w15 := HB14.out.trans (ho15.below (fun k hk => (HST14.out.foot k hk).1) HB14.out.size)
                    have HB15 := Lib.hid hb15
                    have HW15 := Lib.hid (HW14.out.st HST14.out ho15)
                    have hq15 : w15.heap[q]? = W.heap[q]? := hb15.block q (heap_lt HRQ.out)
                    obtain ⟨-, -, z2, z3⟩ := HZ.out w15 hq15
                    have hfc2 := HFC.out
                    have HST15 := Lib.hid hst15
                    have CF := Lib.hid (bFuse_any g gb fo15 s8 (fc : Int) (t3 : Int) (by have := HFB.out.2; omega) (by omega) W.heap.size w15 hst15 hb15.size)
                    clear hst15 ho15 hf15 hb15 hq15 CP
                    go_wp2_with fail
                    refine CF.out.mono ?_
                    rintro e w16 ⟨rfl, fo16, hst16, ho16, hf16⟩
                    rw [bset_eq s8 (fc : Int) (t3 : Int) (by omega) (by omega)] at hst16
                    have hts : TSi W g gb w16 r RW fo16 ⟨s8.n, s8.f, s8.off, some ((fc : Int), (t3 : Int)), s8.cnt⟩ := by
                      obtain ⟨p1, p2, p3, p4⟩ := HPF.out
                      refine ⟨hst16, ?_, p3, p2.trans HN7.out, ?_, ?_, HB15.out.trans (ho16.below (fun k hk => (HST15.out.foot k hk).1) HB15.out.size)⟩
                      · show Reg r s8.f RW
                        rw [p1]; exact HREG.out
                      · show 0 ≤ s8.cnt
                        rw [p4]; exact HC7.out.1
                      · show s8.cnt ≤ 3000
                        rw [p4]; have := HC7.out.2; omega
                    have HTS := Lib.hid hts
                    have CO := Lib.hid (hts.open_ HR1.out.1 HR1.out.2)
                    have HW16 := Lib.hid (HW15.out.st HST15.out ho16)
                    clear hst16 ho16 hf16 hts CF z2 z3 hfc2
                    go_wp2_with fail
                    refine CO.out.mono ?_
                    rintro e w17 ⟨y, E17, rfl, ho17, fo17, s17, hcase⟩
                    have HW17 := Lib.hid (HW16.out.st HTS.out.st ho17)
                    clear ho17 CO
                    rcases hcase with ⟨rfl, lg2, bb2, bc2, d2, vr2, ps2, rfl, hto⟩ | ⟨rfl, rfl, hfu, hoff, hst, hreg, hn, hc0, hc1, hbel⟩
                    focus
                      have HTO : Hid (∃ bb2 bc2 fo9 s9 d9 vr9 ps9, TOi W g gb lg2 bb2 bc2 w17 RW fo9 s9 d9 vr9 ps9) := ⟨_, _, _, _, _, _, _, hto⟩
                      have HWF := Lib.hid HW17.out
                      have q0 : ((0 : Int) != 0) = false := by decide
                      clear hto
                      obtain ⟨w20, rfl⟩ : ∃ V, V = w17 := ⟨_, rfl⟩
                      go_upto_region 39 with fail
                    rotate_left 1
                    focus
                      have hb17 : Below W.heap.size W w17 := hbel
                      have CP2 := Lib.hid (bPower_any g gb fo17 s17 W.heap.size w17 hst)
                      have hpf := bpow_f s17
                      have hpu : (bpow s17).fu = none := by unfold bpow; rw [hoff]; rfl
                      obtain ⟨s18, hs18⟩ : ∃ s18, bpow s17 = s18 := ⟨_, rfl⟩
                      rw [hs18] at CP2 hpf hpu
                      have q0 : ((50 : Int) != 0) = true := by decide
                      have q1 : ((50 : Int) != 50) = false := by decide
                      have HPF2 := Lib.hid hpf
                      have HPU := Lib.hid hpu
                      have HST17 := Lib.hid hst
                      have HREG2 := Lib.hid hreg
                      have HNC := Lib.hid (show s17.n = 60 ∧ 0 ≤ s17.cnt ∧ s17.cnt ≤ 3500 from ⟨hn, hc0, hc1⟩)
                      have HB17 := Lib.hid hb17
                      clear hs18 hpf hpu hfu hoff hst hreg hn hc0 hc1 hbel hb17
                      go_wp2_with fail
                      refine CP2.out.mono ?_
                      rintro e w18 ⟨rfl, fo18, hst18, ho18, hf18⟩
                      have hts2 : TSi2 W g gb w18 r RW fo18 s18 := by
                        obtain ⟨p1, p2, p3, p4⟩ := HPF2.out
                        exact ⟨hst18, by rw [p1]; exact HREG2.out, p3, p2.trans HNC.out.1, by rw [p4]; exact HNC.out.2.1, by rw [p4]; have := HNC.out.2.2; omega, HB17.out.trans (ho18.below (fun k hk => (HST17.out.foot k hk).1) HB17.out.size)⟩
                      have HW18 := Lib.hid (HW17.out.st HST17.out ho18)
                      have HTS2 := Lib.hid hts2
                      have CO2 := Lib.hid (hts2.open_ HPU.out HR1.out.1 HR1.out.2)
                      clear hst18 ho18 hf18 hts2 CP2
                      go_wp2_with fail
                      refine CO2.out.mono ?_
                      rintro e w19 ⟨lg2, rfl, ho19, hto⟩
                      have HTO : Hid (∃ bb2 bc2 fo9 s9 d9 vr9 ps9, TOi W g gb lg2 bb2 bc2 w19 RW fo9 s9 d9 vr9 ps9) := hto
                      have HWF := Lib.hid (HW18.out.st HTS2.out.st ho19)
                      clear hto ho19 CO2
                      obtain ⟨w20, rfl⟩ : ∃ V, V = w19 := ⟨_, rfl⟩
                      go_upto_region 39 with fail
                    rotate_left 1
                    all_goals
                      obtain ⟨bb2, bc2, fo9, s9, d9, vr9, ps9, hto⟩ := HTO.out
                      have HTO9 := Lib.hid hto
                      have CREC2 := Lib.hid (lRecords_any w20 W.heap.size lg2 bb2 bc2 g vr9 ps9 d9 hto.lo)
                      have q2 : ((0 : Int) != 0) = false := by decide
                      clear hto HTO
                      go_wp2_with fail
                      refine CREC2.out.mono ?_
                      rintro e w21 ⟨v21, rfl, hg21, hb21⟩
                      have hsame := rlsame_any v21 (.slice aw PL cw) ps9 pw w21 ⟨hg21.gs, fun p hp => ((HTO9.out.lo.each p hp).1.bs).below hb21⟩ ((HWF.out.below hb21).rcs (bl_tr HTO9.out.bel hb21))
                      rw [HTO9.out.lo.is, HTO9.out.recs, HRB.out, beq_self_eq_true] at hsame
                      have CSM2 := Lib.hid hsame
                      have HB21 := Lib.hid hb21
                      clear hg21 hb21 hsame CREC2
                      go_wp2_with fail
                      refine CSM2.out.mono ?_
                      rintro e w22 ⟨rfl, hb22⟩
                      have HB22 := Lib.hid (bl_tr HB21.out hb22)
                      have HB22W := Lib.hid (bl_tr HTO9.out.bel (bl_tr HB21.out hb22))
                      have HST22 := Lib.hid (HTO9.out.st.below HB22.out)
                      have CF2 := Lib.hid (bFuse_any g gb fo9 s9 200 0 (by omega) (by omega) W.heap.size w22 HST22.out HB22W.out.size)
                      clear hb22 CSM2
                      go_wp2_with fail
                      refine CF2.out.mono ?_
                      rintro e w23 ⟨rfl, fo23, hst23, ho23, hf23⟩
                      have hlo23 := (HTO9.out.lo.below HB22.out).only ho23 (fun k hk => (HTO9.out.lo.below HB22.out).apart HST22.out k hk)
                      have hb23 : Below W.heap.size W w23 := HB22W.out.trans (ho23.below (fun k hk => (HST22.out.foot k hk).1) HB22W.out.size)
                      have CRM := Lib.hid (lRoom_any w23 W.heap.size lg2 bb2 bc2 g vr9 ps9 d9 hlo23)
                      obtain ⟨RM, hRM⟩ : ∃ RM, lroom (d9.n * 64 - d9.fin) = RM := ⟨_, rfl⟩
                      rw [hRM] at CRM
                      have HRM := Lib.hid hRM
                      have HLO23 := Lib.hid hlo23
                      have HST23 := Lib.hid hst23
                      have HB23 := Lib.hid hb23
                      clear hst23 ho23 hf23 hlo23 hb23 hRM CF2
                      go_wp2_with fail
                      refine CRM.out.mono ?_
                      rintro e w24 ⟨rfl, hb24⟩
                      have HB24 := Lib.hid (bl_tr HB23.out hb24)
                      have HST24 := Lib.hid (HST23.out.below hb24)
                      have HLO24 := Lib.hid (HLO23.out.below hb24)
                      clear hb24 CRM
                      by_cases hrm : RM < 1
                      · have q3 : decide ((RM : Int) < 1) = true := decide_eq_true (by omega)
                        clear hrm
                        go_wp2
                        go_ret
                        exact ⟨rfl, bl_tr HB.out HB24.out⟩
                      · have q3 : decide ((RM : Int) < 1) = false := decide_eq_false (by omega)
                        have hal : Below w24.heap.size w24 (w24.alloc (.cells #[.int .u8 7] 5)) := (Below.refl _ _).alloc (Nat.le_refl _) _
                        have hlit := (ob_lit w24 5 #[.int .u8 7] [7] 1 rfl (by decide) rfl).bs
                        have hs7l : (lstands [7]).length = 3 := by
                          rw [lstands_len, show ([7] : List UInt8).length = 1 from rfl, vput_small (by omega)]
                          rfl
                        have hfit : d9.fin + (lstands [7]).length ≤ d9.n * 64 := by
                          have h1 := (lroom_iff (d9.n * 64 - d9.fin) 1 (by omega) (by omega)).1 (by have := HRM.out; omega)
                          rw [vput_small (by omega)] at h1
                          rw [hs7l]
                          simp at h1
                          omega
                        have hok := HTO9.out.ok.set 200 0 (by omega) (by omega)
                        have hcn : (bset s9 200 0).cnt = s9.cnt := by rw [bset_eq s9 200 0 (by omega) (by omega)]
                        have CAp := Lib.hid (lAppend_any (w24.alloc (.cells #[.int .u8 7] 5)) W.heap.size lg2 bb2 bc2 g gb fo23 vr9 ps9 (bset s9 200 0) d9 _ [7] (HST24.out.below hal) (HLO24.out.below hal) hok.live hok.on hok.sync hok.tail hok.fit (by rw [hcn]; exact HTO9.out.c0) (by rw [hcn]; have := HTO9.out.c1; omega) hlit
                          (by
                            intro k hk hf
                            simp only [Value.ownBlock, Option.some.injEq] at hk
                            rcases hf with hf | hf | hf
                            · have := (HST24.out.foot k hf).2; omega
                            · have := heap_lt HLO24.out.row; omega
                            · have := HLO24.out.b.lt; omega) ⟨by simp, by simp⟩ hfit (Nat.le_trans HB24.out.size hal.size))
                        have HBA := Lib.hid (bl_tr HB24.out hal)
                        have hpl : ps9.length = PL := by
                          rw [← HPW.out, ← rbs_len, ← rbs_len, HTO9.out.lo.is, HTO9.out.recs, HRB.out]
                        have hpl2 : PL ≤ 4000 := by
                          have h1 := HTO9.out.lo.few
                          have h2 := HTO9.out.ok.le
                          rw [HTO9.out.nn] at h2
                          omega
                        have HPL9 := Lib.hid hpl
                        have HFO24 := Lib.hid (fun k hk => (HST24.out.foot k hk).1)
                        have HLW := Lib.hid (show W.heap.size ≤ lg2 ∧ W.heap.size ≤ bb2 from ⟨HLO24.out.low, HLO24.out.lowb⟩)
                        have HVR := Lib.hid (fun k hk => (HLO24.out.recs.lt k hk).1)
                        clear hrm hal hlit hs7l hfit hok hcn hpl
                        go_wp2_with fail
                        refine CAp.out.mono ?_
                        rintro e w25 ⟨fo25, s25, d25, vr25, ps25, E25, rfl, hst25, hlo25, hcase, ho25, hf25, -, -⟩
                        have hb25 : Below W.heap.size W w25 := by
                          refine HBA.out.trans (ho25.below (fun k hk => ?_) HBA.out.size)
                          rcases hk with hk | hk | hk | hk
                          · exact HFO24.out k hk
                          · rw [hk]; exact HLW.out.1
                          · rw [hk]; exact HLW.out.2
                          · exact HVR.out k hk
                        have HB25 := Lib.hid hb25
                        rcases hcase with ⟨rfl, ⟨x25, hx25⟩, -⟩ | ⟨_, _, _, hT25⟩
                        · have CREC3 := Lib.hid (lRecords_any w25 W.heap.size lg2 bb2 bc2 g vr25 ps25 d25 hlo25)
                          have hn25 : ps25.length = PL + 1 := by rw [hx25, List.length_append, List.length_singleton, HPL9.out]
                          have HN25 := Lib.hid hn25
                          have q4 : ((0 : Int) == 0) = true := by decide
                          have hlw : ∀ V : World, (Builtin.len_ #[65] 3 #[.slice aw PL cw]).run Try.prog V = .ok (.int .i64 (PL : Int)) V := fun V => run_len_slice V 65 3 aw PL cw (by simp [Program.elem, Try.underlying65])
                          clear hst25 hlo25 ho25 hf25 hb25 hx25 hn25 CAp
                          go_wp2_with fail
                          refine CREC3.out.mono ?_
                          rintro e w26 ⟨v26, rfl, hg26, hb26⟩
                          obtain ⟨a26, c26, hs26⟩ := hg26.gs.shape
                          obtain ⟨M26, hM26⟩ : ∃ M, ps25.length = M := ⟨_, rfl⟩
                          rw [hM26] at hs26
                          subst hs26
                          have hMM : M26 = PL + 1 := by rw [← hM26]; exact HN25.out
                          have hlv : ∀ V : World, (Builtin.len_ #[65] 3 #[.slice a26 M26 c26]).run Try.prog V = .ok (.int .i64 (M26 : Int)) V := fun V => run_len_slice V 65 3 a26 M26 c26 (by simp [Program.elem, Try.underlying65])
                          have q5 : ((M26 : Int) == (PL : Int) + 1) = true := by rw [beq_iff_eq]; omega
                          have HB26 := Lib.hid (bl_tr HB25.out hb26)
                          clear hg26 hb26 hM26 hMM CREC3
                          go_wp2
                          go_ret
                          exact ⟨rfl, bl_tr HB.out HB26.out⟩
                        · exfalso
                          have h1 := hT25.fz 200 0 (by rw [bset_eq s9 200 0 (by omega) (by omega)])
                          rw [HTO9.out.nn] at h1
                          omega
-->T

end Go.Proofs.Ytbonapdainlpjaa
