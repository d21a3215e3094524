/- Layer 35 (log): the statement LogAppends, the walk: the records, one behind the other. -/
import Derived.Test.YtbonapdainlpjaaLg15
import Derived.Lib.QuietBelow
import Derived.Deep.CutBlock
set_option linter.unusedSimpArgs false
namespace Go.Proofs.Ytbonapdainlpjaa
open Go.RowKit Go.Sort

/-- the store, the log, what is wanted, what was kept: side by side -/
structure LAj (B g gb lg bb bc : Nat) (W : World) (s : BSt) (d : Lg) (vr : Value) (ps : List Rc) (vw : Value) (L : List UInt8) (vk : Value) (kp : List Rc) : Prop where
  st : StAt W B g gb none s
  lo : LoAt W B lg bb bc g vr ps d
  want : Ob W B 5 vw L
  wne : vw.ownBlock ≠ some bb
  wps : ∀ x ∈ ps, ∀ j, x.v.ownBlock = some j → vw.ownBlock ≠ some j
  kept : Gw 1 csP W B 43 vk kp
  kne : ∀ j, vk.ownBlock = some j → vr.ownBlock ≠ some j

section
variable {B g gb lg bb bc : Nat} {W W' : World} {s s' : BSt} {d d' : Lg} {vr vr' : Value} {ps ps' : List Rc} {vw vw' : Value} {L L' : List UInt8} {vk vk' : Value} {kp kp' : List Rc}
theorem LAj.below (h : LAj B g gb lg bb bc W s d vr ps vw L vk kp) (hb : Below W.heap.size W W') : LAj B g gb lg bb bc W' s d vr ps vw L vk kp :=
  ⟨h.st.below hb, h.lo.below hb, h.want.below hb, h.wne, h.wps, h.kept.below hb, h.kne⟩
theorem LAj.lt_w (h : LAj B g gb lg bb bc W s d vr ps vw L vk kp) : ∀ j, vw.ownBlock = some j → j < W.heap.size := fun j hj => (h.want.lt j hj).2
theorem LAj.lt_k (h : LAj B g gb lg bb bc W s d vr ps vw L vk kp) : ∀ j, vk.ownBlock = some j → j < W.heap.size := fun j hj => (h.kept.lt j hj).2
/-- the log is appended to -/
theorem LAj.app (h : LAj B g gb lg bb bc W s d vr ps vw L vk kp) (hst : StAt W' B g gb none s') (hlo : LoAt W' B lg bb bc g vr' ps' d') (ho : Only (fun k => stF g gb none k ∨ k = lg ∨ k = bb ∨ vr.ownBlock = some k) W W')
    (hv : vr'.ownBlock = vr.ownBlock ∨ ∀ k, vr'.ownBlock = some k → W.heap.size ≤ k) (hp : ∀ x ∈ ps', x ∈ ps ∨ ∀ k, x.v.ownBlock = some k → W.heap.size ≤ k) : LAj B g gb lg bb bc W' s' d' vr' ps' vw L vk kp := by
  refine ⟨hst, hlo, h.want.only ho ?_, h.wne, ?_, h.kept.only ho ?_, ?_⟩
  · rintro k hk (hf | rfl | rfl | hf)
    · obtain ⟨A, hA⟩ := h.want.tag k hk
      obtain ⟨A', t, h1, h2⟩ := h.st.tag hf
      have := tags_apart hA h1
      subst this
      rcases h2 with h2 | h2 | h2 <;> exact absurd h2 (by decide)
    · obtain ⟨A, hA⟩ := h.want.tag _ hk
      exact absurd (tags_apart hA h.lo.row) (by decide)
    · exact h.wne hk
    · obtain ⟨A, hA⟩ := h.want.tag _ hk
      obtain ⟨A', hA'⟩ := h.lo.recs.tag _ hf
      exact absurd (tags_apart hA hA') (by decide)
  · intro x hx j hj hj2
    rcases hp x hx with h1 | h1
    · exact h.wps x h1 j hj hj2
    · have := h1 j hj
      have := h.lt_w j hj2
      omega
  · rintro k hk (hf | rfl | rfl | hf)
    · obtain ⟨A, hA⟩ := h.kept.tag k hk
      obtain ⟨A', t, h1, h2⟩ := h.st.tag hf
      have := tags_apart hA h1
      subst this
      rcases h2 with h2 | h2 | h2 <;> exact absurd h2 (by decide)
    · obtain ⟨A, hA⟩ := h.kept.tag _ hk
      exact absurd (tags_apart hA h.lo.row) (by decide)
    · obtain ⟨A, hA⟩ := h.kept.tag _ hk
      obtain ⟨cur, h3, _⟩ := h.lo.b.row
      exact absurd (tags_apart hA h3) (by decide)
    · exact h.kne k hk hf
  · intro j hj hj2
    rcases hv with h1 | h1
    · rw [h1] at hj2
      exact h.kne j hj hj2
    · have := h1 j hj2
      have := h.lt_k j hj
      omega
/-- what is wanted is appended to -/
theorem LAj.wapp (h : LAj B g gb lg bb bc W s d vr ps vw L vk kp) (hw : Ob W' B 5 vw' L') (hg : W.grownBy W' vw.ownBlock) (hm : vw'.ownBlock = vw.ownBlock ∨ vw'.ownBlock = some W.heap.size) : LAj B g gb lg bb bc W' s d vr ps vw' L' vk kp := by
  have ho := grown_only hg
  have hall : ∀ k, loAll lg bb vr ps k → ¬ vw.ownBlock = some k := by
    rintro k ((rfl | rfl | hk) | ⟨p, hp, hk⟩) hj
    · obtain ⟨A, hA⟩ := h.want.tag _ hj
      exact absurd (tags_apart hA h.lo.row) (by decide)
    · exact h.wne hj
    · obtain ⟨A, hA⟩ := h.want.tag _ hj
      obtain ⟨A', hA'⟩ := h.lo.recs.tag _ hk
      exact absurd (tags_apart hA hA') (by decide)
    · exact h.wps p hp k hk hj
  refine ⟨h.st.only ho ?_, h.lo.only ho hall, hw, ?_, ?_, h.kept.only ho ?_, h.kne⟩
  · intro k hf hk
    obtain ⟨A, hA⟩ := h.want.tag k hk
    obtain ⟨A', t, h1, h2⟩ := h.st.tag hf
    have := tags_apart hA h1
    subst this
    rcases h2 with h2 | h2 | h2 <;> exact absurd h2 (by decide)
  · rcases hm with h1 | h1
    · rw [h1]; exact h.wne
    · rw [h1]
      intro e
      have := h.lo.b.lt
      have := Option.some.inj e
      omega
  · intro x hx j hj
    rcases hm with h1 | h1
    · rw [h1]; exact h.wps x hx j hj
    · rw [h1]
      intro e
      have := ((h.lo.each x hx).1.lt j hj).2
      have := Option.some.inj e
      omega
  · intro k hk hj
    obtain ⟨A, hA⟩ := h.want.tag _ hj
    obtain ⟨A', hA'⟩ := h.kept.tag _ hk
    exact absurd (tags_apart hA hA') (by decide)
/-- a record more is kept -/
theorem LAj.kapp (h : LAj B g gb lg bb bc W s d vr ps vw L vk kp) (hw : Gw 1 csP W' B 43 vk' kp') (hg : W.grownBy W' vk.ownBlock) (hm : vk'.ownBlock = vk.ownBlock ∨ vk'.ownBlock = some W.heap.size) : LAj B g gb lg bb bc W' s d vr ps vw L vk' kp' := by
  have ho := grown_only hg
  have hall : ∀ k, loAll lg bb vr ps k → ¬ vk.ownBlock = some k := by
    rintro k ((rfl | rfl | hk) | ⟨p, hp, hk⟩) hj
    · obtain ⟨A, hA⟩ := h.kept.tag _ hj
      exact absurd (tags_apart hA h.lo.row) (by decide)
    · obtain ⟨A, hA⟩ := h.kept.tag _ hj
      obtain ⟨cur, h3, _⟩ := h.lo.b.row
      exact absurd (tags_apart hA h3) (by decide)
    · exact h.kne k hj hk
    · obtain ⟨A, hA⟩ := h.kept.tag _ hj
      obtain ⟨A', hA'⟩ := (h.lo.each p hp).1.tag _ hk
      exact absurd (tags_apart hA hA') (by decide)
  refine ⟨h.st.only ho ?_, h.lo.only ho hall, h.want.only ho ?_, h.wne, h.wps, hw, ?_⟩
  · intro k hf hk
    obtain ⟨A, hA⟩ := h.kept.tag k hk
    obtain ⟨A', t, h1, h2⟩ := h.st.tag hf
    have := tags_apart hA h1
    subst this
    rcases h2 with h2 | h2 | h2 <;> exact absurd h2 (by decide)
  · intro k hk hj
    obtain ⟨A, hA⟩ := h.want.tag _ hk
    obtain ⟨A', hA'⟩ := h.kept.tag _ hj
    exact absurd (tags_apart hA hA') (by decide)
  · intro j hj
    rcases hm with h1 | h1
    · rw [h1] at hj; exact h.kne j hj
    · rw [h1] at hj
      intro e
      have := (h.lo.recs.lt j e).2
      have := Option.some.inj hj
      omega
end

structure LAi (w : World) (g gb lg bb bc n k : Nat) (wr : World) (s : BSt) (d : Lg) (vr : Value) (ps : List Rc) (vw vk : Value) (kp : List Rc) : Prop where
  j : LAj w.heap.size g gb lg bb bc wr s d vr ps vw (lall d.recs) vk kp
  ok : LOk s d
  fr : d.fr = 1
  nn : d.n = n
  sn : s.n = n + 2
  fu : s.fu = none
  c0 : 0 ≤ s.cnt
  c1 : s.cnt ≤ 12 * (k + 1 : Nat)
  out : ∀ j, (j < 64 ∨ (1 + n) * 64 ≤ j) → s.f j = 0
  keach : ∀ x ∈ kp, Bs w x.v x.2
  krec : rbs kp = d.recs
  klen : kp.length ≤ k
  bel : Below w.heap.size w wr

section
variable {w wr w' : World} {g gb lg bb bc n k : Nat} {s : BSt} {d : Lg} {vr : Value} {ps : List Rc} {vw vk : Value} {kp : List Rc}
theorem LAi.below (h : LAi w g gb lg bb bc n k wr s d vr ps vw vk kp) (hb : Below wr.heap.size wr w') : LAi w g gb lg bb bc n k w' s d vr ps vw vk kp :=
  ⟨h.j.below hb, h.ok, h.fr, h.nn, h.sn, h.fu, h.c0, h.c1, h.out, h.keach, h.krec, h.klen, h.bel.trans (hb.mono h.bel.size)⟩
theorem LAi.next (h : LAi w g gb lg bb bc n k wr s d vr ps vw vk kp) : LAi w g gb lg bb bc n (k + 1) wr s d vr ps vw vk kp :=
  ⟨h.j, h.ok, h.fr, h.nn, h.sn, h.fu, h.c0, by have := h.c1; omega, h.out, h.keach, h.krec, by have := h.klen; omega, h.bel⟩
end

section
variable {P : Program} {t e : TypeId} {bytes : Nat} {w : World}
theorem run_make_rowb (E : ElTy P t e (.int .u8 0) 1 bytes) (n c : Nat) (hnc : n ≤ c) (b2 : bytes * c ≤ 281474976710656) (b3 : c ≤ maxLen) (w : World) :
    (Instr.makeSlice t (.int .i64 (n : Int)) (.int .i64 (c : Int))).run P w = .ok (.slice (some ⟨w.heap.size, 0, none⟩) n c) (w.alloc (.cells (rowb c fun _ => 0) e)) := by
  obtain ⟨h1, ⟨i, hi, hz, hs, hb⟩, _⟩ := E
  have h63 : (c : Int) ≤ 9223372036854775807 := by simp only [maxLen] at b3; omega
  have hb' : (i.bytes : Int) * (c : Int) ≤ 281474976710656 := by
    have h : ((i.bytes * c : Nat) : Int) ≤ 281474976710656 := by rw [hb]; omega
    rwa [Int.natCast_mul] at h
  have hrun := run_make (P := P) w t e i _ h1 hi hz .i64 .i64 n c (by omega) (by omega) hb' h63
  rw [hs] at hrun
  simpa only [Int.toNat_natCast, madeCells_rowb] using hrun
end

theorem ClearPost.ok {w w' : World} {B lg bb bc g gb : Nat} {fo : Option Nat} {vr : Value} {ps : List Rc} {s : BSt} {d : Lg} {e : Ending} (h : ClearPost w B lg bb bc g gb fo vr ps s d e w') (hf : s.fu = none) :
    ∃ s' d1, e = .returned (.int .i64 0) ∧ StAt w' B g gb none s' ∧ LoAt w' B lg bb bc g (.slice none 0 0) [] { d1 with fin := 0, recs := [] } ∧ WipeR s d 0 d.n s' d1 ∧ Only (fun k => stF g gb fo k ∨ k = lg ∨ k = bb) w w' := by
  obtain ⟨fo', s', d', vr', ps', E, he, hst, hlo, hr, ho, hfo'⟩ := h
  rcases hr with ⟨rfl, rfl, rfl, d1, hW, rfl⟩ | ⟨_, _, _, hT⟩
  · obtain rfl := hst.fo_none (hW.fu hf)
    exact ⟨s', d1, he, hst, hlo, hW, ho⟩
  · exact absurd hf hT.fu0

theorem bl_tr {w a b : World} (h : Below w.heap.size w a) (k : Below a.heap.size a b) : Below w.heap.size w b := h.trans (k.mono h.size)

theorem bs_zero (W : World) (N : Nat) (hN : N ≤ maxLen) : Bs (W.alloc (.cells (rowb N fun _ => 0) 5)) (.slice (some ⟨W.heap.size, 0, none⟩) N N) ((List.range N).map fun _ => (0 : UInt8)) :=
  (ob_rowb (heap_alloc_new W _) W.heap.size N (Nat.le_refl _) (Nat.le_refl _) hN).bs

theorem lgood_small {r : List UInt8} (h1 : r.length ≠ 0) (h2 : r.length ≤ 300) : lgood r := ⟨by omega, by omega⟩

set_option maxRecDepth 100000 in
set_option maxHeartbeats 6400000 in
theorem la_walk (b0 : Nat) (hb0 : b0 < 256) (v : Value) (rs : List Rc) (w : World) (h : Rcs w v rs) :
    Calls Try.prog 8 #[.int .u8 (b0 : Int), v] w fun e w' => e = .returned (.bool true) ∧ Below w.heap.size w w' := by
  have CA := Lib.hid (lAwake_any w)
  obtain ⟨n, hn⟩ : ∃ n, b0 % 12 + 1 = n := ⟨_, rfl⟩
  have hrem : (b0 : Int) % 12 + 1 = (n : Int) := by omega
  have hn1 : 1 ≤ n ∧ n ≤ 12 := by omega
  have HR := Lib.hid h
  obtain ⟨K, hK⟩ : ∃ K, rs.length = K := ⟨_, rfl⟩
  obtain ⟨a, c, bq, o, rfl, hq1, hq2, hix, hlt', hcell, -⟩ := h.1.open_n layP elOB K hK
  have HC := Lib.hid hcell
  have HLT := Lib.hid hlt'
  have HK := Lib.hid hK
  clear h hn hcell hlt' hK
  go_enter Try.func8, Try.ntmps8
  go_wp2_with fail
  refine CA.out.mono ?_
  rintro e w1 ⟨rfl, hb1⟩
  have CSm := Lib.hid (small_any _ rs w1 (HR.out.below hb1))
  have HB1 := Lib.hid hb1
  clear hb1 CA
  go_wp2_with fail
  refine CSm.out.mono ?_
  rintro e w2 ⟨bs, rfl, hiff, hb2⟩
  have HB2 := Lib.hid (HB1.out.trans (hb2.mono HB1.out.size))
  clear hb2 CSm
  cases bs with
  | false =>
    go_wp2
    go_ret
    exact ⟨rfl, HB2.out⟩
  | true =>
    have hsm : lsmall rs := hiff.1 rfl
    have HSM := Lib.hid hsm
    have hK30 : K ≤ 30 := by rw [← HK.out]; exact hsm.2
    have CN := Lib.hid (bNew_any (n + 2) (by omega) (by omega) w2)
    rw [show (((n + 2 : Nat)) : Int) = (n : Int) + 2 by omega] at CN
    clear hiff hsm
    go_wp2_with fail
    refine CN.out.mono ?_
    rintro e w3 ⟨rfl, hb3, hst3⟩
    have hB3 : w2.heap.size ≤ w3.heap.size := hb3.size
    have CO := Lib.hid (lOpen_any w3 w2.heap.size (w2.heap.size + 1) w2.heap.size none (bzero (n + 2)) 1 n hst3 rfl hn1.1 (by show 1 + n ≤ n + 2; omega) (show (0 : Int) ≤ 0 by decide) (show (0 : Int) ≤ 4000000000000000000 by decide) hB3)
    rw [show ((1 : Nat) : Int) = 1 from rfl] at CO
    obtain ⟨g, hg⟩ : ∃ g, w2.heap.size + 1 = g := ⟨_, rfl⟩
    obtain ⟨gb, hgb⟩ : ∃ gb, w2.heap.size = gb := ⟨_, rfl⟩
    have HGG := Lib.hid hg
    have HGB := Lib.hid hgb
    rw [hg] at CO hst3 ⊢
    rw [hgb] at CO hst3 hb3
    have HST3 := Lib.hid hst3
    have hb03 : Below w.heap.size w w3 := HB2.out.trans (hb3.mono (by rw [← HGB.out]; exact HB2.out.size))
    have HB3 := Lib.hid hb03
    clear hst3 hb3 hB3 hg hgb CN hb03
    go_wp2_with fail
    refine CO.out.mono ?_
    intro e w4 hpost
    obtain ⟨s, d, lg, bb, bc, vr, ps, rfl, hst, hlo, ho, hok, hfr, hnn, hrec, hfin, hfu, hsn, hlo0, hhi0, hf⟩ := hpost.ok rfl rfl (by show 1 + n ≤ n + 2; omega)
    rw [lreg_zero, lrecs_zeros] at hrec hfin hf
    simp only at hrec hfin hf
    have hps : ps = [] := by
      have := hlo.is
      rw [hrec] at this
      exact List.map_eq_nil_iff.1 this
    have hwg : w.heap.size ≤ gb := by rw [← HGB.out]; exact HB2.out.size
    have START : Hid (∃ s d vr ps kp, LAi w g gb lg bb bc n 0 w4 s d vr ps (.slice none 0 0) (.slice none 0 0) kp) := by
      refine ⟨s, d, vr, ps, [], ⟨?_, hlo.mono HB3.out.size, ?_, by simp [Value.ownBlock], by rw [hps]; simp, Gw.nil _ _ _, by simp [Value.ownBlock]⟩, hok, hfr, hnn, ?_, hfu, ?_, ?_, fun j hj => ?_, by simp, by rw [hrec]; rfl, by simp, ?_⟩
      · exact ⟨Nat.le_trans hwg hst.low, Nat.le_trans hwg hst.lowb, hst.n1, hst.n2, hst.row, hst.blk, .inl ⟨rfl, hfu⟩⟩
      · rw [hrec]
        exact Ob.nil _ _ _
      · rw [hsn]; rfl
      · have h1 : (bzero (n + 2)).cnt = 0 := rfl
        rw [h1] at hlo0
        exact hlo0
      · have h1 : (bzero (n + 2)).cnt = 0 := rfl
        rw [h1] at hhi0
        omega
      · rw [hf]
        split
        · rfl
        · rfl
      · exact HB3.out.trans (ho.below (fun j hj => Nat.le_trans hwg (HST3.out.foot j hj).1) HB3.out.size)
    clear hpost hst hlo ho hok hfr hnn hrec hfin hfu hsn hlo0 hhi0 hf hps hwg CO
    go_wp2_with fail
    go_loopw [10, 11, 45] (fun vw vk vi wr => ∃ k : Nat, k ≤ K ∧ vi = .int .i64 k ∧ Hid (∃ s d vr ps kp, LAi w g gb lg bb bc n k wr s d vr ps vw vk kp)) (fun _ _ vi _ => K - (intOf vi).toNat)
    case atStart => exact ⟨0, by omega, rfl, START⟩
    case round =>
      obtain ⟨k, hk, rfl, HX⟩ := hrel
      obtain ⟨s, d, vr, ps, kp, hI⟩ := HX.out
      have HI := Lib.hid hI
      clear START HX hI
      by_cases hlt : k < K
      · have e5 : (k : Int) < K := by omega
        obtain ⟨x, hx⟩ : ∃ x, rs[k]? = some x := ⟨_, List.getElem?_eq_getElem (by rw [HK.out]; exact hlt)⟩
        have m0 := HC.out k x hx 0 _ rfl
        rw [Nat.add_zero, ← HI.out.bel.cell (by exact HLT.out k hlt)] at m0
        have hixk := fun W => hix W k hlt
        have hxw : Bs w x.v x.2 := HR.out.2 x (List.mem_of_getElem? hx)
        have h300 := HSM.out.1 x (List.mem_of_getElem? hx)
        obtain ⟨⟨xa, xn, xc⟩, r⟩ := x
        obtain ⟨rl, hrl⟩ : ∃ rl, r.length = rl := ⟨_, rfl⟩
        have hsx := Rc.shape hxw
        simp only at hsx h300
        rw [hsx] at m0 hxw
        simp only at m0 hxw
        rw [hrl] at m0 hxw h300
        have HXW := Lib.hid hxw
        have HXR := Lib.hid (hxw.below HI.out.bel)
        obtain ⟨S, hS⟩ : ∃ S, (lstands r).length = S := ⟨_, rfl⟩
        have hSl := lstands_len r
        have hvl : (vput r.length).length ≤ 10 := vput_len10 _ (by rw [hrl]; omega)
        rw [hS, hrl] at hSl
        rw [hrl] at hvl
        have hS1 : 1 ≤ S ∧ S ≤ 311 := by omega
        have hdl := HI.out.ok.le
        rw [HI.out.nn] at hdl
        have hwl : (lall d.recs).length = d.fin := HI.out.ok.fin.symm
        obtain ⟨Q, hQ⟩ : ∃ Q, d.fin = Q := ⟨_, rfl⟩
        rw [hQ] at hwl hdl
        obtain ⟨aw, cw, hsw⟩ := HI.out.j.want.shape
        rw [hwl] at hsw
        subst hsw
        have hQ2 : Q ≤ 768 := by omega
        have CST : Hid (∀ V : World, Below w.heap.size w V → Calls Try.prog 52 #[.slice xa rl xc] V fun e w' => ∃ v', e = .returned v' ∧ Ob w' V.heap.size 5 v' (lstands r) ∧ Below V.heap.size V w') := fun V hV => rstands_any _ r V (HXW.out.below hV) (by rw [hrl]; omega)
        have HSL := Lib.hid hS
        have HRL := Lib.hid hrl
        have HQ := Lib.hid hQ
        have HWL := Lib.hid hwl
        have HKK := Lib.hid hlt
        have HDL := Lib.hid hdl
        have HSV := Lib.hid hSl
        have HGS := Lib.hid hx
        clear hx hxw hsx hrl hS hSl hQ hwl hlt hdl hvl hk
        by_cases hz : rl = 0
--<Z
        · have CAp := Lib.hid (lAppend_bad wr w.heap.size lg bb bc g vr ps d _ r HI.out.j.lo HI.out.ok.live HXR.out (by unfold lgood; rw [HRL.out]; omega))
          subst hz
          have e6 : (((0 : Nat) : Int) == 0) = true := by decide
          have e7 : ((2 : Int) != 2) = false := by decide
          go_wp2_with (first | (go_at_call 51; refine CAp.out.mono ?_; rintro e w5 ⟨rfl, rfl⟩) | (go_at_call 52; refine (CST.out _ HI.out.bel).mono ?_; rintro e w6 ⟨v6, rfl, ho6, hb6⟩; obtain ⟨a6, c6, hs6⟩ := ho6.shape; rw [HSL.out] at hs6; subst hs6; have HO6 := Lib.hid ho6; have HB6 := Lib.hid hb6; clear ho6 hb6))
          have hf : Hid (∃ s d vr ps kp, LAi w g gb lg bb bc n (k + 1) w6 s d vr ps (.slice aw Q cw) u11 kp) := ⟨s, d, vr, ps, kp, (HI.out.below HB6.out).next⟩
          go_roundw
          case rel => exact ⟨k + 1, HKK.out, by go_num, hf⟩
          case measure => simp [intOf]; have := HKK.out; omega
-->Z
        · have hgood : lgood r := by unfold lgood; rw [HRL.out]; omega
          have e6 : ((rl : Int) == 0) = false := by simp; omega
          by_cases hfull : n * 64 < Q + S
--<F
          · have CAp := Lib.hid (lAppend_full wr w.heap.size lg bb bc g vr ps d _ r HI.out.j.lo HI.out.ok.live HXR.out hgood (by rw [HI.out.nn, HQ.out, HSL.out]; exact hfull))
            have e7 : (n : Int) * 64 < (Q : Int) + (S : Int) := by omega
            have e8 : ((51 : Int) != 51) = false := by decide
            have hroom : ¬ rl ≤ lroom (n * 64 - Q) := by
              intro hle
              have h1 := (lroom_iff (n * 64 - Q) rl (by omega) (by omega)).1 hle
              have h2 := HSV.out
              omega
            obtain ⟨RM, hRM⟩ : ∃ RM, lroom (n * 64 - Q) = RM := ⟨_, rfl⟩
            rw [hRM] at hroom
            have e9 : decide (rl ≤ RM) = false := decide_eq_false hroom
            have CRM : Hid (∀ V : World, Below wr.heap.size wr V → Calls Try.prog 48 #[.pointer (some ⟨lg, 0, none⟩)] V fun e w' => e = .returned (.int .i64 (RM : Int)) ∧ Below V.heap.size V w') := fun V hV => by
              have := lRoom_any V w.heap.size lg bb bc g vr ps d (HI.out.j.lo.below hV)
              rw [HI.out.nn, HQ.out, hRM] at this
              exact this
            have hRM2 : (RM : Int) ≤ 262144 := by have := lroom_max (n * 64 - Q); omega
            clear hroom hRM hgood hz hfull
            go_wp2_with (first | (go_at_call 51; refine CAp.out.mono ?_; rintro e w5 ⟨rfl, hb5⟩; have HB5 := Lib.hid hb5; clear hb5) | (go_at_call 52; refine (CST.out _ (HI.out.bel.trans (HB5.out.mono HI.out.bel.size))).mono ?_; rintro e w6 ⟨v6, rfl, ho6, hb6⟩; obtain ⟨a6, c6, hs6⟩ := ho6.shape; rw [HSL.out] at hs6; subst hs6; have HO6 := Lib.hid ho6; have HB6 := Lib.hid hb6; clear ho6 hb6) | (go_at_call 48; refine (CRM.out _ (HB5.out.trans (HB6.out.mono HB5.out.size))).mono ?_; rintro e w7 ⟨rfl, hb7⟩; have HB7 := Lib.hid hb7; clear hb7))
            have hf : Hid (∃ s d vr ps kp, LAi w g gb lg bb bc n (k + 1) w7 s d vr ps (.slice aw Q cw) u11 kp) := ⟨s, d, vr, ps, kp, (((HI.out.below HB5.out).below HB6.out).below HB7.out).next⟩
            go_roundw
            case rel => exact ⟨k + 1, HKK.out, by go_num, hf⟩
            case measure => simp [intOf]; have := HKK.out; omega
-->F
--<D
          · have hff : d.fin + (lstands r).length ≤ d.n * 64 := by rw [HI.out.nn, HQ.out, HSL.out]; omega
            have hne : r ≠ [] := by intro e; have := HRL.out; rw [e] at this; simp at this; omega
            have CAp := Lib.hid (lAppend_any wr w.heap.size lg bb bc g gb none vr ps s d _ r HI.out.j.st HI.out.j.lo HI.out.ok.live HI.out.ok.on HI.out.ok.sync HI.out.ok.tail HI.out.ok.fit HI.out.c0 (by have := HI.out.c1; omega) HXR.out
              (by
                intro q hq hf
                have h1 := HXW.out.lt hne q hq
                rcases hf with hf | hf | hf
                · have := (HI.out.j.st.foot q hf).1; omega
                · have := HI.out.j.lo.low; omega
                · have := HI.out.j.lo.lowb; omega) hgood hff HI.out.bel.size)
            have HGOOD := Lib.hid hgood
            have HFF := Lib.hid hff
            have e7 : ¬ (n : Int) * 64 < (Q : Int) + (S : Int) := by omega
            have e8 : ((0 : Int) != 0) = false := by decide
            clear hgood hz hfull hff hne
            go_wp2_with fail
            refine CAp.out.mono ?_
            intro e w5 hpost
            obtain ⟨s5, d5, vr5, ps5, rfl, hst5, hlo5, hA, hfu5, ho5, hv5, hp5⟩ := hpost.ok HI.out.fu
            have hb5 : Below w.heap.size w w5 := by
              refine HI.out.bel.trans (ho5.below (fun q hq => ?_) HI.out.bel.size)
              rcases hq with hq | hq | hq | hq
              · exact (HI.out.j.st.foot q hq).1
              · rw [hq]; exact HI.out.j.lo.low
              · rw [hq]; exact HI.out.j.lo.lowb
              · exact (HI.out.j.lo.recs.lt q hq).1
            have J5 := Lib.hid (HI.out.j.app hst5 hlo5 ho5 hv5 hp5)
            have HB5 := Lib.hid hb5
            have HA := Lib.hid hA
            have HFU5 := Lib.hid hfu5
            clear hpost hst5 hlo5 hA hfu5 ho5 hv5 hp5 hb5
            go_wp2_with fail
            refine (CST.out _ HB5.out).mono ?_
            rintro e w6 ⟨v6, rfl, ho6, hb6⟩
            obtain ⟨a6, c6, hs6⟩ := ho6.shape
            rw [HSL.out] at hs6
            subst hs6
            have J6 := Lib.hid (J5.out.below hb6)
            have HO6 := Lib.hid ho6
            have HB6 := Lib.hid (HB5.out.trans (hb6.mono HB5.out.size))
            clear ho6 hb6
            go_wp2_with (first
              | (at_builtin; refine wpList_append_bytes_mv J6.out.want HO6.out.bs elB (by rw [HWL.out, HSL.out]; omega) (by rw [HWL.out, HSL.out]; omega) HB6.out.size ?_ _ _ rfl rfl rfl rfl; intro v7 w7 ho7 hg7 hm7; have J7 := Lib.hid (J6.out.wapp ho7 hg7 hm7); have HB7 := Lib.hid (HB6.out.trans ((Below.refl _ _).grown hg7 HB6.out.size (fun q hq => (J6.out.want.lt q hq).1))); clear ho7 hg7 hm7; have hal : Below w7.heap.size w7 (w7.alloc (.cells #[.slice xa rl xc] 43)) := (Below.refl w7.heap.size w7).alloc (Nat.le_refl _) _; have J8 := Lib.hid (J7.out.below hal); have hown := J8.out.kept; have hlit : Gs 1 csP (w7.alloc (.cells #[.slice xa rl xc] 43)) (.slice (some ⟨w7.heap.size, 0, none⟩) 1 1) [(((xa, rl, xc), r) : Rc)] := (gw_lit layP w7 43 #[.slice xa rl xc] [(((xa, rl, xc), r) : Rc)] 1 rfl (by decide) rfl).gs; have HB8 := Lib.hid (HB7.out.trans (hal.mono HB7.out.size)); have hbz := HB8.out.size; clear hal)
              | (at_builtin; refine wpList_append_gs layP hown hlit elOB (by have := HI.out.klen; simp; omega) (by have := HI.out.klen; simp; omega) hbz ?_ _ _ rfl rfl rfl rfl; intro v9 w9 ho9 hg9 hb9 hm9; have J9 := Lib.hid (J8.out.kapp ho9 hg9 hm9); have HB9 := Lib.hid (HB8.out.trans hb9); clear ho9 hg9 hb9 hm9))
            have hf : Hid (∃ s d vr ps kp, LAi w g gb lg bb bc n (k + 1) w9 s d vr ps v7 v9 kp) := by
              have hd := HA.out.d1
              have hj := J9.out
              rw [show lall d.recs ++ lstands r = lall d5.recs by rw [hd]; show _ = lall (d.recs ++ [r]); rw [lall_app, lall_one]] at hj
              refine ⟨s5, d5, vr5, ps5, kp ++ [(((xa, rl, xc), r) : Rc)], hj, app_ok HI.out.ok HGOOD.out HFF.out HA.out, by rw [hd]; exact HI.out.fr, by rw [hd]; exact HI.out.nn, by rw [HA.out.n]; exact HI.out.sn, HFU5.out, ?_, ?_, fun q hq => ?_, ?_, ?_, by rw [List.length_append, List.length_singleton]; have := HI.out.klen; omega, HB9.out⟩
              · have := HA.out.lo
                have := HI.out.c0
                omega
              · have h1 := HA.out.hi
                rw [HI.out.nn] at h1
                have := HI.out.c1
                omega
              · rw [HA.out.f, HI.out.fr, HI.out.nn, if_neg (by omega)]
                exact HI.out.out q hq
              · intro y hy
                rcases List.mem_append.1 hy with hy | hy
                · exact HI.out.keach y hy
                · simp only [List.mem_singleton] at hy
                  subst hy
                  exact HXW.out
              · rw [hd]
                show rbs (kp ++ _) = d.recs ++ [r]
                rw [← HI.out.krec]
                simp [rbs]
            clear hown hlit hbz
            go_roundw
            case rel => exact ⟨k + 1, HKK.out, by go_num, hf⟩
            case measure => simp [intOf]; have := HKK.out; omega
-->D
      · obtain rfl : k = K := by omega
        have e5 : ¬ (k : Int) < k := by omega
--<T
        obtain ⟨Q, hQ⟩ : ∃ Q, d.fin = Q := ⟨_, rfl⟩
        have hwl : (lall d.recs).length = Q := by rw [← HI.out.ok.fin, hQ]
        have hdl := HI.out.ok.le
        rw [HI.out.nn, hQ] at hdl
        obtain ⟨aw, cw, hsw⟩ := HI.out.j.want.shape
        rw [hwl] at hsw
        subst hsw
        have hpiece : ((bimg s).drop 64).take Q = lall d.recs := by
          have hb := HI.out.ok.b
          apply List.ext_getElem?
          intro q
          rw [List.getElem?_take]
          by_cases hq : q < Q
          · obtain ⟨x, hx⟩ : ∃ x, (lall d.recs)[q]? = some x := ⟨_, List.getElem?_eq_getElem (by omega)⟩
            rw [if_pos hq, hx, List.getElem?_drop]
            have h1 : d.b[q]? = some x := by rw [hb, List.getElem?_append_left (by omega), hx]
            have h2 := HI.out.ok.sync q x h1
            rw [HI.out.fr] at h2
            unfold bimg
            rw [List.getElem?_map, HI.out.sn, List.getElem?_range (by omega)]
            rw [show 64 + q = 1 * 64 + q by omega]
            exact congrArg some h2
          · rw [if_neg hq, List.getElem?_eq_none (by omega)]
        have CI := Lib.hid (bImage_any g gb none s w.heap.size wr HI.out.j.st)
        obtain ⟨N, hN⟩ : ∃ N, (bimg s).length = N := ⟨_, rfl⟩
        have hN2 : N = (n + 2) * 64 := by rw [← hN]; unfold bimg; rw [List.length_map, List.length_range, HI.out.sn]
        have HN := Lib.hid hN
        have HN2 := Lib.hid hN2
        have HQ := Lib.hid hQ
        have HWL := Lib.hid hwl
        have HPC := Lib.hid hpiece
        have hQ3 : Q ≤ 768 := by omega
        have HDL := Lib.hid hdl
        clear hQ hwl hpiece hN hN2 hdl hlt hk
        go_wp2_with fail
        refine CI.out.mono ?_
        rintro e w5 ⟨v5, rfl, ho5, hb5⟩
        obtain ⟨a5, c5, hs5⟩ := ho5.shape
        rw [HN.out] at hs5
        subst hs5
        obtain ⟨Y, hY, hYb⟩ := Bs.piece (P := Try.prog) elB ho5.bs 64 (64 + Q) (by omega) (by rw [HN.out, HN2.out]; have := HDL.out; omega)
        rw [show 64 + Q - 64 = Q by omega, HPC.out] at hYb
        rw [show ((64 : Nat) : Int) = 64 from rfl, show (((64 + Q : Nat)) : Int) = 64 + (Q : Int) by omega] at hY
        have J5 := Lib.hid (HI.out.below hb5)
        have HYB := Lib.hid hYb
        have CREC := Lib.hid (lRecords_any w5 w.heap.size lg bb bc g vr ps d J5.out.j.lo)
        clear hYb ho5 hb5 CI
        go_wp2_with fail
        refine CREC.out.mono ?_
        rintro e w6 ⟨v6, rfl, hg6, hb6⟩
        have J6 := Lib.hid (J5.out.below hb6)
        have hsame := rlsame_any v6 _ ps kp w6 ⟨hg6.gs, fun x hx => (J6.out.j.lo.each x hx).1.bs⟩ ⟨J6.out.j.kept.gs, fun x hx => (J6.out.keach x hx).below J6.out.bel⟩
        rw [J6.out.j.lo.is, J6.out.krec, beq_self_eq_true] at hsame
        have CSM := Lib.hid hsame
        have HYB6 := Lib.hid (HYB.out.below hb6)
        clear hg6 hb6 hsame
        go_wp2_with fail
        refine CSM.out.mono ?_
        rintro e w7 ⟨rfl, hb7⟩
        have J7 := Lib.hid (J6.out.below hb7)
        have hend := lEnd_any w7 w.heap.size lg bb bc g vr ps d J7.out.j.lo
        rw [HQ.out] at hend
        have CE := Lib.hid (hend.mono fun _ _ h => (⟨h.1, h.2.symm⟩ : _ ∧ w7 = _))
        have HYB7 := Lib.hid (HYB6.out.below hb7)
        clear hb7 hend
        have hsm2 := same_any Y _ (lall d.recs) (lall d.recs) w7 HYB7.out J7.out.j.want.bs
        rw [beq_self_true] at hsm2
        have CS2 := Lib.hid hsm2
        clear hsm2
        have e6 : ((Q : Int) != Q) = false := by simp
        obtain ⟨M, hM⟩ : ∃ M : Nat, M = 262145 := ⟨_, rfl⟩
        have hmk : ∀ W : World, (Instr.makeSlice 43 (.int .i64 262145) (.int .i64 262145)).run Try.prog W = .ok (.slice (some ⟨W.heap.size, 0, none⟩) M M) (W.alloc (.cells (rowb M fun _ => 0) 5)) := fun W => by
          have h1 := run_make_rowb elB M M (Nat.le_refl _) (by omega) (by unfold maxLen; omega) W
          rwa [show (M : Int) = 262145 by omega] at h1
        have HMM : Hid (M ≤ maxLen) := by show _ ≤ _; unfold maxLen; omega
        have HMG : Hid (¬ lgood ((List.range M).map fun _ => (0 : UInt8))) := by
          show ¬ _
          unfold lgood
          rw [List.length_map, List.length_range]
          omega
        have e7 : ((2 : Int) != 2) = false := by decide
        clear hM
        go_upto_region 33 with (first | (go_at_call 47; refine CE.out.mono ?_; rintro e w' ⟨rfl, rfl⟩) | (go_at_call 30; refine CS2.out.mono ?_; rintro e w8 ⟨rfl, hb8⟩; have J8 := Lib.hid (J7.out.below hb8); clear hb8) | (go_at_call 51; refine (lAppend_bad _ w.heap.size lg bb bc g vr ps d _ ((List.range M).map fun _ => (0 : UInt8)) (J8.out.j.lo.below ((Below.refl w8.heap.size w8).alloc (Nat.le_refl _) _)) J8.out.ok.live (ob_rowb (heap_alloc_new w8 _) w8.heap.size M (Nat.le_refl _) (Nat.le_refl _) HMM.out).bs HMG.out).mono ?_; rintro e w9 ⟨rfl, rfl⟩))
        obtain ⟨W9, hW9⟩ : ∃ V, w8.alloc (.cells (rowb M fun _ => 0) 5) = V := ⟨_, rfl⟩
        have J9 : Hid (LAi w g gb lg bb bc n k W9 s d vr ps (.slice aw Q cw) u11 kp) := by
          rw [← hW9]
          exact J8.out.below ((Below.refl w8.heap.size w8).alloc (Nat.le_refl _) _)
        rw [hW9]
        clear hW9 hmk hY
        have e8 : ((1 : Int) != 1) = false := by decide
        have e9 : ((0 : Int) != 0) = false := by decide
        go_wp2_with (first | (go_at_call 51; refine (lAppend_nil _ _).mono ?_; rintro e w' ⟨rfl, rfl⟩) | (go_at_call 53; refine (lClear_nil _).mono ?_; rintro e w' ⟨rfl, rfl⟩) | (go_at_call 47; refine (lEnd_nil _).mono ?_; rintro e w' ⟨rfl, rfl⟩) | (go_at_call 48; refine (lRoom_nil _).mono ?_; rintro e w' ⟨rfl, rfl⟩) | (go_at_call 46; refine (lRecords_nil _).mono ?_; rintro e w' ⟨rfl, rfl⟩))
        have J9 := Lib.hid J9.out
        have CCL := Lib.hid (lClear_any w'.drew w.heap.size lg bb bc g gb none vr ps s d (J9.out.j.st.below (Below.refl _ _).drew) (J9.out.j.lo.below (Below.refl _ _).drew) J9.out.ok.live J9.out.ok.on J9.out.ok.sync J9.out.ok.fit J9.out.c0 (by have := J9.out.c1; omega))
        have hmk : ∀ W : World, (Instr.makeSlice 43 (.int .i64 (N : Int)) (.int .i64 (N : Int))).run Try.prog W = .ok (.slice (some ⟨W.heap.size, 0, none⟩) N N) (W.alloc (.cells (rowb N fun _ => 0) 5)) := fun W => run_make_rowb elB N N (Nat.le_refl _) (by rw [HN2.out]; omega) (by rw [HN2.out]; unfold maxLen; omega) W
        have e10 : ((0 : Int) == 0) = true := by decide
        have HNM : Hid (N ≤ maxLen) := by show _ ≤ _; rw [HN2.out]; unfold maxLen; omega
        have FIN : Hid (∀ (wc : World) (s' : BSt) (d1 : Lg), StAt wc w.heap.size g gb none s' → LoAt wc w.heap.size lg bb bc g (.slice none 0 0) [] { d1 with fin := 0, recs := [] } → WipeR s d 0 d.n s' d1 →
            (∀ V : World, Below wc.heap.size wc V → Calls Try.prog 47 #[.pointer (some ⟨lg, 0, none⟩)] V fun e w' => e = .returned (.int .i64 0) ∧ V = w') ∧
            (∀ V : World, Below wc.heap.size wc V → Calls Try.prog 46 #[.pointer (some ⟨lg, 0, none⟩)] V fun e w' => ∃ a c, e = .returned (.slice a 0 c) ∧ Below V.heap.size V w') ∧
            (∀ V : World, Below wc.heap.size wc V → Calls Try.prog 39 #[.pointer (some ⟨g, 0, none⟩)] V fun e w' => ∃ v, e = .returned v ∧ Bs w' v ((List.range N).map fun _ => (0 : UInt8)) ∧ Below V.heap.size V w')) := by
          intro wc s' d1 hst hlo hW
          refine ⟨fun V hV => ?_, fun V hV => ?_, fun V hV => ?_⟩
          · exact (lEnd_any V w.heap.size lg bb bc g _ _ _ (hlo.below hV)).mono fun _ _ h => ⟨h.1, h.2.symm⟩
          · refine (lRecords_any V w.heap.size lg bb bc g _ _ _ (hlo.below hV)).mono fun e w' h => ?_
            obtain ⟨v, h1, h2, h3⟩ := h
            obtain ⟨a, c, h4⟩ := h2.gs.shape
            exact ⟨a, c, by rw [h1, h4]; rfl, h3⟩
          · refine (bImage_any g gb none s' w.heap.size V (hst.below hV)).mono fun e w' h => ?_
            obtain ⟨v, h1, h2, h3⟩ := h
            refine ⟨v, h1, ?_, h3⟩
            have hz : bimg s' = (List.range N).map fun _ => (0 : UInt8) := by
              unfold bimg
              rw [hW.n, J9.out.sn, ← HN2.out]
              apply List.map_congr_left
              intro q hq
              have hq2 : q < N := by simpa using hq
              rw [hW.f, J9.out.fr, J9.out.nn]
              split
              · rfl
              · exact J9.out.out q (by have := HN2.out; omega)
            rw [← hz]
            exact h2.bs
        have CSM2 : Hid (∀ (V : World) (u z : Value), Bs V u ((List.range N).map fun _ => (0 : UInt8)) → Bs V z ((List.range N).map fun _ => (0 : UInt8)) → Calls Try.prog 30 #[u, z] V fun e w' => e = .returned (.bool true) ∧ Below V.heap.size V w') := fun V u z hu hz => by
          have := same_any u z _ _ V hu hz
          rwa [beq_self_true] at this
        have HBE := Lib.hid J9.out.bel
        have HFT : Hid (∀ q, (stF g gb none q ∨ q = lg ∨ q = bb) → w.heap.size ≤ q) := fun q hq => by
          rcases hq with hq | hq | hq
          · exact (J9.out.j.st.foot q hq).1
          · rw [hq]; exact J9.out.j.lo.low
          · rw [hq]; exact J9.out.j.lo.lowb
        have HFU := Lib.hid J9.out.fu
        clear e7 e8 e9 e6 e5
        go_region_held3 (fun _ => True) (exact trivial) (first
          | (go_at_call 53; (with_reducible refine CCL.out.mono ?_); intro e wc hpost; obtain ⟨s', d1, rfl, hst, hlo, hW, ho⟩ := hpost.ok HFU.out; obtain ⟨F1, F2, F3⟩ := FIN.out wc s' d1 hst hlo hW; have F1 := Lib.hid F1; have F2 := Lib.hid F2; have F3 := Lib.hid F3; have BC : Below w.heap.size w wc := (HBE.out.drew).trans (ho.below HFT.out (by exact HBE.out.size)); clear hpost hst hlo hW ho)
          | (go_at_call 47; (with_reducible refine (F1.out _ (Below.refl _ _)).mono ?_); rintro e we ⟨rfl, rfl⟩)
          | (go_at_call 46; (with_reducible refine (F2.out _ (Below.refl _ _)).mono ?_); rintro e wf ⟨af, cf, rfl, hbf⟩)
          | (go_at_call 39; (with_reducible refine (F3.out _ (by first | exact hbf | exact bw_al hbf _)).mono ?_); rintro e wg ⟨vg, rfl, hvg, hbg⟩)
          | (go_at_call 30; (with_reducible refine (CSM2.out _ _ _ (by first | exact hvg | exact hvg.alloc _) (by first | exact bs_zero wg N HNM.out | exact (bs_zero wf N HNM.out).below hbg)).mono ?_); rintro e wh ⟨rfl, hbh⟩))
        all_goals
          have HBF : Hid (Below w.heap.size w wh) := by first | exact bl_tr (bl_tr (bw_al (bl_tr BC hbf) _) hbg) hbh | exact bl_tr (bw_al (bl_tr (bl_tr BC hbf) hbg) _) hbh
          clear BC hbf hbg hbh
          go_wp2
          go_ret
          exact ⟨rfl, HBF.out⟩
-->T

end Go.Proofs.Ytbonapdainlpjaa
