/- Layer 36 (snap): the statement SnapSteps, the walk. -/
import Derived.Test.YtbonapdainlpjaaSp18
import Derived.Test.YtbonapdainlpjaaSp16
import Derived.Deep.RegionLaw
import Derived.Deep.CutBlock
import Derived.Deep.DeepCutAuto
import Derived.Deep.LoopGhost
set_option linter.unusedSimpArgs false
namespace Go.Proofs.Ytbonapdainlpjaa
open Go.RowKit Go.Sort

/-- the law's state between two steps -/
def SS (q : Nat) (w : World) (B g gb n h m : Nat) (vj vS vQ : Value) (wr : World) : Prop :=
  ∃ jp fo s L u ps, vj = .pointer (some ⟨jp, 0, none⟩) ∧ SJ q w B g gb n h m jp wr fo s L u ∧ RV q wr (lvs L) vS vQ ps (ssnap (L u).d.recs) (srecs (L u).d.recs)

/-- the step's own row -/
def XR (xb M : Nat) (xa : Option Addr) (xc : Nat) (c : Bool) (p q : Int) (w : World) : Prop := w.heap[xb]? = some (.cells #[.slice xa M xc, .bool c, .int .u8 p, .int .u8 q] 88 (0, 0))
theorem XR.only {xb M xc : Nat} {xa : Option Addr} {c : Bool} {p q : Int} {w w' : World} {B jp g gb : Nat} {fo : Option Nat} {s : BSt} {L : Bool → LV} {A : Array Value} (h : XR xb M xa xc c p q w) (hst : StAt w B g gb fo s) (hl : ∀ i, (L i).At w B g) (hr : w.heap[jp]? = some (.cells A 139 (0, 0)))
    (ho : Only (fun i => stF g gb fo i ∨ lvs L i ∨ i = jp) w w') : XR xb M xa xc c p q w' := by
  refine (ho.block xb (heap_lt h) ?_).trans h
  rintro (hk | ⟨i, hk⟩ | hk)
  · obtain ⟨A, t, h1, h2⟩ := hst.tag hk
    have := tags_apart h h1
    subst this
    rcases h2 with h2 | h2 | h2 <;> exact absurd h2 (by decide)
  · obtain ⟨A, t, h1, h2⟩ := LoAt.tag (hl i) hk
    have := tags_apart h h1
    subst this
    rcases h2 with h2 | h2 | h2 <;> exact absurd h2 (by decide)
  · rw [← hk] at hr
    exact absurd (tags_apart h hr) (by decide)
theorem XR.below {xb M xc : Nat} {xa : Option Addr} {c : Bool} {p q : Int} {w w' : World} (h : XR xb M xa xc c p q w) (hb : Below w.heap.size w w') : XR xb M xa xc c p q w' := (hb.block _ (heap_lt h)).trans h
theorem XR.cells {xb M xc : Nat} {xa : Option Addr} {c : Bool} {p q : Int} {w : World} (h : XR xb M xa xc c p q w) : w.cell? ⟨xb, 0, none⟩ = some (.slice xa M xc) ∧ w.cell? ⟨xb, 1, none⟩ = some (.bool c) ∧ w.cell? ⟨xb, 2, none⟩ = some (.int .u8 p) ∧ w.cell? ⟨xb, 3, none⟩ = some (.int .u8 q) :=
  ⟨cell_of_row w xb 0 _ _ _ h, cell_of_row w xb 1 _ _ _ h, cell_of_row w xb 2 _ _ _ h, cell_of_row w xb 3 _ _ _ h⟩

set_option maxRecDepth 100000 in
set_option maxHeartbeats 6400000 in
theorem ss_walk (z : Nat) (hz : z ≤ 255) (v : Value) (l : List StD) (w : World) (hs : Sts w v l) :
    Calls Try.prog 11 #[.int .u8 (z : Int), v] w fun e w' => e = .returned (.bool true) ∧ Below w.heap.size w w' := by
  have CA := Lib.hid (sAwake_any w)
  obtain ⟨q, hq⟩ : ∃ q, w.heap.size = q := ⟨_, rfl⟩
  obtain ⟨N, hN⟩ : ∃ N, l.length = N := ⟨_, rfl⟩
  obtain ⟨hgs, hwf⟩ := hs
  obtain ⟨a, c, b, o, rfl, q1, q2, hix, hlt', hcell, -⟩ := hgs.open_n laySt elSt N hN
  have HC := Lib.hid hcell
  have HLT := Lib.hid hlt'
  have HWF := Lib.hid hwf
  have HN := Lib.hid hN
  have HIX := Lib.hid hix
  rw [hq] at CA ⊢
  have hrem : ((z : Int).tmod 30) = ((z % 30 : Nat) : Int) := by rw [Int.tmod_eq_emod_of_nonneg (by omega)]; omega
  have HQ := Lib.hid hq
  clear hq hgs hwf hcell hlt' hN hix
  go_enter Try.func11, Try.ntmps11
  go_wp2_with fail
  refine CA.out.mono ?_
  rintro e w1 ⟨rfl, hb1⟩
  have HB1 := Lib.hid hb1
  clear hb1 CA
  by_cases e1 : (20 : Int) < (N : Int)
  · go_wp2
    go_ret
    exact ⟨rfl, HB1.out⟩
  have HN20 := Lib.hid (show N ≤ 20 by omega)
  go_wp2_with fail
  obtain ⟨n, hn⟩ : ∃ n : Nat, ((z : Int) % 30 + 2) = (n : Int) := ⟨z % 30 + 2, by omega⟩
  rw [hn]
  have hn2 : 2 ≤ n ∧ n ≤ 31 := by omega
  have CN := Lib.hid (bNew_any n (by omega) (by omega) w1)
  have HNN := Lib.hid hn2
  clear hrem hn hz hn2
  refine CN.out.mono ?_
  rintro e w2 ⟨rfl, hb2, hst2⟩
  obtain ⟨B, hB⟩ : ∃ B, w1.heap.size = B := ⟨_, rfl⟩
  rw [hB] at hst2 hb2
  have hqB : q ≤ B := by rw [← hB, ← HQ.out]; exact Nat.le_trans (by rw [HQ.out]; exact Nat.le_refl _) HB1.out.size
  have hBw2 : B ≤ w2.heap.size := by rw [← hB]; have := hb2.size; omega
  have CO := Lib.hid (jOpen_new w2 B (B + 1) B n hst2 HNN.out.1 hBw2)
  have HB2 : Hid (Below q w w2) := HB1.out.trans (hb2.mono hqB)
  have HFO : Hid (∀ k, stF (B + 1) B none k → B ≤ k) := fun k hk => (hst2.foot k hk).1
  have HQB := Lib.hid hqB
  have HBW2 := Lib.hid hBw2
  rw [hB]
  obtain ⟨g, hg⟩ : ∃ g, B + 1 = g := ⟨_, rfl⟩
  rw [hg] at CO HFO
  rw [hg]
  clear hst2 hb2 hB hqB hBw2 CN hg
  go_wp2_with fail
  refine CO.out.mono ?_
  rintro e w3 ⟨s3, jp, L, rfl, hst3, hj3, hjp, ho3, hok3, hr0, hr1, hfu3, hn3, hc0, hc1⟩
  obtain ⟨h, hh⟩ : ∃ h, n / 2 = h := ⟨_, rfl⟩
  rw [hh] at hj3 hc1
  have hh2 : 1 ≤ h ∧ h ≤ 15 := by have := HNN.out; omega
  have START : Hid (SS q w B g B n h 1 (.pointer (some ⟨jp, 0, none⟩)) (.slice none 0 0) (.slice none 0 0) w3) := by
    refine ⟨jp, none, s3, L, false, [], rfl, ⟨HB2.out.trans ((ho3.below HFO.out HBW2.out).mono HQB.out), HQB.out, Nat.le_trans HBW2.out ho3.size, hst3, hj3, hok3, hn3, hc0, by omega, ⟨?_, ?_⟩, ?_⟩, ⟨?_, ⟨Gs.nil _, by simp⟩, ?_, ?_, by simp, by simp [Value.ownBlock], by simp [Value.ownBlock]⟩⟩
    · show sok (L false).d.recs; rw [hr0]; exact sok_srec _ _ _
    · show sok (L (!false)).d.recs → _; rw [show (!false) = true from rfl, hr1]; exact fun h => absurd h sok_nil
    · rw [hr0, sgen_srec (by omega)]; omega
    · rw [hr0, ssnap_srec]; exact Rd.nil _ _
    · rw [hr0, srecs_srec]; rfl
    · rw [hr0, ssnap_srec]; simp
  have HH := Lib.hid hh
  have HH2 := Lib.hid hh2
  clear hst3 hj3 hjp ho3 hok3 hr0 hr1 hfu3 hn3 hc0 hc1 hh hh2 CO
  go_wp2_with fail
  go_loopg [8, 10, 11, 44] N (fun qq vj vS vQ vi wr => ∃ k : Nat, qq = N - k ∧ k ≤ N ∧ vi = .int .i64 k ∧ Hid (SS q w B g B n h (4 * k + 1) vj vS vQ wr))
  case atStart => exact ⟨0, by omega, by omega, rfl, START.out⟩
  case round =>
    obtain ⟨k, rfl, hk, rfl, HS⟩ := hrel
    clear START
    by_cases hlt : k < N
    · have e2 : (k : Int) < (N : Int) := by omega
      have hixk := fun W => HIX.out W k hlt
      obtain ⟨x, hx⟩ : ∃ x, l[k]? = some x := ⟨_, List.getElem?_eq_getElem (by rw [HN.out]; exact hlt)⟩
      have HX := Lib.hid (HWF.out x (List.mem_of_getElem? hx))
      obtain ⟨jp1, fo1, s1, L1, u1, ps1, rfl, K1, R1⟩ := HS.out
      have m0 := HC.out k x hx 0 _ rfl
      have m1 := HC.out k x hx 1 _ rfl
      have m2 := HC.out k x hx 2 _ rfl
      have m3 := HC.out k x hx 3 _ rfl
      rw [Nat.add_zero] at m0
      have hbk : b < q := by rw [← HQ.out]; exact HLT.out k hlt
      rw [← K1.bel.cell (p := ⟨b, o k, none⟩) hbk] at m0
      rw [← K1.bel.cell (p := ⟨b, o k + 1, none⟩) hbk] at m1
      rw [← K1.bel.cell (p := ⟨b, o k + 2, none⟩) hbk] at m2
      rw [← K1.bel.cell (p := ⟨b, o k + 3, none⟩) hbk] at m3
      obtain ⟨S, hS⟩ : ∃ S, ssnap (L1 u1).d.recs = S := ⟨_, rfl⟩
      obtain ⟨Q, hQ⟩ : ∃ Q, srecs (L1 u1).d.recs = Q := ⟨_, rfl⟩
      rw [hS, hQ] at R1
      have hpl : ps1.length ≤ 1000 := by
        have h1 := congrArg List.length R1.is
        have h2 : (srecs (L1 u1).d.recs).length ≤ (L1 u1).d.recs.length := by unfold srecs; split <;> simp
        have h3 := (K1.j.lo u1).is
        have h4 := (K1.j.lo u1).few
        have h5 := (K1.j.lo u1).fin
        rw [K1.j.nn] at h5
        have h6 := congrArg List.length h3
        rw [hQ] at h2
        simp only [rbs, List.length_map] at h1 h6
        have := HH2.out
        omega
      have HPL := Lib.hid hpl
      have HSQ := Lib.hid (And.intro hS hQ)
      have HK1 := Lib.hid K1
      have HR1 := Lib.hid R1
      obtain ⟨⟨⟨xa, xn, xc⟩, r⟩, c0, p0, p1⟩ := x
      obtain rfl : xn = r.length := by
        obtain ⟨_, a', c', he, _⟩ := HX.out.1
        simp only [Rc.v, Value.slice.injEq] at he
        exact he.2.1
      simp only [Rc.v] at m0 m1 m2 m3
      obtain ⟨M, hM⟩ : ∃ M, r.length = M := ⟨_, rfl⟩
      rw [hM] at m0
      have HM := Lib.hid hM
      have HLT2 := Lib.hid hlt
      clear hx K1 R1 hbk hM HS hlt hS hQ hpl
      by_cases e3 : (500 : Int) < (M : Int)
      · have hfin : Below q w (wr.alloc (.cells #[.slice xa M xc, .bool c0, .int .u8 p0, .int .u8 p1] 88)) := HK1.out.bel.alloc (Nat.le_trans HK1.out.qB HK1.out.size) _
        have HFIN := Lib.hid hfin
        clear hfin
        go_wp2
        go_ret
        exact ⟨rfl, HFIN.out⟩
      · have hal : Below wr.heap.size wr (wr.alloc (.cells #[.slice xa M xc, .bool c0, .int .u8 p0, .int .u8 p1] 88)) := (Below.refl _ _).alloc (Nat.le_refl _) _
        have hxr : XR wr.heap.size M xa xc c0 p0 p1 (wr.alloc (.cells #[.slice xa M xc, .bool c0, .int .u8 p0, .int .u8 p1] 88)) := heap_alloc_new _ _
        have hk0 := HK1.out.below hal
        have hr0 := HR1.out.below hal
        obtain ⟨xb, hxb⟩ : ∃ xb, wr.heap.size = xb := ⟨_, rfl⟩
        obtain ⟨W0, hW0⟩ : ∃ W, wr.alloc (.cells #[.slice xa M xc, .bool c0, .int .u8 p0, .int .u8 p1] 88) = W := ⟨_, rfl⟩
        rw [hW0] at hk0 hr0 hxr
        rw [hxb] at hxr
        have HK0 := Lib.hid hk0
        have HR0 := Lib.hid hr0
        have HX0 := Lib.hid hxr
        have hp0 := HX.out.2
        simp only at hp0
        have HP0 := Lib.hid hp0
        have HE3 := Lib.hid (show M ≤ 500 by omega)
        clear hal hxr hk0 hr0 hp0 HK1 HR1
        have hxs := HX0.out.cells
        obtain ⟨x0, x1, x2, x3⟩ := hxs
        go_upto_if 54 with fail
        go_cut [] (fun wx => Hid (∃ fo s, SJ q w B g B n h (4 * k + 1) jp1 wx fo s L1 u1 ∧ RV q wx (lvs L1) u10 u11 ps1 S Q ∧ XR xb M xa xc c0 p0 p1 wx))
        case first =>
--<FU
          have q0 := HP0.out.1
          have q1' := HP0.out.2
          by_cases e4 : p0 < 255
          · have CF := Lib.hid (bFuse_any g B fo1 s1 p0 p1 (by omega) (by omega) B W0 HK0.out.st HK0.out.size)
            have hw0 : wrap64 p0 = p0 := by unfold wrap64; omega
            have hw1 : wrap64 p1 = p1 := by unfold wrap64; omega
            go_wp2_with fail
            refine CF.out.mono ?_
            rintro e w5 ⟨rfl, hp5⟩
            obtain ⟨fo5, hk5, ho5⟩ := HK0.out.fuse (x := p0) (y := p1) q0.1 q1'.1 hp5
            have hr5 := HR0.out.only ho5 HK0.out.stlow (HR0.out.notst HK0.out.st)
            have hx5 := HX0.out.only HK0.out.st HK0.out.j.lo HK0.out.j.row (ho5.mono fun _ _ h => .inl h)
            have HCUT : Hid (∃ fo s, SJ q w B g B n h (4 * k + 1) jp1 w5 fo s L1 u1 ∧ RV q w5 (lvs L1) u10 u11 ps1 S Q ∧ XR xb M xa xc c0 p0 p1 w5) := ⟨_, _, hk5, hr5, hx5⟩
            clear hp5 hk5 ho5 hr5 hx5
            go_wp2
            go_meet
            case rel => exact HCUT
          · have HCUT : Hid (∃ fo s, SJ q w B g B n h (4 * k + 1) jp1 W0 fo s L1 u1 ∧ RV q W0 (lvs L1) u10 u11 ps1 S Q ∧ XR xb M xa xc c0 p0 p1 W0) := ⟨_, _, HK0.out, HR0.out, HX0.out⟩
            go_wp2
            go_meet
            case rel => exact HCUT
-->FU
        case rest =>
          clear x0 x1 x2 x3 HK0 HR0 HX0
          obtain ⟨W2, rfl⟩ : ∃ W, W = wc := ⟨_, rfl⟩
          obtain ⟨fo2, s2, hk2, hr2, hx2⟩ := hcut.out
          have HK2 := Lib.hid hk2
          have HR2 := Lib.hid hr2
          have HX2 := Lib.hid hx2
          clear hk2 hr2 hx2 hcut
          go_upto_region 21 with fail
          go_cut [14, 15] (fun s14 s15 wx => u10 = s14 ∧ Hid (Below W2.heap.size W2 wx ∧ Gw 1 csP wx W2.heap.size 43 s15 (ps1 ++ [(((xa, M, xc), r) : Rc)])))
          case first =>
--<R21
            have hxs := HX2.out.cells
            have KX : Hid (∀ V, Below W2.heap.size W2 V → V.cell? ⟨xb, 0, none⟩ = some (.slice xa M xc)) := fun V hV => (HX2.out.below hV).cells.1
            have hxx := HX.out.1
            simp only [Rc.v] at hxx
            clear hxs
            have x0 := KX.out W2 (Below.refl _ _)
            have hA : Below W2.heap.size W2 (W2.alloc (.cells #[] 43)).drew := ((Below.refl _ _).alloc (Nat.le_refl _) _).drew
            have hA2 : Below W2.heap.size W2 ((W2.alloc (.cells #[] 43)).alloc (.cells #[.slice xa M xc] 43)).drew := (((Below.refl _ _).alloc (Nat.le_refl _) _).alloc (by simp) _).drew
            have hA3 : Below W2.heap.size W2 ((W2.alloc (.cells #[.slice xa M xc] 43)).alloc (.cells #[] 43)).drew := (((Below.refl _ _).alloc (Nat.le_refl _) _).alloc (by simp) _).drew
            have GA : Hid (Gw 1 csP (W2.alloc (.cells #[] 43)).drew W2.heap.size 43 (.slice (some ⟨W2.heap.size, 0, none⟩) 0 0) []) := (gw_lit layP W2 43 #[] [] 0 rfl (by decide) rfl).below ((Below.refl _ _).drew)
            have GA2 : Hid (Gw 1 csP ((W2.alloc (.cells #[] 43)).alloc (.cells #[.slice xa M xc] 43)).drew W2.heap.size 43 (.slice (some ⟨W2.heap.size, 0, none⟩) 0 0) []) := (gw_lit layP W2 43 #[] [] 0 rfl (by decide) rfl).below (((Below.refl _ _).alloc (Nat.le_refl _) _).drew)
            have GA3 : Hid (Gw 1 csP ((W2.alloc (.cells #[.slice xa M xc] 43)).alloc (.cells #[] 43)).drew W2.heap.size 43 (.slice (some ⟨W2.heap.size + 1, 0, none⟩) 0 0) []) := by
              have := (gw_lit layP (W2.alloc (.cells #[.slice xa M xc] 43)) 43 #[] [] 0 rfl (by decide) rfl).below ((Below.refl _ _).drew)
              rw [show (W2.alloc (.cells #[.slice xa M xc] 43)).heap.size = W2.heap.size + 1 by simp] at this
              exact this.mono (by omega)
            have GX2 : Hid (Gs 1 csP ((W2.alloc (.cells #[] 43)).alloc (.cells #[.slice xa M xc] 43)).drew (.slice (some ⟨W2.heap.size + 1, 0, none⟩) 1 1) [(((xa, M, xc), r) : Rc)]) := by
              have := ((gw_lit layP (W2.alloc (.cells #[] 43)) 43 #[.slice xa M xc] [(((xa, M, xc), r) : Rc)] 1 rfl (by decide) rfl).below ((Below.refl _ _).drew)).gs
              rwa [show (W2.alloc (.cells #[] 43)).heap.size = W2.heap.size + 1 by simp] at this
            have GX3 : Hid (Gs 1 csP ((W2.alloc (.cells #[.slice xa M xc] 43)).alloc (.cells #[] 43)).drew (.slice (some ⟨W2.heap.size, 0, none⟩) 1 1) [(((xa, M, xc), r) : Rc)]) :=
              ((gw_lit layP W2 43 #[.slice xa M xc] [(((xa, M, xc), r) : Rc)] 1 rfl (by decide) rfl).below (((Below.refl _ _).alloc (Nat.le_refl _) _).drew)).gs
            have RA : Hid (Gs 1 csP (W2.alloc (.cells #[] 43)).drew u11 ps1) := HR2.out.qs.1.below hA
            have RA2 : Hid (Gs 1 csP ((W2.alloc (.cells #[] 43)).alloc (.cells #[.slice xa M xc] 43)).drew u11 ps1) := HR2.out.qs.1.below hA2
            have RA3 : Hid (Gs 1 csP ((W2.alloc (.cells #[.slice xa M xc] 43)).alloc (.cells #[] 43)).drew u11 ps1) := HR2.out.qs.1.below hA3
            have xA := KX.out _ ((Below.refl W2.heap.size W2).alloc (Nat.le_refl _) (.cells #[] 43))
            have HHA := Lib.hid hA
            have HHA2 := Lib.hid hA2
            have HHA3 := Lib.hid hA3
            have HPB : Hid ((0 + ps1.length) * 24 ≤ 140737488355328 ∧ 0 + ps1.length ≤ 9223372036854775807 ∧ (([] ++ ps1 : List Rc).length + 1) * 24 ≤ 140737488355328 ∧ ([] ++ ps1 : List Rc).length + 1 ≤ 9223372036854775807) := by have := HPL.out; refine ⟨?_, ?_, ?_, ?_⟩ <;> simp <;> omega
            clear hA hA2 hA3 hxx
            go_region_law (first
              | (refine step_append_g layP GA.out RA.out elOB HPB.out.1 HPB.out.2.1 (by simp) ?_ _ _ rfl rfl rfl rfl; intro v6 w6 ho6 hg6 hm6; have B6 : Below W2.heap.size W2 w6 := HHA.out.grown hg6 (by simp) (fun k hk => (GA.out.lt k hk).1); have x6 := KX.out w6 B6; have G6 := Lib.hid ho6; clear ho6 hg6 hm6)
              | (refine step_append_g layP GA2.out RA2.out elOB HPB.out.1 HPB.out.2.1 (by simp; omega) ?_ _ _ rfl rfl rfl rfl; intro v6 w6 ho6 hg6 hm6; have B6 : Below W2.heap.size W2 w6 := HHA2.out.grown hg6 (by simp; omega) (fun k hk => (GA2.out.lt k hk).1); have G6 := Lib.hid ho6; have GX := Lib.hid (GX2.out.only (grown_only hg6) (fun k hk e => by simp [Value.ownBlock] at hk e; omega)); clear ho6 hg6 hm6)
              | (refine step_append_g layP GA3.out RA3.out elOB HPB.out.1 HPB.out.2.1 (by simp; omega) ?_ _ _ rfl rfl rfl rfl; intro v6 w6 ho6 hg6 hm6; have B6 : Below W2.heap.size W2 w6 := HHA3.out.grown hg6 (by simp; omega) (fun k hk => (GA3.out.lt k hk).1); have G6 := Lib.hid ho6; have GX := Lib.hid (GX3.out.only (grown_only hg6) (fun k hk e => by simp [Value.ownBlock] at hk e; omega)); clear ho6 hg6 hm6)
              | (refine step_append_g layP (G6.out.below (bw_al (Below.refl _ _) _)) (gw_lit layP w6 43 #[.slice xa M xc] [(((xa, M, xc), r) : Rc)] 1 rfl (by decide) rfl).gs elOB HPB.out.2.2.1 HPB.out.2.2.2 (by have := B6.size; simp; omega) ?_ _ _ rfl rfl rfl rfl; intro v7 w7 ho7 hg7 hm7; have B7 : Below W2.heap.size W2 w7 := (bw_al B6 (.cells #[.slice xa M xc] 43)).grown hg7 (by have := B6.size; simp; omega) (fun k hk => (G6.out.lt k hk).1); have G7 := Lib.hid ho7; clear ho7 hg7 hm7)
              | (refine step_append_g layP G6.out GX.out elOB HPB.out.2.2.1 HPB.out.2.2.2 (by have := B6.size; simp; omega) ?_ _ _ rfl rfl rfl rfl; intro v7 w7 ho7 hg7 hm7; have B7 : Below W2.heap.size W2 w7 := B6.grown hg7 (by have := B6.size; omega) (fun k hk => (G6.out.lt k hk).1); have G7 := Lib.hid ho7; clear ho7 hg7 hm7))
            all_goals
              have HCUT : Hid (Below W2.heap.size W2 w7 ∧ Gw 1 csP w7 W2.heap.size 43 v7 (ps1 ++ [(((xa, M, xc), r) : Rc)])) := ⟨B7, G7.out⟩
              clear G7 G6 B7 B6
              go_wp2
              go_meet
              case rel => exact ⟨rfl, HCUT⟩
-->R21
          case rest =>
            obtain ⟨W3, rfl⟩ : ∃ W, W = wc := ⟨_, rfl⟩
            obtain ⟨rfl, hcut⟩ := hcut
            obtain ⟨hb3, hg3⟩ := hcut.out
            have hk3 := HK2.out.below hb3
            have hx3 := HX2.out.below hb3
            have hr3 := HR2.out.below hb3
            have hxx : Bs W3 (.slice xa M xc) r := by
              have h1 := HX.out.1
              simp only [Rc.v, HM.out] at h1
              exact h1.below (by rw [HQ.out]; exact hk3.bel)
            have hxo : r ≠ [] → ∀ i, (Value.slice xa M xc).ownBlock = some i → i < q := fun hl i hi => by
              have h1 := HX.out.1
              simp only [Rc.v, HM.out] at h1
              have := h1.lt hl i hi
              rw [HQ.out] at this
              exact this
            have hwant : RV q W3 (lvs L1) u10 u15 (ps1 ++ [(((xa, M, xc), r) : Rc)]) S (Q ++ [r]) := by
              refine ⟨hr3.s, ⟨hg3.gs, fun p hp => ?_⟩, ?_, hr3.ls, fun p hp => ?_, fun i hi => hg3.tag i hi, fun i hi hf => ?_⟩
              · rcases List.mem_append.1 hp with h1 | h1
                · exact hr3.qs.2 p h1
                · simp only [List.mem_singleton] at h1; subst h1; exact hxx
              · have := hr3.is
                simp only [rbs, List.map_append, List.map_cons, List.map_nil] at this ⊢
                rw [this]
              · rcases List.mem_append.1 hp with h1 | h1
                · exact hr3.lp p h1
                · simp only [List.mem_singleton] at h1; subst h1; exact hxo
              · obtain ⟨j, hj⟩ := hf
                have h1 := (hg3.lt i hi).1
                have h2 := HK2.out.j.lt j i hj
                omega
            have hrec : RV q W3 (lvs L1) (.slice xa M xc) (.slice none 0 0) [] r [] := ⟨hxx, ⟨Gs.nil _, by simp⟩, rfl, hxo, by simp, by simp [Value.ownBlock], by simp [Value.ownBlock]⟩
            have HK3 := Lib.hid hk3
            have HR3 := Lib.hid hr3
            have HX3 := Lib.hid hx3
            have HXX := Lib.hid hxx
            have HXO := Lib.hid hxo
            have HWA := Lib.hid hwant
            have HRE := Lib.hid hrec
            clear hk3 hr3 hx3 hxx hxo hwant hrec hb3 hg3 hcut HK2 HR2 HX2
            have hxs := HX3.out.cells
            obtain ⟨x0, x1, -, -⟩ := hxs
            go_upto_if 72 with fail
            go_cut [14, 15, 16] (fun s14 s15 s16 wx => ∃ E, s16 = .int .i64 E ∧ Hid (Outc q w B g B n h (4 * k + 1) jp1 u10 u11 s14 s15 S Q (if c0 then r else S) (if c0 then [] else Q ++ [r]) r c0 E wx ∧ XR xb M xa xc c0 p0 p1 wx))
            case first =>
--<CO
              have hHH := HH2.out
              have hNk := HN20.out
              cases c0
              · have CP := HK3.out.append (vS' := u10) (vQ' := u15) (by omega) (by omega) (.slice xa M xc) r HXX.out HXO.out (by rw [HM.out]; exact HE3.out) HSQ.out.1 HSQ.out.2 HR3.out HWA.out false rfl
                have CP := Lib.hid CP
                go_wp2_with fail
                refine CP.out.mono ?_
                rintro e w8 ⟨E, rfl, ho8, hon8⟩
                have HCUT : Hid (Outc q w B g B n h (4 * k + 1) jp1 u10 u11 u10 u15 S Q (if false = true then r else S) (if false = true then [] else Q ++ [r]) r false E w8 ∧ XR xb M xa xc false p0 p1 w8) := ⟨ho8, HX3.out.only HK3.out.st HK3.out.j.lo HK3.out.j.row hon8⟩
                clear ho8 hon8
                go_wp2
                go_meet
                case rel => exact ⟨E, rfl, HCUT⟩
              · have CP := HK3.out.compact (vS' := .slice xa M xc) (vQ' := .slice none 0 0) (by omega) (by omega) (.slice xa M xc) r HXX.out HXO.out (by rw [HM.out]; exact HE3.out) HSQ.out.1 HSQ.out.2 HR3.out HRE.out true
                have CP := Lib.hid CP
                go_wp2_with fail
                refine CP.out.mono ?_
                rintro e w8 ⟨E, rfl, ho8, hon8⟩
                have hx8 := HX3.out.only HK3.out.st HK3.out.j.lo HK3.out.j.row hon8
                have HCUT : Hid (Outc q w B g B n h (4 * k + 1) jp1 u10 u11 (.slice xa M xc) (.slice none 0 0) S Q (if true = true then r else S) (if true = true then [] else Q ++ [r]) r true E w8 ∧ XR xb M xa xc true p0 p1 w8) := ⟨ho8, hx8⟩
                obtain ⟨x0', -, -, -⟩ := hx8.cells
                clear ho8 hon8 hx8
                go_wp2
                go_meet
                case rel => exact ⟨E, rfl, HCUT⟩
-->CO
            case rest =>
              obtain ⟨W4, rfl⟩ : ∃ W, W = wc := ⟨_, rfl⟩
              obtain ⟨E, rfl, hcut⟩ := hcut
              obtain ⟨ho4, hx4⟩ := hcut.out
              obtain ⟨S', hS'⟩ : ∃ S', (if c0 then r else S) = S' := ⟨_, rfl⟩
              obtain ⟨Q', hQ'⟩ : ∃ Q', (if c0 then [] else Q ++ [r]) = Q' := ⟨_, rfl⟩
              rw [hS', hQ'] at ho4
              have HO4 := Lib.hid ho4
              have HX4 := Lib.hid hx4
              clear ho4 hx4 hS' hQ' hcut HK3 HR3 HX3 HXX HXO HWA HRE x0 x1
              have hxs := HX4.out.cells
              obtain ⟨x0, x1, -, -⟩ := hxs
              go_upto_block 2 with fail
              go_cut [8, 10, 11] (fun s8 s10 s11 wx => Hid (SS q w B g B n h (4 * k + 3) s8 s10 s11 wx))
              case first =>
--<SW
                have hNk := HN20.out
                have hHH := HH2.out
                rcases HO4.out with ⟨rfl, fo5, s5, L5, u5, ps5, hk5, hs5, hq5, hr5⟩ | ⟨hE, fo5, s5, L5, u5, ps5, hk5, hs5, hq5, hr5⟩ | ⟨rfl, fo5, s5, ps5, ps5', hst5, hoff5, hfu5, hn5, hlo5, hhi5, hbel5, hB5, hT5, hr5, hr5'⟩
                · have HCUT : Hid (SS q w B g B n h (4 * k + 3) (.pointer (some ⟨jp1, 0, none⟩)) u14 u15 W4) := ⟨jp1, fo5, s5, L5, u5, ps5, rfl, hk5.more (by omega), by rw [hs5, hq5]; exact hr5⟩
                  clear hk5 hs5 hq5 hr5 HO4
                  go_wp2
                  go_meet
                  case rel => exact HCUT
                · have HCUT : Hid (SS q w B g B n h (4 * k + 3) (.pointer (some ⟨jp1, 0, none⟩)) u10 u11 W4) := ⟨jp1, fo5, s5, L5, u5, ps5, rfl, hk5.more (by omega), by rw [hs5, hq5]; exact hr5⟩
                  clear hk5 hs5 hq5 hr5 HO4
                  rcases hE with rfl | ⟨rfl, hr0, rfl⟩
                  · go_wp2
                    go_meet
                    case rel => exact HCUT
                  · have hM0 : M = 0 := by rw [← HM.out, hr0]; rfl
                    subst hM0
                    clear hr0
                    go_wp2
                    go_meet
                    case rel => exact HCUT
                · obtain ⟨u6, R6, hbk, hI6, hg6, hor⟩ := hT5
                  have CP := Lib.hid (bPower_any g B fo5 s5 B W4 hst5)
                  have HR5 := Lib.hid hr5
                  have HR5' := Lib.hid hr5'
                  have HST5 := Lib.hid hst5
                  have HBEL5 := Lib.hid hbel5
                  have HB5 := Lib.hid hB5
                  have HOR := Lib.hid hor
                  have HI6 := Lib.hid hI6
                  have hpow : bpow s5 = ⟨s5.n, s5.f, false, none, s5.cnt⟩ := by unfold bpow; rw [if_pos hoff5]
                  have CO : Hid (∀ (V : World) (fo : Option Nat), StAt V B g B fo (bpow s5) → Below q w V → B ≤ V.heap.size → Calls Try.prog 56 #[.pointer (some ⟨g, 0, none⟩)] V (Opnd q w B g B n h (4 * k + 2) V fo R6 u6)) := fun V fo h1 h2 h3 => by
                    rw [hpow] at h1
                    exact open_any h1 rfl hn5 HH.out hHH.1 (by omega) hlo5 (by show s5.cnt + 4 * (h : Int) ≤ 1000 * ((4 * k + 2 : Nat) : Int); omega) (by omega) (Safe.none rfl _) h2 HQB.out h3 hbk hI6 (by omega)
                  clear hr5 hr5' hst5 hbel5 hB5 hor hI6 hpow hbk hg6 hoff5 hfu5 hn5 hlo5 hhi5 HO4
                  go_wp2_with fail
                  refine CP.out.mono ?_
                  rintro e w6 ⟨rfl, fo6, hst6, ho6, hf6⟩
                  have hb6 : Below q w w6 := HBEL5.out.trans (ho6.below (fun i hi => Nat.le_trans HQB.out (HST5.out.foot i hi).1) (Nat.le_trans HQB.out HB5.out))
                  have r6 := HR5.out.only ho6 (fun i hi => Nat.le_trans HQB.out (HST5.out.foot i hi).1) (HR5.out.notst HST5.out)
                  have r6' := HR5'.out.only ho6 (fun i hi => Nat.le_trans HQB.out (HST5.out.foot i hi).1) (HR5'.out.notst HST5.out)
                  have CO2 := Lib.hid (CO.out w6 fo6 hst6 hb6 (Nat.le_trans HB5.out ho6.size))
                  have HR6 := Lib.hid r6
                  have HR6' := Lib.hid r6'
                  have HST6 := Lib.hid hst6
                  clear ho6 hf6 hb6 r6 r6' hst6 CO CP HR5 HR5' HST5
                  go_wp2_with fail
                  refine CO2.out.mono ?_
                  rintro e w7 ⟨jp7, fo7, s7, L7, rfl, hk7, hrec7, hnew7, ho7⟩
                  have r7 := (HR6.out.free (F' := lvs L7) (fun i hi hl => by have := hnew7 i hl; omega)).only ho7 (fun i hi => Nat.le_trans HQB.out (HST6.out.foot i hi).1) (HR6.out.notst HST6.out)
                  have r7' := (HR6'.out.free (F' := lvs L7) (fun i hi hl => by have := hnew7 i hl; omega)).only ho7 (fun i hi => Nat.le_trans HQB.out (HST6.out.foot i hi).1) (HR6'.out.notst HST6.out)
                  have HJ7 := Lib.hid (hk7.jr (by omega))
                  rw [hrec7] at HJ7
                  have HK7 := Lib.hid hk7
                  have HREC7 := Lib.hid hrec7
                  have HR7 := Lib.hid r7
                  have HR7' := Lib.hid r7'
                  clear hk7 hrec7 hnew7 ho7 r7 r7' CO2 HR6 HR6' HST6
                  -- the two ends
                  have WANT : Hid (ssnap (R6 u6) = S' → srecs (R6 u6) = Q' → ∀ V, Below w7.heap.size w7 V → SS q w B g B n h (4 * k + 3) (.pointer (some ⟨jp7, 0, none⟩)) u14 u15 V) := fun h1 h2 V hV =>
                    ⟨jp7, fo7, s7, L7, u6, ps5', rfl, (HK7.out.below hV).more (by omega), by rw [HREC7.out, h1, h2]; exact HR7'.out.below hV⟩
                  have OLD : Hid (¬ (ssnap (R6 u6) = S' ∧ srecs (R6 u6) = Q') → ∀ V, Below w7.heap.size w7 V → SS q w B g B n h (4 * k + 3) (.pointer (some ⟨jp7, 0, none⟩)) u10 u11 V) := fun hne V hV => by
                    rcases HOR.out with ⟨h1, h2⟩ | h1
                    · exact ⟨jp7, fo7, s7, L7, u6, ps5, rfl, (HK7.out.below hV).more (by omega), by rw [HREC7.out, h1, h2]; exact HR7.out.below hV⟩
                    · exact absurd h1 hne
                  go_wp2_with fail
                  refine (HJ7.out.snap w7 (Below.refl _ _)).mono ?_
                  rintro e w8 ⟨v8, rfl, ho8, hb8⟩
                  have csm := same_any v8 u14 _ _ w8 ho8.bs (HR7'.out.s.below hb8)
                  have CSM := Lib.hid csm
                  have HB8 := Lib.hid hb8
                  clear ho8 hb8 csm
                  by_cases bS : ssnap (R6 u6) = S'
                  · rw [bS, beq_self_eq_true] at CSM
                    go_wp2_with fail
                    refine CSM.out.mono ?_
                    rintro e w9 ⟨rfl, hb9⟩
                    have HB9 := Lib.hid (HB8.out.trans (hb9.mono HB8.out.size))
                    clear hb9
                    go_wp2_with fail
                    refine (HJ7.out.recs w9 HB9.out).mono ?_
                    rintro e w10 ⟨v10, ps10, rfl, hrc, hrb, hb10⟩
                    have HB10 := Lib.hid (HB9.out.trans (hb10.mono HB9.out.size))
                    have crs := rlsame_any v10 u15 ps10 ps5' w10 hrc (HR7'.out.qs.below HB10.out)
                    rw [hrb, HR7'.out.is] at crs
                    have CRS := Lib.hid crs
                    clear hrc hrb hb10 crs
                    by_cases bQ : srecs (R6 u6) = Q'
                    · rw [bQ, beq_self_eq_true] at CRS
                      have W2 := Lib.hid (WANT.out bS bQ)
                      clear bS bQ WANT OLD
                      go_wp2_with fail
                      refine CRS.out.mono ?_
                      rintro e w11 ⟨rfl, hb11⟩
                      have HCUT := Lib.hid (W2.out w11 (HB10.out.trans (hb11.mono HB10.out.size)))
                      clear hb11
                      go_wp2
                      go_meet
                      case rel => exact HCUT
                    · have hf : (srecs (R6 u6) == Q') = false := beq_false_of_ne bQ
                      rw [hf] at CRS
                      have W2 := Lib.hid (OLD.out (fun h => bQ h.2))
                      clear bS bQ WANT OLD hf
                      go_wp2_with fail
                      refine CRS.out.mono ?_
                      rintro e w11 ⟨rfl, hb11⟩
                      have HCUT := Lib.hid (W2.out w11 (HB10.out.trans (hb11.mono HB10.out.size)))
                      clear hb11
                      go_wp2
                      go_meet
                      case rel => exact HCUT
                  · have hf : (ssnap (R6 u6) == S') = false := beq_false_of_ne bS
                    rw [hf] at CSM
                    have W2 := Lib.hid (OLD.out (fun h => bS h.1))
                    clear bS WANT OLD hf
                    go_wp2_with fail
                    refine CSM.out.mono ?_
                    rintro e w9 ⟨rfl, hb9⟩
                    have HCUT := Lib.hid (W2.out w9 (HB8.out.trans (hb9.mono HB8.out.size)))
                    clear hb9
                    go_wp2
                    go_meet
                    case rel => exact HCUT
-->SW
              case rest =>
--<TA
                obtain ⟨W5, rfl⟩ : ∃ W, W = wc := ⟨_, rfl⟩
                clear x0 x1 HO4 HX4
                have hNk := HN20.out
                have hHH := HH2.out
                obtain ⟨jp5, fo5, s5, L5, u5, ps5, rfl, hk5, hr5⟩ := hcut.out
                have HK5 := Lib.hid hk5
                have HR5 := Lib.hid hr5
                have HJ5 := Lib.hid (hk5.jr (by omega))
                clear hk5 hr5 hcut
                obtain ⟨R5, hR5⟩ : ∃ R, (L5 u5).d.recs = R := ⟨_, rfl⟩
                rw [hR5] at HJ5 HR5
                have HREC5 := Lib.hid hR5
                clear hR5
                go_wp2_with fail
                refine (HJ5.out.snap W5 (Below.refl _ _)).mono ?_
                rintro e w6 ⟨v6, rfl, ho6, hb6⟩
                have HB6 := Lib.hid hb6
                have csm := same_any v6 u10 _ _ w6 ho6.bs (HR5.out.s.below hb6)
                rw [beq_self_eq_true] at csm
                have CSM := Lib.hid csm
                clear ho6 hb6 csm
                go_wp2_with fail
                refine CSM.out.mono ?_
                rintro e w7 ⟨rfl, hb7⟩
                have HB7 := Lib.hid (HB6.out.trans (hb7.mono HB6.out.size))
                clear hb7
                go_wp2_with fail
                refine (HJ5.out.recs w7 HB7.out).mono ?_
                rintro e w8 ⟨v8, ps8, rfl, hrc, hrb, hb8⟩
                have HB8 := Lib.hid (HB7.out.trans (hb8.mono HB7.out.size))
                have crs := rlsame_any v8 u11 ps8 ps5 w8 hrc (HR5.out.qs.below HB8.out)
                rw [hrb, HR5.out.is, beq_self_eq_true] at crs
                have CRS := Lib.hid crs
                clear hrc hrb hb8 crs
                go_wp2_with fail
                refine CRS.out.mono ?_
                rintro e w9 ⟨rfl, hb9⟩
                have hb9' := HB8.out.trans (hb9.mono HB8.out.size)
                have hk9 := HK5.out.below hb9'
                have con := bOn_any g B fo5 s5 B w9 hk9.st
                rw [(hk9.ok u5).on] at con
                have CON := Lib.hid con
                have CF := Lib.hid (bFuse_any g B fo5 s5 1000 0 (by omega) (by omega) B w9 hk9.st hk9.size)
                have HK9 := Lib.hid hk9
                have HR9 := Lib.hid (HR5.out.below hb9')
                clear hb9 hb9' hk9 con CRS
                go_wp2_with (first | (go_at_call 37; refine CON.out.mono ?_; rintro e w' ⟨rfl, hw⟩; obtain rfl := hw.symm) | fail)
                refine CF.out.mono ?_
                rintro e w10 ⟨rfl, hp10⟩
                obtain ⟨fo10, hk10, ho10⟩ := HK9.out.fuse (x := 1000) (y := 0) (by omega) (by omega) hp10
                have hr10 := HR9.out.only ho10 HK9.out.stlow (HR9.out.notst HK9.out.st)
                have hsf : Safe (bset s5 1000 0) (4 * h) := fun a b hab => by
                  have : (bset s5 1000 0).fu = some (1000, 0) := by unfold bset; rw [if_pos (by omega)]
                  rw [this] at hab
                  obtain ⟨rfl, rfl⟩ := Prod.mk.inj (Option.some.inj hab)
                  omega
                have CO := Lib.hid (hk10.reopen HH.out hHH.1 (by omega) (by omega) hsf)
                have HK10 := Lib.hid hk10
                have HR10 := Lib.hid hr10
                clear hp10 hk10 ho10 hr10 hsf CF CON HK9 HR9
                go_wp2_with fail
                refine CO.out.mono ?_
                rintro e w11 ⟨jp11, fo11, s11, L11, rfl, hk11, hrec11, hnew11, ho11⟩
                have hrec11 : (L11 u5).d.recs = R5 := hrec11.trans HREC5.out
                have HJ11 := Lib.hid (hk11.jr (by omega))
                rw [hrec11] at HJ11
                have hr11 := (HR10.out.free (F' := lvs L11) (fun i hi hl => by have := hnew11 i hl; omega)).only ho11 HK10.out.stlow (HR10.out.notst HK10.out.st)
                have HJO := Lib.hid (JR.of (HK10.out.j.st HK10.out.st ho11) HREC5.out (by rw [← HREC5.out]; exact HK10.out.inv.1) (by rw [← HREC5.out]; exact (HK10.out.ok u5).good) (by have := HK10.out.gen; rw [HREC5.out] at this; omega))
                have FIN : Hid (∀ V, Below w11.heap.size w11 V → SS q w B g B n h (4 * (k + 1) + 1) (.pointer (some ⟨jp11, 0, none⟩)) u10 u11 V) := fun V hV =>
                  ⟨jp11, fo11, s11, L11, u5, ps5, rfl, (hk11.below hV).more (by omega), by rw [hrec11]; exact hr11.below hV⟩
                have HR11 := Lib.hid hr11
                clear hk11 hrec11 hnew11 ho11 hr11 CO HK10 HR10 HK5 HR5
                go_wp2_with fail
                refine (HJ11.out.snap w11 (Below.refl _ _)).mono ?_
                rintro e w12 ⟨v12, rfl, ho12, hb12⟩
                have HB12 := Lib.hid hb12
                have csm := same_any v12 u10 _ _ w12 ho12.bs (HR11.out.s.below hb12)
                rw [beq_self_eq_true] at csm
                have CSM2 := Lib.hid csm
                clear ho12 hb12 csm
                go_wp2_with fail
                refine CSM2.out.mono ?_
                rintro e w13 ⟨rfl, hb13⟩
                have HB13 := Lib.hid (HB12.out.trans (hb13.mono HB12.out.size))
                clear hb13
                go_wp2_with fail
                refine (HJ11.out.recs w13 HB13.out).mono ?_
                rintro e w14 ⟨v14, ps14, rfl, hrc, hrb, hb14⟩
                have HB14 := Lib.hid (HB13.out.trans (hb14.mono HB13.out.size))
                have crs := rlsame_any v14 u11 ps14 ps5 w14 hrc (HR11.out.qs.below HB14.out)
                rw [hrb, HR11.out.is, beq_self_eq_true] at crs
                have CRS := Lib.hid crs
                clear hrc hrb hb14 crs
                go_wp2_with fail
                refine CRS.out.mono ?_
                rintro e w15 ⟨rfl, hb15⟩
                have HB15 := Lib.hid (HB14.out.trans (hb15.mono HB14.out.size))
                clear hb15
                go_wp2_with fail
                refine (HJ11.out.gen w15 HB15.out).mono ?_
                rintro e w16 ⟨rfl, hb16⟩
                have HB16 := Lib.hid (HB15.out.trans (hb16.mono HB15.out.size))
                clear hb16
                go_wp2_with fail
                refine (HJO.out.gen w16 HB16.out).mono ?_
                rintro e w17 ⟨rfl, hb17⟩
                have HF17 := Lib.hid (FIN.out w17 (HB16.out.trans (hb17.mono HB16.out.size)))
                clear hb17
                go_wp2
                go_roundg (N - (k + 1))
                case rel => exact ⟨k + 1, by omega, by omega, by go_num, HF17.out⟩
                case measure => omega
-->TA
    · obtain rfl : k = N := by omega
      have e2 : ¬ (k : Int) < k := by omega
      go_wp2
      go_ret
      obtain ⟨jp1, fo1, s1, L1, u1, ps1, rfl, K1, R1⟩ := HS.out
      exact ⟨rfl, K1.bel⟩
end Go.Proofs.Ytbonapdainlpjaa
