/- Layer 35 (log): Open. -/
import Derived.Test.YtbonapdainlpjaaLg11
import Derived.Deep.RegionLaw
import Derived.Deep.RegionHeld3
import Derived.Deep.DrawnRows
import Derived.Deep.CutBlock
import Derived.Deep.LoopGhost
set_option linter.unusedSimpArgs false
namespace Go.Proofs.Ytbonapdainlpjaa
open Go.RowKit Go.Sort

theorem Ob.upB {w : World} {B B' e : Nat} {v : Value} {l : List UInt8} (h : Ob w B e v l) (hk : ∀ k, v.ownBlock = some k → B' ≤ k) : Ob w B' e v l := by
  refine ⟨h.1, ?_⟩
  rcases h.2 with h2 | ⟨g, cap, cur, rfl, hb, r⟩
  · exact .inl h2
  · exact .inr ⟨g, cap, cur, rfl, hk g rfl, r⟩
theorem Gw.upB {α : Type} {s : Nat} {cs : α → List Value} {w : World} {B B' e : Nat} {v : Value} {l : List α} (h : Gw s cs w B e v l) (hk : ∀ k, v.ownBlock = some k → B' ≤ k) : Gw s cs w B' e v l := by
  refine ⟨h.1, ?_⟩
  rcases h.2 with h2 | ⟨g, cap, cur, rfl, hb, r⟩
  · exact .inl h2
  · exact .inr ⟨g, cap, cur, rfl, hk g rfl, r⟩
theorem LoAt.mono {w : World} {B B' lg bb bc g : Nat} {vr : Value} {ps : List Rc} {d : Lg} (h : LoAt w B lg bb bc g vr ps d) (hB : B' ≤ B) : LoAt w B' lg bb bc g vr ps d :=
  ⟨Nat.le_trans hB h.low, Nat.le_trans hB h.lowb, h.row, h.b, h.blen, h.n1, h.n2, h.f2, h.recs.mono hB, fun p hp => ⟨(h.each p hp).1.mono hB, (h.each p hp).2⟩, h.is, h.fin, h.few⟩
/-- a log's blocks lie as high as they did -/
theorem LoAt.raise {w w' : World} {B B' lg bb bc g g' bc' : Nat} {vr : Value} {ps : List Rc} {d d' : Lg} (h : LoAt w' B lg bb bc g vr ps d) (h0 : LoAt w B' lg bb bc' g' vr ps d') : LoAt w' B' lg bb bc g vr ps d :=
  ⟨h0.low, h0.lowb, h.row, h.b, h.blen, h.n1, h.n2, h.f2, h.recs.upB (fun k hk => (h0.recs.lt k hk).1), fun p hp => ⟨(h.each p hp).1.upB (fun k hk => ((h0.each p hp).1.lt k hk).1), (h.each p hp).2⟩, h.is, h.fin, h.few⟩

/-- the region's bytes on the store -/
def lreg (s : BSt) (fr n : Nat) : List UInt8 := (List.range (n * 64)).map fun j => s.f (fr * 64 + j)
theorem lreg_len (s : BSt) (fr n : Nat) : (lreg s fr n).length = n * 64 := by simp [lreg]
theorem lreg_more (s : BSt) (fr k : Nat) : lreg s fr k ++ bblk s (fr + k) = lreg s fr (k + 1) := by
  have h := range_more (fun j => s.f (fr * 64 + j)) k
  unfold lreg bblk
  rw [← h]
  congr 1
  apply List.map_congr_left
  intro j _
  congr 1
  rw [Nat.add_mul]; omega
def lopen (s : BSt) (fr n : Nat) : Lg := ⟨fr, n, lreg s fr n, (lrecs (lreg s fr n)).1, (lrecs (lreg s fr n)).2, false⟩
theorem lopen_sync (s : BSt) (fr n : Nat) : Sync s (lopen s fr n) := by
  intro j x h
  unfold lopen lreg at h
  simp only [List.getElem?_map] at h
  by_cases hj : j < n * 64
  · rw [List.getElem?_range hj] at h
    show s.f (fr * 64 + j) = x
    simpa using h
  · rw [List.getElem?_eq_none (by simpa using hj)] at h
    simp at h

def OpenPost (w : World) (B g gb : Nat) (fo : Option Nat) (s : BSt) (fr n : Nat) (e : Ending) (w' : World) : Prop :=
  ∃ fo' s' d' E, StAt w' B g gb fo' s' ∧ Only (stF g gb fo) w w' ∧ (∀ k, fo' = some k → fo = some k ∨ w.heap.size ≤ k) ∧
    ((E = 0 ∧ WipeR s (lopen s fr n) (lopen s fr n).fin n s' d' ∧ ∃ lg bb bc vr ps, e = .returned (.tuple #[.pointer (some ⟨lg, 0, none⟩), .int .i64 0]) ∧ LoAt w' w.heap.size lg bb bc g vr ps d') ∨
     (E = 50 ∧ TornR s (lopen s fr n) (lopen s fr n).fin n s' d' ∧ e = .returned (.tuple #[.pointer none, .int .i64 50])))

structure OpB (w : World) (s : BSt) (g lg fr n k : Nat) (v : Value) (W : World) : Prop where
  bel : Below w.heap.size w W
  row : W.heap[lg]? = some (.cells #[.pointer (some ⟨g, 0, none⟩), .int .i64 fr, .int .i64 n, v, .int .i64 0, .slice none 0 0, .bool false] 128 (0, 0))
  own : Ob W w.heap.size 5 v (lreg s fr k)

structure OpR (w : World) (g lg bb bc fr n : Nat) (b : List UInt8) (p : Nat) (vr : Value) (ps : List Rc) (W : World) : Prop where
  bel : Below w.heap.size w W
  lo : LoAt W w.heap.size lg bb bc g vr ps ⟨fr, n, b, rbs ps, p, false⟩
  recs : rbs ps ++ (lrecs (b.drop p)).1 = (lrecs b).1
  fin : p + (lrecs (b.drop p)).2 = (lrecs b).2

set_option maxRecDepth 100000 in
set_option maxHeartbeats 3200000 in
theorem lOpen_any (w : World) (B g gb : Nat) (fo : Option Nat) (s : BSt) (fr n : Nat) (hs : StAt w B g gb fo s) (hon : s.off = false) (hn : 1 ≤ n) (hfit : fr + n ≤ s.n) (hc0 : 0 ≤ s.cnt) (hc : s.cnt ≤ 4000000000000000000) (hB : B ≤ w.heap.size) :
    Calls Try.prog 43 #[.pointer (some ⟨g, 0, none⟩), .int .i64 (fr : Int), .int .i64 (n : Int)] w (OpenPost w B g gb fo s fr n) := by
  have hn2 := hs.n2
  have HSS := Lib.hid hs
  have HON := Lib.hid hon
  have HC0 := Lib.hid hc0
  have HC := Lib.hid hc
  have HBB := Lib.hid hB
  obtain ⟨M, hM⟩ : ∃ M, s.n = M := ⟨_, rfl⟩
  have CL := Lib.hid (bLen_any g gb fo s B w hs)
  rw [hM] at CL hn2 hfit
  have HM := Lib.hid hM
  have HN2 := Lib.hid (show M ≤ 32768 from hn2)
  have HFIT := Lib.hid hfit
  have e0 : ((M : Int) == 0) = false := by simp; omega
  have e1 : ¬ (n : Int) < 1 := by omega
  have e2 : ¬ (fr : Int) < 0 := by omega
  have e3 : ¬ (M : Int) - (n : Int) < (fr : Int) := by omega
  have e4 : ¬ (M : Int) < (n : Int) := by omega
  have e4b : decide (M < n) = false := decide_eq_false (by omega)
  obtain ⟨lg, hlg⟩ : ∃ lg, w.heap.size = lg := ⟨_, rfl⟩
  obtain ⟨w1, hw1⟩ : ∃ V, w.alloc (.cells #[.pointer (some ⟨g, 0, none⟩), .int .i64 fr, .int .i64 n, .slice none 0 0, .int .i64 0, .slice none 0 0, .bool false] 128) = V := ⟨_, rfl⟩
  have START : Hid (OpB w s g lg fr n 0 (.slice none 0 0) w1) := by
    refine ⟨by rw [← hw1]; exact (Below.refl _ _).alloc (Nat.le_refl _) _, by rw [← hw1, ← hlg]; exact heap_alloc_new _ _, ?_⟩
    have : lreg s fr 0 = [] := by simp [lreg]
    rw [this]
    exact Ob.nil _ _ _
  have HLG := Lib.hid hlg
  clear hs hon hc0 hc hB hM
  go_enter Try.func43, Try.ntmps43
  go_upto_region 6 with (go_at_call 27; refine CL.out.mono ?_; rintro e w' ⟨rfl, rfl⟩)
  try rw [hlg]
  try rw [hw1]
  clear hlg hw1
  have hM5 : (M : Int) ≤ 32768 := by omega
  go_wp2_with fail
  go_loopw [44] (fun vi wr => ∃ k : Nat, k ≤ n ∧ vi = .int .i64 k ∧ Hid (∃ v, OpB w' s g lg fr n k v wr)) (fun vi _ => n - (intOf vi).toNat)
  case atStart => exact ⟨0, by omega, rfl, _, START.out⟩
  case round =>
    obtain ⟨k, hk, rfl, HO⟩ := hrel
    obtain ⟨v, ho⟩ := HO.out
    have HO := Lib.hid ho
    clear START ho
    by_cases hlt : k < n
    · have e5 : (k : Int) < n := by omega
      have hmay : bmayE s ((fr : Int) + k) = 0 := by unfold bmayE; rw [HON.out, if_neg (by simp), if_pos ⟨by omega, by rw [HM.out]; omega⟩]
      have CR := Lib.hid (bRead_any g gb fo s ((fr : Int) + k) B wr (HSS.out.below HO.out.bel))
      unfold ReadPost bread at CR
      rw [hmay, if_pos rfl, show ((fr : Int) + k).toNat = fr + k by omega] at CR
      have hbl : (bblk s (fr + k)).length = 64 := by simp [bblk]
      have HBL := Lib.hid hbl
      have hvl := HO.out.own
      obtain ⟨av, cv, hsv⟩ := hvl.shape
      rw [lreg_len] at hsv
      obtain ⟨L, hL⟩ : ∃ L, k * 64 = L := ⟨_, rfl⟩
      rw [hL] at hsv
      subst hsv
      have HL := Lib.hid hL
      have HK := Lib.hid hlt
      clear hmay hvl hbl hL
      go_wp2_with fail
      refine CR.out.mono ?_
      rintro e w2 ⟨v2, rfl, ho2, hb2⟩
      have hB2 := HO.out.bel.trans (hb2.mono HO.out.bel.size)
      have row2 := (hb2.block lg (heap_lt HO.out.row)).trans HO.out.row
      have c3 : w2.cell? ⟨lg, 3, none⟩ = some (.slice av L cv) := by rw [cell_of_row w2 lg 3 _ _ _ row2]; rfl
      have own2 := HO.out.own.below hb2
      have ROW2 := Lib.hid row2
      have OWN2 := Lib.hid own2
      have HO2 := Lib.hid ho2
      have HB2 := Lib.hid hB2
      obtain ⟨a2, c2', hs2⟩ := ho2.shape
      rw [HBL.out] at hs2
      subst hs2
      clear hb2 hB2 row2 own2 ho2
      go_wp2_with (at_builtin; go_must (refine wpList_append_bytes_mv OWN2.out HO2.out.bs elB (by rw [lreg_len, HBL.out]; omega) (by rw [lreg_len, HBL.out]; omega) HB2.out.size ?_ _ _ rfl rfl rfl rfl; intro v3 w3 ho3 hg3 hm3; have ho3' : Ob w3 w'.heap.size 5 v3 (lreg s fr (k + 1)) := (by rw [← lreg_more]; exact ho3); obtain ⟨a3, c3', hs3⟩ := ho3'.shape; obtain ⟨L3, hL3⟩ : ∃ L, (lreg s fr (k + 1)).length = L := ⟨_, rfl⟩; rw [hL3] at hs3; subst hs3; clear hL3; have hne : (Value.slice av L cv).ownBlock ≠ some lg := OWN2.out.ne ROW2.out (by decide); have row3 := ((grown_only hg3).block lg (heap_lt ROW2.out) hne).trans ROW2.out; have c33 : w3.cell? ⟨lg, 3, none⟩ = some (.slice av L cv) := (by rw [cell_of_row w3 lg 3 _ _ _ row3]; rfl); have f33 := row_free row3 3; have ROW3 := Lib.hid row3; have HO3 := Lib.hid ho3'; have HG3 := Lib.hid hg3; clear ho3 ho3' hg3 hm3 hne row3))
      have hf : Hid (∃ v, OpB w' s g lg fr n (k + 1) v (w3.setCell ⟨lg, 3, none⟩ (.slice a3 L3 c3'))) := by
        refine ⟨.slice a3 L3 c3', ?_⟩
        have h1 : Below w'.heap.size w' w3 := HB2.out.trans ((Below.refl _ _).grown HG3.out HB2.out.size (fun j hj => (OWN2.out.lt j hj).1))
        refine ⟨h1.trans ((set_only w3 lg 3 _).below (fun j hj => by rw [hj, HLG.out]; exact Nat.le_refl _) h1.size), row_setCell ROW3.out 3 _, HO3.out.only (set_only w3 lg 3 _) (fun j hj e => ?_)⟩
        subst e
        exact HO3.out.ne ROW3.out (by decide) hj
      go_roundw
      case rel => exact ⟨k + 1, HK.out, by go_num, hf⟩
      case measure => simp [intOf]; have := HK.out; omega
    · obtain rfl : k = n := by omega
      have e5 : ¬ (k : Int) < k := by omega
      obtain ⟨b0, hb0⟩ : ∃ b, lreg s fr k = b := ⟨_, rfl⟩
      have hbl : b0.length = k * 64 := by rw [← hb0, lreg_len]
      have hown := HO.out.own
      rw [hb0] at hown
      obtain ⟨bb, bc, rfl, hbb, hrow⟩ := hown.row1 (by rw [hbl]; omega)
      have START2 : Hid (OpR w' g lg bb bc fr k b0 0 (.slice none 0 0) [] wr) := by
        refine ⟨HO.out.bel, ⟨by rw [HLG.out]; exact Nat.le_refl _, hbb, ?_, hrow, hbl, hn, by show k ≤ 32768; have := HN2.out; have := HFIT.out; omega, by show fr ≤ 32768; have := HN2.out; have := HFIT.out; omega, Gw.nil _ _ _, by simp, rfl, Nat.zero_le _, by simp⟩, by simp [rbs], by simp⟩
        have := HO.out.row
        rw [hbl] at this
        exact this
      have HB0 := Lib.hid hb0
      have HBL := Lib.hid hbl
      clear hb0 hbl hown hbb hrow HO
      go_wp2_with fail
      obtain ⟨N, hN⟩ : ∃ N, k * 64 = N := ⟨_, rfl⟩
      have HNN := Lib.hid hN
      have hN2 : N ≤ 2097152 := by have := HN2.out; have := HFIT.out; omega
      rw [hN] at HBL
      clear hN
      go_loopg [12] N (fun q _ wr => ∃ (p : Nat) (vr : Value) (ps : List Rc), q = N - p ∧ p ≤ N ∧ Hid (OpR w' g lg bb bc fr k b0 p vr ps wr))
      case atStart => exact ⟨0, _, _, by omega, by omega, START2⟩
      case round =>
        obtain ⟨p, vr, ps, hq, hp, HR⟩ := hrel
        clear START2
        have HQ := Lib.hid hq
        clear hq
        have hcs := HR.out.lo.cells
        obtain ⟨-, -, -, c3, c4, c5, -⟩ := hcs
        simp only at c3 c4
        rw [show ((k * 64 : Nat)) = N from HNN.out] at c3
        have hbs := HR.out.lo.bs
        simp only at hbs
        rw [show ((k * 64 : Nat)) = N from HNN.out] at hbs
        obtain ⟨Y, hY, hYb⟩ := Bs.from (P := Try.prog) elB hbs p (by rw [HBL.out]; exact hp)
        have HYB := Lib.hid (hYb.below (Below.refl wr.heap.size wr).drew)
        have KS : Hid (∀ V : World, Below wr.heap.size wr V → V.cell? ⟨lg, 3, none⟩ = some (.slice (some ⟨bb, 0, none⟩) N bc) ∧ V.cell? ⟨lg, 4, none⟩ = some (.int .i64 p)) := fun V hV => by
          have h1 := (HR.out.lo.below hV).cells
          simp only at h1
          rw [show ((k * 64 : Nat)) = N from HNN.out] at h1
          exact ⟨h1.2.2.2.1, h1.2.2.2.2.1⟩
        have hbd : (b0.drop p).length ≤ 1000000000 := by rw [List.length_drop, HBL.out]; omega
        have HBD := Lib.hid hbd
        clear hbs hYb c3 c4 c5 hbd
        cases hfst : lfirst (b0.drop p) with
        | none =>
          have CF := Lib.hid (first_no Y _ wr.drew HYB.out HBD.out hfst)
          have HFS := Lib.hid hfst
          clear hfst
          have e7 : ((0 : Int) == 0) = true := by decide
          go_wp2_with fail
          go_region_held3 (fun W => W.cell? ⟨lg, 3, none⟩ = some (.slice (some ⟨bb, 0, none⟩) N bc) ∧ W.cell? ⟨lg, 4, none⟩ = some (.int .i64 p)) (first
            | (with_reducible exact KS.out _ B4)
            | (with_reducible exact KS.out _ ((Below.refl _ _).drew))) (first
            | (go_at_call 90; (with_reducible refine CF.out.mono ?_); rintro e w4 ⟨rfl, hb4⟩; have B4 : Below wr.heap.size wr w4 := (Below.refl wr.heap.size wr).drew.trans hb4))
          have HB4 := Lib.hid B4
          have lo4 := HR.out.lo.below B4
          have c4 := lo4.cells.2.2.2.2.1
          simp only at c4
          have h1 := HR.out.recs
          have h2 := HR.out.fin
          rw [lrecs_none HFS.out] at h1 h2
          simp only [List.append_nil, Nat.add_zero] at h1 h2
          have hd : (⟨fr, k, b0, rbs ps, p, false⟩ : Lg) = lopen s fr k := by
            unfold lopen
            rw [HB0.out, h1, h2]
          have hbel : Below w'.heap.size w' w4 := HR.out.bel.trans (B4.mono HR.out.bel.size)
          have hB4 : B ≤ w4.heap.size := Nat.le_trans HBB.out hbel.size
          rw [hd] at lo4
          have CW := Lib.hid (lWipe_any w4 B lg bb bc g gb fo vr ps s (lopen s fr k) p (HSS.out.below hbel) (lo4.mono HBB.out) HON.out (lopen_sync s fr k) (by show fr + k ≤ s.n; rw [HM.out]; exact HFIT.out) HC0.out HC.out)
          have HLO4 := Lib.hid lo4
          have HBE := Lib.hid hbel
          have hpf : p = (lopen s fr k).fin := by show p = (lrecs (lreg s fr k)).2; rw [HB0.out]; exact h2
          have HPF := Lib.hid hpf
          have HLB : Hid (lg = w'.heap.size ∧ w'.heap.size ≤ bb) := ⟨HLG.out.symm, HR.out.lo.lowb⟩
          have HVR := Lib.hid (fun k hk => (HR.out.lo.recs.lt k hk).1)
          clear B4 lo4 h1 h2 hd hbel hB4 hpf
          go_wp2_with fail
          refine CW.out.mono ?_
          rintro e w6 ⟨fo', s', d', E, rfl, hst, hlo, hR, ho, hf⟩
          have HST := Lib.hid hst
          have HLO := Lib.hid hlo
          have hO : Only (stF g gb fo) w' w6 := (Only.of_below' HBE.out).trans' ho (fun j hj => by
            rcases hj with hj | hj | hj
            · exact .inl hj
            · exact .inr (by rw [hj, HLB.out.1]; exact Nat.le_refl _)
            · exact .inr (by rw [hj]; exact HLB.out.2))
          have hF : ∀ j, fo' = some j → fo = some j ∨ w'.heap.size ≤ j := fun j hj => by
            rcases hf j hj with h1 | h1
            · exact .inl h1
            · exact .inr (Nat.le_trans HBE.out.size h1)
          have HO := Lib.hid hO
          have HF := Lib.hid hF
          rcases hR with ⟨rfl, hR⟩ | ⟨rfl, hR⟩
          · rw [HPF.out] at hR
            have HRR := Lib.hid hR
            have e8 : ((0 : Int) != 0) = false := by decide
            clear hst hlo ho hf hR hO hF
            go_wp2
            go_ret2
            exact ⟨fo', s', d', 0, HST.out, HO.out, HF.out, .inl ⟨rfl, HRR.out, lg, bb, bc, vr, ps, rfl, HLO.out.raise HLO4.out⟩⟩
          · rw [HPF.out] at hR
            have HRR := Lib.hid hR
            have e8 : ((50 : Int) != 0) = true := by decide
            clear hst hlo ho hf hR hO hF
            go_wp2
            go_ret2
            exact ⟨fo', s', d', 50, HST.out, HO.out, HF.out, .inr ⟨rfl, HRR.out, rfl⟩⟩
        | some x =>
          obtain ⟨r, q⟩ := x
          have hqk := lfirst_len hfst
          have CF := Lib.hid (first_yes Y _ wr.drew HYB.out r q hfst)
          have HFS := Lib.hid hfst
          have e7 : ((q : Int) == 0) = false := by simp; omega
          have hq2 : (q : Int) ≤ 2097152 := by rw [List.length_drop, HBL.out] at hqk; omega
          have HQK := Lib.hid hqk
          clear hfst hqk
          go_wp2_with fail
          go_region_held3 (fun W => W.cell? ⟨lg, 3, none⟩ = some (.slice (some ⟨bb, 0, none⟩) N bc) ∧ W.cell? ⟨lg, 4, none⟩ = some (.int .i64 p)) (first
            | (with_reducible exact KS.out _ B4)
            | (with_reducible exact KS.out _ ((Below.refl _ _).drew))) (first
            | (go_at_call 90; (with_reducible refine CF.out.mono ?_); rintro e w4 ⟨v4, rfl, ho4, hb4⟩; have B4 : Below wr.heap.size wr w4 := (Below.refl wr.heap.size wr).drew.trans hb4; have HO4 := Lib.hid ho4; clear ho4 hb4))
          obtain ⟨a4, c4', hs4⟩ := HO4.out.shape
          obtain ⟨rl, hrl⟩ : ∃ rl, r.length = rl := ⟨_, rfl⟩
          rw [hrl] at hs4
          subst hs4
          have HRL := Lib.hid hrl
          have lo4 := HR.out.lo.below B4
          have c5 := lo4.cells.2.2.2.2.2.1
          have hbel : Below w'.heap.size w' w4 := HR.out.bel.trans (B4.mono HR.out.bel.size)
          have hal : Below w4.heap.size w4 (w4.alloc (.cells #[.slice a4 rl c4'] 43)) := (Below.refl w4.heap.size w4).alloc (Nat.le_refl _) _
          have hbA := hbel.trans (hal.mono hbel.size)
          have hown := lo4.recs.below hal
          have hlit : Gs 1 csP (w4.alloc (.cells #[.slice a4 rl c4'] 43)) (.slice (some ⟨w4.heap.size, 0, none⟩) 1 1) [(((a4, rl, c4'), r) : Rc)] := (gw_lit layP w4 43 #[.slice a4 rl c4'] [(((a4, rl, c4'), r) : Rc)] 1 rfl (by decide) rfl).gs
          have hbz := hbA.size
          have hfew := lo4.few
          simp only at hfew
          have HFEW := Lib.hid hfew
          have rowA := (hal.block lg (heap_lt lo4.row)).trans lo4.row
          have ROWA := Lib.hid rowA
          have HNE : Hid (vr.ownBlock ≠ some lg) := lo4.ne_b.2.2.1
          have HB4 := Lib.hid B4
          have HBA := Lib.hid hbA
          have HAL := Lib.hid hal
          clear B4 hrl lo4 hbel hal hbA hfew rowA hY
          go_wp2_with (at_builtin; go_must (refine wpList_append_gs layP hown hlit elOB (by have := HFEW.out; simp; omega) (by have := HFEW.out; simp; omega) hbz ?_ _ _ rfl rfl rfl rfl; intro v5 w5 ho5 hg5 hb5 hm5; obtain ⟨n5, hn5⟩ : ∃ n, (ps ++ [(((a4, rl, c4'), r) : Rc)]).length = n := ⟨_, rfl⟩; obtain ⟨a5, c5', hs5⟩ := ho5.gs.shape; rw [hn5] at hs5; subst hs5; clear hn5; have r55 := ((grown_only hg5).block lg (heap_lt ROWA.out) HNE.out).trans ROWA.out; have c55 : w5.cell? ⟨lg, 5, none⟩ = some vr := (by rw [cell_of_row w5 lg 5 _ _ _ r55]; rfl); have c54 : w5.cell? ⟨lg, 4, none⟩ = some (.int .i64 p) := (by rw [cell_of_row w5 lg 4 _ _ _ r55]; rfl); have f55 := row_free r55 5; have f54 := row_free r55 4; have R55 := Lib.hid r55; have HO5 := Lib.hid ho5; have HG5 := Lib.hid hg5; clear ho5 hg5 hb5 hm5 r55))
          clear hown hlit hbz
          have hf : Hid (OpR w' g lg bb bc fr k b0 (p + q) (.slice a5 n5 c5') (ps ++ [(((a4, rl, c4'), r) : Rc)]) ((w5.setCell ⟨lg, 5, none⟩ (.slice a5 n5 c5')).setCell ⟨lg, 4, none⟩ (.int .i64 ((p : Int) + q)))) := by
            have hst := lrecs_step HFS.out
            have h1 := HR.out.recs
            have h2 := HR.out.fin
            rw [hst.1] at h1
            rw [hst.2] at h2
            have hx : Only (fun j => j = lg) w5 ((w5.setCell ⟨lg, 5, none⟩ (.slice a5 n5 c5')).setCell ⟨lg, 4, none⟩ (.int .i64 ((p : Int) + q))) := (set_only w5 lg 5 _).trans (set_only _ lg 4 _)
            have hgr : Below w'.heap.size w' w5 := HBA.out.trans ((Below.refl _ _).grown HG5.out HBA.out.size (fun j hj => (HR.out.lo.recs.lt j hj).1))
            have hbw : Below w'.heap.size w' ((w5.setCell ⟨lg, 5, none⟩ (.slice a5 n5 c5')).setCell ⟨lg, 4, none⟩ (.int .i64 ((p : Int) + q))) := hgr.trans (hx.below (fun j hj => by rw [hj, HLG.out]; exact Nat.le_refl _) hgr.size)
            have o5 : Only (fun j => j = lg ∨ vr.ownBlock = some j) wr w5 := (Only.of_below' (HB4.out.trans (HAL.out.mono HB4.out.size))).trans' (grown_only HG5.out) (fun j hj => .inl (.inr hj))
            have o6 := o5.trans' hx (fun j hj => .inl (.inl hj))
            have hfew := HFEW.out
            have hqk := HQK.out
            rw [List.length_drop, HBL.out] at hqk
            have hxn : ∀ j, (Value.slice a4 rl c4').ownBlock = some j → wr.heap.size ≤ j := fun j hj => by have := (HO4.out.lt j hj).1; simpa using this
            have hxo : Ob w5 w'.heap.size 5 (.slice a4 rl c4') r := by
              have h3 := HO4.out.below HAL.out
              refine (h3.only (grown_only HG5.out) (fun j hj hj2 => ?_)).mono (Nat.le_trans HR.out.bel.size (by simp))
              have h4 := hxn j hj
              have h5 := (HR.out.lo.recs.lt j hj2).2
              omega
            refine ⟨hbw, ?_, ?_, by omega⟩
            · refine HR.out.lo.upd2 (fin' := p + q) (recs' := rbs (ps ++ [(((a4, rl, c4'), r) : Rc)])) o6 (row_setCell (row_setCell R55.out 5 _) 4 _) (HO5.out.only hx (fun j hj e => ?_)) ?_ rfl (by show p + q ≤ k * 64; rw [HNN.out]; omega) (by rw [List.length_append, List.length_singleton]; omega)
              · subst e
                obtain ⟨A, hA⟩ := HO5.out.tag _ hj
                exact absurd (tags_apart R55.out hA) (by decide)
              · intro x hx'
                rcases List.mem_append.1 hx' with hx' | hx'
                · refine ⟨(HR.out.lo.each x hx').1.only o6 (fun j hj hj2 => ?_), (HR.out.lo.each x hx').2⟩
                  rcases hj2 with hj2 | hj2
                  · subst hj2
                    exact HR.out.lo.ne_b.2.2.2 x hx' hj
                  · obtain ⟨A, hA⟩ := HR.out.lo.recs.tag _ hj2
                    obtain ⟨A', hA'⟩ := (HR.out.lo.each x hx').1.tag _ hj
                    exact absurd (tags_apart hA hA') (by decide)
                · simp only [List.mem_singleton] at hx'
                  subst hx'
                  refine ⟨hxo.only hx (fun j hj e => ?_), fun hj => ?_⟩
                  · have h4 := hxn j hj
                    have h5 := heap_lt HR.out.lo.row
                    omega
                  · have h4 := hxn bb hj
                    have h5 := HR.out.lo.b.lt
                    omega
            · rw [← h1]
              simp [rbs]
          have hqk2 : 1 ≤ q ∧ p + q ≤ N := by have hqk := HQK.out; rw [List.length_drop, HBL.out] at hqk; omega
          have HQ2 := Lib.hid hqk2
          clear hqk2
          go_wp2_with fail
          go_roundg (N - (p + q))
          case measure => have := HQ2.out; have := HQ.out; omega
          case rel => exact ⟨p + q, _, _, rfl, HQ2.out.2, hf⟩

end Go.Proofs.Ytbonapdainlpjaa
