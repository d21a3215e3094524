/- Layer 12 (revoke): the statement RevokeMerges, the walk; the view of a list of what is revoked. -/
import Derived.Test.YtjnbdeopoohnmaaRv5
import Derived.Test.YtjnbdeopoohnmaaTrod
import Derived.Deep.RegionHeld3
import Derived.Deep.DeepCutAuto
import Derived.Deep.CutBlock
import Derived.Lib.QuietBelow
set_option linter.unusedSimpArgs false
namespace Go.Proofs.Ytjnbdeopoohnmaa
open Go.RowKit Go.Sort Go.ChangeShapes Go.WideShapes Go.ChangeAt Go.Deep Go.Joins

set_option maxRecDepth 100000 in
theorem rev_trod {H : Type} {enc : TypeId × Value → H} {w : World} (m : Nat) (c : List Value) (y : DataW H × List MemPlace) (h : DataW.trod enc Try.prog w 0 (fun _ => true) true m 29 c = some y) :
    ∃ x : RT, c = csR x ∧ True := by
  obtain ⟨y0, y1, n, _, hl, e0, e1⟩ := trod_struct2 Try.underlying29 h
  have h2 : c.length = 2 := hl.trans (by kernel_rfl)
  have hc0 : Try.prog.cellsOf 3 = 1 := by kernel_rfl
  match c, h2 with
  | [a, b], _ =>
    simp only at e0 e1
    rw [hc0] at e0 e1
    obtain ⟨z0, g0, _, k0⟩ := DataW.trod_int Try.underlying3 e0
    obtain ⟨z1, g1, _, k1⟩ := DataW.trod_int Try.underlying3 e1
    simp at g0 g1
    subst g0 g1
    exact ⟨(z0, z1), rfl, trivial⟩

def Revs (w : World) (v : Value) (l : List RT) : Prop := Gs 2 csR w v l
set_option maxRecDepth 100000 in
theorem view_revs {H : Type} {enc : TypeId × Value → H} {w : World} {b0 : Nat} {r : Reach} {v : Value} {d : DataW H} {ps : List MemPlace}
    (hval : Value.okWide Try.prog w r b0 22 v) (hd : DataW.Trod enc Try.prog w 0 (fun _ => true) true 22 v d ps) : ∃ l : List RT, Revs w v l := by
  obtain ⟨a0, len, cap, rfl⟩ := okWide_slice Try.underlying22 hval
  obtain ⟨m, hy⟩ := hd
  obtain ⟨v', l, g, q, hq⟩ := gs_trod (cs := csR) (Q := fun _ => True) (s := 2) Try.underlying22 (by kernel_rfl) (by decide) (fun m c y h => rev_trod m c y h) hy
  have hv : v' = .slice a0 len cap := by simpa [Value.cells] using g.symm
  subst hv
  exact ⟨l, q⟩

theorem rright_lt {l : List RT} (h : rright l = true) : rlt 0 l := by
  unfold rright at h
  simp only [Bool.and_eq_true] at h
  exact rinc_lt h.2
theorem fold_lt {b a : List RT} (ha : rlt 0 a) (hb : rlt 0 b) : rlt 0 (b.foldl rins a) := by
  have key : ∀ (b a : List RT), rlt 0 a → (∀ x ∈ b, 0 < x.1) → rlt 0 (b.foldl rins a) := by
    intro b
    induction b with
    | nil => intro a ha _; exact ha
    | cons y b ih => intro a ha hy; exact ih (rins a y) (rins_lt ha (hy y (by simp))) (fun x hx => hy x (by simp [hx]))
  exact key b a ha (rlt_all hb)
theorem fold_len : ∀ (b a : List RT), (b.foldl rins a).length ≤ a.length + b.length
  | [], a => by simp
  | y :: b, a => by
    have h1 := fold_len b (rins a y)
    have h2 := rins_len a y
    simp only [List.foldl_cons, List.length_cons]
    omega

set_option maxRecDepth 100000 in
set_option maxHeartbeats 1600000 in
theorem rm_walk (v : Value) (a : List RT) (u : Value) (b : List RT) (w : World) (h : Revs w v a) (hu : Revs w u b) : Calls Try.prog 3 #[v, u] w fun e w' => e = .returned (.bool true) ∧ Below w.heap.size w w' := by
  have HA := Lib.hid (show Gs 2 csR w v a from h)
  have HBB := Lib.hid (show Gs 2 csR w u b from hu)
  have CA := Lib.hid (rAwake_any w)
  have CM := Lib.hid (fun (V : World) (hV : Below w.heap.size w V) => rMerge_any v u a b V (HA.out.below hV) (HBB.out.below hV))
  have CR := Lib.hid (fun (ha : a.length ≤ 10000) (V : World) (hV : Below w.heap.size w V) => rrRight_any v a V (HA.out.below hV) ha)
  have CR2 := Lib.hid (fun (hb : b.length ≤ 10000) (V : World) (hV : Below w.heap.size w V) => rrRight_any u b V (HBB.out.below hV) hb)
  obtain ⟨na, hna⟩ : ∃ n, a.length = n := ⟨_, rfl⟩
  obtain ⟨n, hn⟩ : ∃ n, b.length = n := ⟨_, rfl⟩
  obtain ⟨p1, k1, hs1⟩ := HA.out.shape
  subst hs1
  obtain ⟨p2, k2, bb, o, hs2, h1, h2, hix, hlt', hcell, -⟩ := HBB.out.open_n layR elR n hn
  subst hs2
  rw [hna] at HA CM CR ⊢
  have HC := Lib.hid hcell
  have HN := Lib.hid hn
  have HNA := Lib.hid hna
  have HLT := Lib.hid hlt'
  clear h hu hn hna hcell hlt'
  go_enter Try.func3, Try.ntmps3
  go_wp2_with fail
  refine CA.out.mono ?_
  rintro e w2 ⟨rfl, hb2⟩
  have HB2 := Lib.hid hb2
  clear hb2
  by_cases ha3 : 300 < na
  · have e1 : (300 : Int) < na := by omega
    go_wp2
    go_ret
    exact ⟨rfl, HB2.out⟩
  · have e1 : ¬ (300 : Int) < na := by omega
    by_cases hb3 : 300 < n
    · have e2 : (300 : Int) < n := by omega
      go_wp2
      go_ret
      exact ⟨rfl, HB2.out⟩
    · have e2 : ¬ (300 : Int) < n := by omega
      have hla : Hid (a.length ≤ 300) := by show a.length ≤ 300; rw [HNA.out]; omega
      have hlb : Hid (b.length ≤ 300) := by show b.length ≤ 300; rw [HN.out]; omega
      have hn3 : n ≤ 300 := by omega
      go_wp2_with fail
      refine (CM.out w2 HB2.out).mono ?_
      intro e w3 hm
      unfold MerPost at hm
      obtain ⟨⟨mv, rfl, hmn, hmg⟩, hb3'⟩ := hm
      obtain ⟨E, hE⟩ : ∃ E, merE a b = E := ⟨_, rfl⟩
      have HEV : Hid (E = if rright a = false ∨ rright b = false then 2 else if 4096 < (rmerge a b).length then 3 else 0) := hE.symm
      rw [hE] at hmn hmg ⊢
      have HMN := Lib.hid hmn
      have HMG := Lib.hid hmg
      have HB3 := Lib.hid (HB2.out.trans (hb3'.mono HB2.out.size))
      obtain ⟨ra, hra⟩ : ∃ r, rright a = r := ⟨_, rfl⟩
      obtain ⟨rb, hrb⟩ : ∃ r, rright b = r := ⟨_, rfl⟩
      have HRA := Lib.hid hra
      have HRB := Lib.hid hrb
      have C4 := Lib.hid (CR.out (by have := hla.out; omega) w3 HB3.out)
      rw [hra] at C4 HEV
      rw [hrb] at HEV
      clear hmn hmg hb3' hE hra hrb
      go_wp2_with fail
      refine C4.out.mono ?_
      rintro e w4 ⟨rfl, hb4⟩
      have HB34 := Lib.hid hb4
      have HB4 := Lib.hid (HB3.out.trans (hb4.mono HB3.out.size))
      clear hb4
      cases ra with
      | false =>
        have hE2 : E = 2 := by rw [HEV.out]; rfl
        obtain rfl := HMN.out (by rw [hE2]; decide)
        subst hE2
        go_wp2
        go_ret
        exact ⟨rfl, HB4.out⟩
      | true =>
      have C5 := Lib.hid (CR2.out (by have := hlb.out; omega) w4 HB4.out)
      rw [HRB.out] at C5
      go_wp2_with fail
      refine C5.out.mono ?_
      rintro e w5 ⟨rfl, hb5⟩
      have HB35 := Lib.hid (HB34.out.trans (hb5.mono HB34.out.size))
      have HB5 := Lib.hid (HB4.out.trans (hb5.mono HB4.out.size))
      clear hb5
      cases rb with
      | false =>
        have hE2 : E = 2 := by rw [HEV.out]; rfl
        obtain rfl := HMN.out (by rw [hE2]; decide)
        subst hE2
        go_wp2
        go_ret
        exact ⟨rfl, HB5.out⟩
      | true =>
      have hlen : (rmerge a b).length ≤ 600 := by have := rmerge_len _ a b (Nat.le_refl _); have := hla.out; have := hlb.out; omega
      have hE0 : E = 0 := by rw [HEV.out, if_neg (by simp), if_neg (by omega)]
      have hmm := HMG.out hE0
      have HMM := Lib.hid hmm
      have hlta := rright_lt HRA.out
      have hltb := rright_lt HRB.out
      have HLA := Lib.hid hlta
      have HLB := Lib.hid hltb
      have HLEN := Lib.hid hlen
      subst hE0
      clear hlen hmm hlta hltb
      go_wp2_with fail
      go_loopw [44, 7] (fun vi v7 wr => ∃ (k : Nat) (y7 : Value), y7 = v7 ∧ k ≤ n ∧ vi = .int .i64 k ∧ Hid (Gs 2 csR wr y7 ((b.take k).foldl rins a)) ∧ Hid (Below w5.heap.size w5 wr)) (fun vi _ _ => n - (intOf vi).toNat)
      case atStart => exact ⟨0, _, rfl, by omega, rfl, HA.out.below HB5.out, Below.refl _ _⟩
      case round =>
        obtain ⟨k, y7, rfl, hk, rfl, HO, HBr⟩ := hrel
        by_cases hlt : k < n
        · have e3 : (k : Int) < n := by omega
          obtain ⟨x, hs⟩ : ∃ s, b[k]? = some s := ⟨_, List.getElem?_eq_getElem (by have := HN.out; omega)⟩
          have hb0 := HB5.out.trans (HBr.out.mono HB5.out.size)
          have c0 := HC.out k x hs 0 _ rfl
          have c1 := HC.out k x hs 1 _ rfl
          rw [Nat.add_zero] at c0
          rw [← hb0.cell (by exact HLT.out k hlt)] at c0 c1
          have hixk := fun W => hix W k hlt
          obtain ⟨L, hL⟩ : ∃ L, (b.take k).foldl rins a = L := ⟨_, rfl⟩
          have hLlt : rlt 0 L := by
            rw [← hL]
            have key : ∀ (c d : List RT), rlt 0 d → (∀ x ∈ c, 0 < x.1) → rlt 0 (c.foldl rins d) := by
              intro c
              induction c with
              | nil => intro d hd _; exact hd
              | cons y c ih => intro d hd hy; exact ih (rins d y) (rins_lt hd (hy y (by simp))) (fun x hx => hy x (by simp [hx]))
            exact key _ _ HLA.out (fun x hx => rlt_all HLB.out x (List.mem_of_mem_take hx))
          have hLl : L.length ≤ 700 := by
            rw [← hL]
            have t := fold_len (b.take k) a
            rw [List.length_take] at t
            have := hla.out
            have := hlb.out
            omega
          have hnext : (b.take (k + 1)).foldl rins a = rins L x := by rw [List.take_add_one, hs, ← hL, List.foldl_append]; rfl
          rw [hL] at HO
          obtain ⟨W2, hW2⟩ : ∃ V, wr.alloc (.cells #[.int .i64 x.1, .int .i64 x.2] 29) = V := ⟨_, rfl⟩
          obtain ⟨q2, hq2⟩ : ∃ z, wr.heap.size = z := ⟨_, rfl⟩
          have hr2 : W2.heap[q2]? = some (.cells #[.int .i64 x.1, .int .i64 x.2] 29 (0, 0)) := by rw [← hW2, ← hq2]; exact heap_alloc_new _ _
          have hb2 : Below wr.heap.size wr W2 := by rw [← hW2]; exact (Below.refl _ _).alloc (Nat.le_refl _) _
          have HB2' := Lib.hid (HBr.out.trans (hb2.mono HBr.out.size))
          have CX := Lib.hid (rrAdd_any y7 L x W2 (HO.out.below hb2) (by omega))
          rw [radd_ins hLlt, ← hnext] at CX
          obtain ⟨d0, d1⟩ := rev_cells hr2
          obtain ⟨xt, xu⟩ := x
          simp only at c0 c1 d0 d1 hW2 CX
          have HW2 := Lib.hid hW2
          have HQ2 := Lib.hid hq2
          have HLTK := Lib.hid hlt
          clear hs hb0 hL hLlt hLl hnext hr2 hb2 hW2 hq2
          go_upto_region 12 with fail
          rw [HW2.out, HQ2.out]
          clear c0 c1
          go_wp2_with fail
          refine CX.out.mono ?_
          rintro e w6 ⟨v6, rfl, hg6, hb6⟩
          have HG6 := Lib.hid hg6
          have HB6 := Lib.hid (HB2'.out.trans (hb6.mono HB2'.out.size))
          clear hg6 hb6 d0 d1
          go_wp2
          go_roundw
          case rel => exact ⟨k + 1, _, rfl, by have := HLTK.out; omega, by go_num, HG6, HB6⟩
          case measure => simp [intOf]; have := HLTK.out; omega
        · obtain rfl : k = n := by omega
          have e3 : ¬ (k : Int) < k := by omega
          have hO := HO.out
          rw [List.take_of_length_le (by rw [HN.out]; exact Nat.le_refl _), ← rmerge_fold HLB.out] at hO
          have CS := Lib.hid (rrSame_yes mv y7 (rmerge a b) wr (HMM.out.below (HB35.out.trans (HBr.out.mono HB35.out.size))) hO (by have := HLEN.out; omega))
          have HB0r := Lib.hid (HB5.out.trans (HBr.out.mono HB5.out.size))
          clear hO
          go_wp2_with fail
          refine CS.out.mono ?_
          rintro e w6 ⟨rfl, hb6⟩
          have HB6 := Lib.hid (HB0r.out.trans (hb6.mono HB0r.out.size))
          clear hb6
          go_wp2
          go_ret
          exact ⟨rfl, HB6.out⟩

end Go.Proofs.Ytjnbdeopoohnmaa
