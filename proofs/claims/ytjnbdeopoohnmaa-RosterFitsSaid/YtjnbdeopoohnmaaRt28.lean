/- Layer 56 (roster): RosterFits: a class from then on, and no other time's. -/
import Derived.Test.YtjnbdeopoohnmaaRt27
import Derived.Test.YtjnbdeopoohnmaaRt25
import Derived.Deep.RegionLaw
import Derived.Deep.DeepCutAuto
import Derived.Deep.CutBlock
import Derived.Lib.QuietBelow
import Derived.Lib.SliceRun
set_option linter.unusedSimpArgs false
namespace Go.Proofs.Ytjnbdeopoohnmaa
open Go.RowKit Go.Sort

theorem accD_at {M : List AcX} {i : Nat} {b : AcD} (h : (accD M)[i]? = some b) : ∃ z, M[i]? = some z ∧ z.1 = b := by
  unfold accD at h
  rw [List.getElem?_map] at h
  cases hm : M[i]? with
  | none => rw [hm] at h; cases h
  | some z => rw [hm] at h; exact ⟨z, rfl, by simpa using h⟩
theorem find_right {w w' : World} {M : List AcX} {id : Int} {i : Nat} {b : AcD} {e : Ending} (hr : aright (accD M) = true) (hb : (accD M)[i]? = some b) (hid : b.id = id) (h : FindPost w M id e w') : ∃ y : AcX, e = .returned (.tuple #[AcX.agg y, .bool true]) ∧ y.1 = b ∧ AcV w' y ∧ Below w.heap.size w w' := by
  obtain ⟨z, hz, hzb⟩ := accD_at hb
  obtain ⟨r, y, ok, h1, h2, h3, h4, h5⟩ := h
  cases ok with
  | false =>
    obtain ⟨rfl, -⟩ := h4 rfl
    exact absurd (by rw [hzb]; exact hid) (h1 i z (List.getElem?_eq_some_iff.1 hz).1 hz)
  | true =>
    obtain ⟨k, x, rfl, h6, h7, h8⟩ := h5 rfl
    obtain ⟨⟨x', hx', hxid⟩, -⟩ := h1
    rw [h6] at hx'
    cases hx'
    have hk := up_place hr (accD_get h6) hb (by rw [hxid]; exact hid.symm)
    subst hk
    rw [hz] at h6
    cases h6
    exact ⟨y, h2, h7.trans hzb, h8, h3⟩

theorem one_bl {i b : Int} {s : List SpT} (h : aone ⟨i, b, s⟩ = true) : aone ⟨i, -1, s⟩ = true := by
  obtain ⟨h1, h2, h3, h4, h5, h6, h7, h8⟩ := aone_wf h
  unfold aone
  simp only [Bool.and_eq_true, decide_eq_true_eq]
  exact ⟨⟨h1, h2⟩, ⟨by omega, by omega⟩, ⟨h5, h6⟩, h7, h8⟩
theorem class_in {a : AcD} {t : Int} (h : aone a = true) (hb : a.bl = -1) (ht : 0 ≤ t ∧ t ≤ 1099511627776) : classV a t = sclass a.sp t 0 ∧ classE a t = 0 := by
  have h1 : classE a t = 0 := by
    unfold classE
    rw [if_neg (by rw [h]; simp; omega), if_neg (by omega)]
  exact ⟨by unfold classV; rw [if_pos h1], h1⟩

set_option maxRecDepth 100000 in
set_option maxHeartbeats 1600000 in
theorem rosterfits_walk (v : Value) (l : List AcX) (n0 n1 n2 tm : Int) (w : World) (h : Acs w v l) (hn1 : IW n1) (hn2 : IW n2) (htm : IW tm) :
    Calls Try.prog 6 #[v, .agg #[.int .i64 n0, .int .i64 n1, .int .i64 n2], .int .i64 tm] w fun e w' => e = .returned (.bool true) ∧ Below w.heap.size w w' := by
  obtain ⟨n, hn⟩ : ∃ n, l.length = n := ⟨_, rfl⟩
  obtain ⟨q, hq⟩ : ∃ q, w.heap.size = q := ⟨_, rfl⟩
  obtain ⟨W, hW⟩ : ∃ W, w.alloc (.cells #[.int .i64 n0, .int .i64 n1, .int .i64 n2] 39) = W := ⟨_, rfl⟩
  have hb0 : Below w.heap.size w W := by rw [← hW]; exact (Below.refl _ _).alloc (Nat.le_refl _) _
  have hr0 : W.heap[q]? = some (.cells #[.int .i64 n0, .int .i64 n1, .int .i64 n2] 39 (0, 0)) := by rw [← hW, ← hq]; exact heap_alloc_new _ _
  have HQX := Lib.hid (fun (V : World) (hV : Below W.heap.size W V) => three_cells ((hV.block q (heap_lt hr0)).trans hr0))
  have hHW := h.below hb0
  have HB0 := Lib.hid hb0
  have HHW := Lib.hid hHW
  obtain ⟨a, c, b, o, rfl, h1, h2, hix, hlt', hcell, -⟩ := hHW.1.open_n layA elA n hn
  have HC := Lib.hid hcell
  have HN := Lib.hid hn
  have HLT := Lib.hid hlt'
  have HIX := Lib.hid hix
  have HN1 := Lib.hid hn1
  have HN2 := Lib.hid hn2
  have HTM := Lib.hid htm
  have CA := Lib.hid (rtAwake_any W)
  have CF := Lib.hid (fun V (hV : Below W.heap.size W V) => rtFew_any (.slice a n c) l V (HHW.out.below hV))
  have C3 := Lib.hid (fun V (hV : Below W.heap.size W V) (hl : ∀ x ∈ l, x.1.sp.length ≤ 100000) id => rtSet_any (.slice a n c) l id n1 n2 V (HHW.out.below hV) hl hn1 hn2)
  have C7 := Lib.hid (fun V (hV : Below W.heap.size W V) => rtRight_any (.slice a n c) l V (HHW.out.below hV))
  have C8 := Lib.hid (fun (u : Value) (M : List AcX) V (hM : Acs V u M) => rtRight_any u M V hM)
  have C9 := Lib.hid (fun (u : Value) (M : List AcX) (id : Int) V (hM : Acs V u M) (hl : ∀ x ∈ M, x.1.sp.length ≤ 100000) => rtFind_any u M id V hM hl)
  have C11 := Lib.hid (fun (x : AcX) (t : Int) V (h : AcV V x) => rtClass_any x t V h)
  have HPC := Lib.hid (fun k (h : k + 1 ≤ l.length) => Gs.piece (P := Try.prog) layA elA HHW.out.1 k (k + 1) (by omega) h)
  unfold RosPost at C3
  unfold FewPost at CF
  have HQ := Lib.hid hq
  have h2' : n ≤ 9223372036854775807 := by omega
  have TR : Hid (∀ {V1 V2 V3 : World}, Below V1.heap.size V1 V2 → Below V2.heap.size V2 V3 → Below V1.heap.size V1 V3) := fun h1 h2 => h1.trans (h2.mono h1.size)
  obtain ⟨rg, hrg⟩ : ∃ R, aright (accD l) = R := ⟨_, rfl⟩
  rw [hrg] at C7
  have HRG := Lib.hid hrg
  have hrm : n ≠ 0 → n ≤ 30 → ∃ i : Nat, i < n ∧ IntKind.i64.wrap (n0.tmod n) = n0.tmod n ∧ IntKind.i64.wrap (n0.tmod n + n) = n0.tmod n + n ∧ IntKind.i64.wrap ((n0.tmod n + n).tmod n) = i ∧ (n0.tmod n + n).tmod n = i := fun h0 h30 => by
    have t1 : n0.tmod n < n := Int.tmod_lt_of_pos _ (by omega)
    have t2 : -(n : Int) < n0.tmod n := by
      by_cases hs : 0 ≤ n0
      · have := Int.tmod_nonneg (n : Int) hs
        omega
      · have h1 : (-n0).tmod n < n := Int.tmod_lt_of_pos _ (by omega)
        rw [Int.neg_tmod] at h1
        omega
    obtain ⟨z, hz⟩ : ∃ z, n0.tmod n = z := ⟨_, rfl⟩
    rw [hz] at t1 t2 ⊢
    have t3 : (z + n).tmod n = ((z + n).toNat % n : Nat) := by
      rw [Int.tmod_eq_emod_of_nonneg (by omega)]
      rw [Int.natCast_emod, Int.toNat_of_nonneg (by omega)]
    have t4 : (z + n).toNat % n < n := Nat.mod_lt _ (by omega)
    exact ⟨(z + n).toNat % n, t4, by rw [IntKind.wrap_i64]; omega, by rw [IntKind.wrap_i64]; omega, by rw [t3, IntKind.wrap_i64]; omega, t3⟩
  have HRM := Lib.hid hrm
  clear h hn hr0 hb0 hHW hix hlt' hcell hn1 hn2 htm hrg hrm
  go_enter Try.func6, Try.ntmps6
  go_wp2_with fail
  refine CA.out.mono ?_
  rintro e w1 ⟨rfl, hb1⟩
  have HB1 := Lib.hid hb1
  clear hb1 CA
  go_wp2_with fail
  refine (CF.out w1 HB1.out).mono ?_
  rintro e w2 ⟨fb, rfl, hfb, hb2⟩
  have HB2 := Lib.hid (HB1.out.trans (hb2.mono HB1.out.size))
  have HFB := Lib.hid hfb
  have HBF : Hid (Below w.heap.size w w2) := HB0.out.trans (HB2.out.mono HB0.out.size)
  clear hb2 CF hfb
  cases fb with
  | false =>
    go_wp2
    go_ret
    exact ⟨rfl, HBF.out⟩
  | true =>
  have hfew := HFB.out.1 rfl
  have HS60 : Hid (∀ x ∈ l, x.1.sp.length ≤ 60) := fun x hx => hfew.1 x hx
  have HN30 : Hid (n ≤ 30) := by show _ ≤ _; rw [← HN.out]; exact hfew.2
  clear hfew HFB
  by_cases hn0 : n = 0
  · have e1 : ((n : Int) == 0) = true := by simp; omega
    clear hn0
    go_wp2
    go_ret
    exact ⟨rfl, HBF.out⟩
  have e1 : ((n : Int) == 0) = false := by simp; omega
  have e1b : ¬ (n : Int) = 0 := by omega
  cases rg with
  | false =>
    clear hn0
    go_wp2_with fail
    refine (C7.out w2 HB2.out).mono ?_
    rintro e w3 ⟨rfl, hb3⟩
    have HB3 : Hid (Below w.heap.size w w3) := HBF.out.trans (hb3.mono HBF.out.size)
    clear hb3
    go_wp2
    go_ret
    exact ⟨rfl, HB3.out⟩
  | true =>
  obtain ⟨i, hin, hw1, hw2, hw3, hw4⟩ := HRM.out hn0 HN30.out
  have HIN := Lib.hid hin
  obtain ⟨x, hx⟩ : ∃ s, l[i]? = some s := ⟨_, List.getElem?_eq_getElem (by have := HN.out; omega)⟩
  have hixk := fun W => HIX.out W i hin
  have hbl := HLT.out i hin
  have m0 := HC.out i x hx 0 _ rfl
  have m1 := HC.out i x hx 1 _ rfl
  have m2 := HC.out i x hx 2 _ rfl
  rw [Nat.add_zero] at m0
  have HM0 := Lib.hid (fun (V : World) (hV : Below W.heap.size W V) => And.intro ((hV.cell hbl).trans m0) (And.intro ((hV.cell hbl).trans m1) ((hV.cell hbl).trans m2)))
  have hxv := HHW.out.2 x (List.mem_of_getElem? hx)
  have HXV := Lib.hid hxv
  have HX := Lib.hid hx
  have HDX := Lib.hid (accD_get hx)
  have HONE : Hid (aone x.1 = true) := (aright_up HRG.out).2.1 _ (List.mem_of_getElem? HDX.out)
  clear hn0 hbl m0 m1 m2 hxv hx
  go_wp2_with fail
  refine (C7.out w2 HB2.out).mono ?_
  rintro e w3 ⟨rfl, hb3⟩
  have HB3 := Lib.hid (TR.out HB2.out hb3)
  clear hb3 C7
  obtain ⟨z0, z1, z2⟩ := HQX.out w3 HB3.out
  obtain ⟨m0, m1, m2⟩ := HM0.out w3 HB3.out
  obtain ⟨⟨xid, xbl, xsp⟩, ⟨xa, xn, xc⟩⟩ := x
  unfold Sl3.v at m2 HM0
  simp only at m0 m1 m2 HM0
  have hal : Below w3.heap.size w3 (w3.alloc (.cells #[.int .i64 xid, .int .i64 xbl, .slice xa xn xc] 43)) := bw_al (Below.refl _ _) _
  have hr4 : (w3.alloc (.cells #[.int .i64 xid, .int .i64 xbl, .slice xa xn xc] 43)).heap[w3.heap.size]? = some (.cells #[.int .i64 xid, .int .i64 xbl, .slice xa xn xc] 43 (0, 0)) := heap_alloc_new _ _
  obtain ⟨p1, hp1⟩ : ∃ p, w3.heap.size = p := ⟨_, rfl⟩
  obtain ⟨V4, hV4⟩ : ∃ V, w3.alloc (.cells #[.int .i64 xid, .int .i64 xbl, .slice xa xn xc] 43) = V := ⟨_, rfl⟩
  rw [hV4] at hal hr4
  rw [hp1] at hr4
  have HB4 := Lib.hid (TR.out HB3.out hal)
  have HP1W : Hid (W.heap.size ≤ p1) := by show _ ≤ _; rw [← hp1]; exact HB3.out.size
  have HP1L : Hid (p1 < V4.heap.size) := heap_lt hr4
  have HR1 := Lib.hid (fun (V : World) (hV : Below V4.heap.size V4 V) => (hV.block p1 (heap_lt hr4)).trans hr4)
  have CS := Lib.hid (C3.out V4 HB4.out (fun x hx => by have := HS60.out x hx; omega) xid)
  obtain ⟨E, hE⟩ : ∃ E, setR (accD l) xid n1 n2 = E := ⟨_, rfl⟩
  obtain ⟨L, hL⟩ : ∃ L, setL (accD l) xid n1 n2 = L := ⟨_, rfl⟩
  have hix : aix (accD l) xid = i := aix_place (a := ⟨xid, xbl, xsp⟩) HRG.out HDX.out
  have hidr := aone_wf HONE.out
  have hE1 : E = if smay n1 n2 = false then 2 else if 32 < (sset xsp n1 n2).length then 3 else 0 := by
    rw [← hE]
    unfold setR turnR
    rw [HRG.out, hix, HDX.out]
    by_cases hs : smay n1 n2 = false
    · rw [if_pos (.inr (.inr hs)), if_pos hs]
    · rw [if_neg (by simp only [Bool.true_eq_false, false_or, not_or]; exact ⟨fun h => h ⟨hidr.1, hidr.2.1⟩, hs⟩), if_neg hs]
      rfl
  have hL1 : L = if E = 0 then (accD l).set i ⟨xid, xbl, sset xsp n1 n2⟩ else [] := by
    rw [← hL, ← hE]
    unfold setL turnL aput setR
    rw [hix, HDX.out]
    rfl
  rw [hE, hL] at CS
  have HE1 := Lib.hid hE1
  have HL1 := Lib.hid hL1
  have HXID : Hid (1 ≤ xid) := hidr.1
  obtain ⟨y0, y1, y2⟩ := acct_cells hr4
  obtain ⟨z0', z1', z2'⟩ := HQX.out V4 HB4.out
  clear hE hL hix hidr hE1 hL1 hal hr4 C3
  go_wp2_with fail
  refine CS.out.mono ?_
  rintro e w5 ⟨v5, M, rfl, hM, hD, hb5⟩
  have HB45 := Lib.hid hb5
  have HB5 := Lib.hid (TR.out HB4.out hb5)
  have HM := Lib.hid hM
  have HD := Lib.hid hD
  clear y0 y1 y2 z0 z1 z2 z0' z1' z2' m0 m1 m2 hb5 hM hD CS
  obtain ⟨a5, c5, hv5⟩ := HM.out.1.shape
  by_cases hE0 : E = 0
  case neg =>
    have hM0 : M.length = 0 := by have := HD.out; rw [HL1.out, if_neg hE0] at this; rw [← accD_len, this]; rfl
    rw [hM0] at hv5
    subst hv5
    have e2 : (E != 0) = true := by simpa using hE0
    have e3 : (E != 30) = true := by have h1 := HE1.out; simp; intro h2; rw [h2] at h1; split at h1 <;> (try split at h1) <;> omega
    have HBR : Hid (Below w.heap.size w w5) := HB0.out.trans (HB5.out.mono HB0.out.size)
    clear hE0 hM0
    go_wp2
    go_ret
    exact ⟨rfl, HBR.out⟩
  have hsm : smay n1 n2 = true ∧ (sset xsp n1 n2).length ≤ 32 := by
    have h1 := HE1.out
    rw [hE0] at h1
    split at h1
    · omega
    · rename_i hs
      split at h1
      · omega
      · exact ⟨by simpa using hs, by omega⟩
  have hDM : accD M = (accD l).set i ⟨xid, xbl, sset xsp n1 n2⟩ := by rw [HD.out, HL1.out, if_pos hE0]
  have hsr : (0 ≤ n1 ∧ n1 ≤ 1099511627776) ∧ 0 ≤ n2 ∧ n2 ≤ 15 := by
    have := hsm.1
    unfold smay at this
    simpa only [Bool.and_eq_true, decide_eq_true_eq] using this
  have hone2 : aone ⟨xid, xbl, sset xsp n1 n2⟩ = true := sset_one (a := ⟨xid, xbl, xsp⟩) HONE.out hsr.1 hsr.2 hsm.2
  have hil : i < (accD l).length := (List.getElem?_eq_some_iff.1 HDX.out).1
  have hrM : aright (accD M) = true := by rw [hDM]; exact aright_set HRG.out HDX.out rfl hone2
  have hbM : (accD M)[i]? = some ⟨xid, xbl, sset xsp n1 n2⟩ := by rw [hDM, List.getElem?_set_self hil]
  have hnM : M.length = n := by rw [← accD_len, hDM, List.length_set, accD_len]; exact HN.out
  have hMl : ∀ z ∈ M, z.1.sp.length ≤ 100000 := fun z hz => by
    have := (aone_wf ((aright_up hrM).2.1 z.1 (by unfold accD; exact List.mem_map_of_mem hz))).2.2.2.2.2.1
    omega
  have hMo : ∀ z ∈ M, aone z.1 = true := fun z hz => (aright_up hrM).2.1 z.1 (by unfold accD; exact List.mem_map_of_mem hz)
  have hMs : ∀ k z u, k ≠ i → M[k]? = some z → l[k]? = some u → z.1 = u.1 := fun k z u hk hz hu => by
    have h1 := accD_get hz
    rw [hDM, List.getElem?_set_ne (fun e => hk e.symm), accD_get hu] at h1
    exact (Option.some.inj h1).symm
  have HRM2 := Lib.hid hrM
  have HONE2 := Lib.hid hone2
  have HSR := Lib.hid hsr
  have HNM := Lib.hid hnM
  have HMO := Lib.hid hMo
  have HMS := Lib.hid hMs
  rw [hnM] at hv5
  subst hv5
  have CF9 := Lib.hid ((C9.out (.slice a5 n c5) M xid w5 HM.out hMl).mono (fun e w' hp => find_right hrM hbM rfl hp))
  have e2 : (E != 0) = false := by simpa using hE0
  obtain ⟨y0, y1, y2⟩ := acct_cells (HR1.out w5 HB45.out)
  clear hE0 hsm hDM hsr hone2 hil hrM hbM hnM hMl hMo hMs HE1 HL1 HD C9
  go_wp2_with fail
  refine CF9.out.mono ?_
  rintro e w6 ⟨y, rfl, hy1, hyv, hb6⟩
  have HB56 := Lib.hid hb6
  have HB46 := Lib.hid (TR.out HB45.out hb6)
  have HB6 := Lib.hid (TR.out HB5.out hb6)
  have HYV := Lib.hid hyv
  obtain ⟨⟨yid, ybl, ysp⟩, ⟨ya, yn, yc⟩⟩ := y
  simp only at hy1
  cases hy1
  clear y0 y1 y2 hb6 hyv CF9
  have hal : Below w6.heap.size w6 (w6.alloc (.cells #[.int .i64 xid, .int .i64 xbl, .slice ya yn yc] 43)) := bw_al (Below.refl _ _) _
  have hr7 : (w6.alloc (.cells #[.int .i64 xid, .int .i64 xbl, .slice ya yn yc] 43)).heap[w6.heap.size]? = some (.cells #[.int .i64 xid, .int .i64 xbl, .slice ya yn yc] 43 (0, 0)) := heap_alloc_new _ _
  obtain ⟨p2, hp2⟩ : ∃ p, w6.heap.size = p := ⟨_, rfl⟩
  obtain ⟨V7, hV7⟩ : ∃ V, w6.alloc (.cells #[.int .i64 xid, .int .i64 xbl, .slice ya yn yc] 43) = V := ⟨_, rfl⟩
  rw [hV7] at hal hr7
  rw [hp2] at hr7
  have HB47 := Lib.hid (TR.out HB46.out hal)
  have HB57 := Lib.hid (TR.out HB56.out hal)
  have HB67 := Lib.hid hal
  have HB7 := Lib.hid (TR.out HB6.out hal)
  have HP2W : Hid (w6.heap.size ≤ p2) := by show _ ≤ _; omega
  have HR2 := Lib.hid (fun (V : World) (hV : Below V7.heap.size V7 V) => (hV.block p2 (heap_lt hr7)).trans hr7)
  have HR1' := Lib.hid (fun (V : World) (hV : Below V7.heap.size V7 V) => HR1.out V (TR.out HB47.out hV))
  obtain ⟨y0, y1, y2⟩ := acct_cells (HR1.out V7 HB47.out)
  obtain ⟨x0, x1, x2⟩ := acct_cells hr7
  have C10 := Lib.hid (C8.out (.slice a5 n c5) M V7 (HM.out.below HB57.out))
  rw [HRM2.out] at C10
  clear hal hr7 C8
  unfold AcX.agg
  unfold Sl3.v
  go_wp2_with fail
  refine C10.out.mono ?_
  rintro e w8 ⟨rfl, hb8⟩
  have HB78 := Lib.hid hb8
  have HB8 := Lib.hid (TR.out HB7.out hb8)
  have e4 : ∀ z : Int, (z != z) = false := fun z => by simp
  clear y0 y1 y2 x0 x1 x2 hb8 C10
  obtain ⟨y0, y1, y2⟩ := acct_cells (HR1'.out w8 HB78.out)
  obtain ⟨x0, x1, x2⟩ := acct_cells (HR2.out w8 HB78.out)
  obtain ⟨N, hN⟩ : ∃ N, xsp.length = N := ⟨_, rfl⟩
  obtain ⟨sa, sc, sb, so, hse, -, hsc2, six, slt, scell, -⟩ := HXV.out.1.open_n layS elS N hN
  unfold Sl3.v at hse
  simp only [Value.slice.injEq] at hse
  obtain ⟨rfl, rfl, rfl⟩ := hse
  have HSC : Hid (∀ V : World, Below W.heap.size W V → ∀ i s, xsp[i]? = some s → V.cell? ⟨sb, so i, none⟩ = some (.int .i64 s.1) ∧ V.cell? ⟨sb, so i + 1, none⟩ = some (.int .i64 s.2)) := fun V hV i s hi => by
    have hb := slt i (by rw [← hN]; exact (List.getElem?_eq_some_iff.1 hi).1)
    exact ⟨(hV.cell hb).trans (scell i s hi 0 _ rfl), (hV.cell hb).trans (scell i s hi 1 _ rfl)⟩
  have HSX := Lib.hid six
  have HNS := Lib.hid hN
  have hn32 : xn ≤ 32 := by rw [← hN]; exact (aone_wf HONE.out).2.2.2.2.2.1
  clear six slt scell hN
  have HBST : Hid (Below V7.heap.size V7 w8) := HB78.out
  go_wp2_with fail
  go_loopg [12, 103] xn (fun qq ve vi wr => ∃ k : Nat, qq = xn - k ∧ k ≤ xn ∧ vi = .int .i64 k ∧ ve = .int .i64 (emin (xsp.take k) n1) ∧ Hid (Below V7.heap.size V7 wr))
  case atStart => exact ⟨0, by omega, by omega, rfl, rfl, HBST⟩
  case round =>
    obtain ⟨k, rfl, hk, rfl, rfl, HBR⟩ := hrel
    clear x0 x1 x2 y0 y1 y2
    have HBW : Hid (Below W.heap.size W wr) := TR.out HB7.out HBR.out
    by_cases hlt : k < xn
    · have e5 : (k : Int) < xn := by omega
      obtain ⟨s, hs⟩ : ∃ s, xsp[k]? = some s := ⟨_, List.getElem?_eq_getElem (by rw [HNS.out]; exact hlt)⟩
      obtain ⟨s0, s1⟩ := HSC.out wr HBW.out k s hs
      have hixs := fun W => HSX.out W k hlt
      have hnx := emin_next hs n1
      obtain ⟨st, su⟩ := s
      simp only at s0 s1 hnx
      have hal : Below wr.heap.size wr (wr.alloc (.cells #[.int .i64 st, .int .i64 su] 49)) := bw_al (Below.refl _ _) _
      have hr9 : (wr.alloc (.cells #[.int .i64 st, .int .i64 su] 49)).heap[wr.heap.size]? = some (.cells #[.int .i64 st, .int .i64 su] 49 (0, 0)) := heap_alloc_new _ _
      obtain ⟨p3, hp3⟩ : ∃ p, wr.heap.size = p := ⟨_, rfl⟩
      obtain ⟨V9, hV9⟩ : ∃ V, wr.alloc (.cells #[.int .i64 st, .int .i64 su] 49) = V := ⟨_, rfl⟩
      rw [hV9] at hal hr9
      rw [hp3] at hr9
      have HB9 := Lib.hid (TR.out HBR.out hal)
      obtain ⟨z0, z1, z2⟩ := HQX.out V9 (TR.out HB7.out HB9.out)
      obtain ⟨g0, g1⟩ := spell_cells hr9
      have HLTK := Lib.hid hlt
      obtain ⟨ee, hee⟩ : ∃ z, emin (xsp.take k) n1 = z := ⟨_, rfl⟩
      rw [hee] at hnx ⊢
      have HNX := Lib.hid hnx
      clear hal hr9 hs hlt hnx hee
      by_cases hgt : n1 < st
      · by_cases hle : ee ≤ st
        · have hf : Hid (Value.int .i64 ee = .int .i64 (emin (xsp.take (k + 1)) n1)) := by show _ = _; rw [HNX.out, if_pos hgt, show min ee st = ee by omega]
          go_wp2
          go_roundg (xn - (k + 1))
          case rel => exact ⟨k + 1, rfl, by have := HLTK.out; omega, by go_num, hf.out, HB9⟩
          case measure => have := HLTK.out; omega
        · have hf : Hid (Value.int .i64 st = .int .i64 (emin (xsp.take (k + 1)) n1)) := by show _ = _; rw [HNX.out, if_pos hgt, show min ee st = st by omega]
          go_wp2
          go_roundg (xn - (k + 1))
          case rel => exact ⟨k + 1, rfl, by have := HLTK.out; omega, by go_num, hf.out, HB9⟩
          case measure => have := HLTK.out; omega
      · have hf : Hid (Value.int .i64 ee = .int .i64 (emin (xsp.take (k + 1)) n1)) := by show _ = _; rw [HNX.out, if_neg hgt]
        go_wp2
        go_roundg (xn - (k + 1))
        case rel => exact ⟨k + 1, rfl, by have := HLTK.out; omega, by go_num, hf.out, HB9⟩
        case measure => have := HLTK.out; omega
    · obtain rfl : k = xn := by omega
      have e5 : ¬ (k : Int) < k := by omega
      have hT : emin (xsp.take k) n1 = emin xsp n1 := by rw [List.take_of_length_le (by rw [HNS.out]; exact Nat.le_refl _)]
      rw [hT]
      obtain ⟨ee, hee⟩ : ∃ z, emin xsp n1 = z := ⟨_, rfl⟩
      rw [hee]
      have hr1 := HR1'.out wr HBR.out
      have hr2 := HR2.out wr HBR.out
      have hp12 : p1 ≠ p2 := by have := HP1L.out; have := HP2W.out; have := HB46.out.size; omega
      have hp21 : p2 ≠ p1 := fun e => hp12 e.symm
      have f1 := row_free hr1 1
      have f2 := row_free hr2 1
      obtain ⟨x0, x1, x2⟩ := acct_cells hr1
      obtain ⟨y0, y1, y2⟩ := acct_cells hr2
      obtain ⟨Wa, hWa⟩ : ∃ V, wr.setCell ⟨p1, 1, none⟩ (.int .i64 (-1)) = V := ⟨_, rfl⟩
      have o1 : Only (fun k => k = p1) wr Wa := by rw [← hWa]; exact set_only wr p1 1 _
      have hra1 : Wa.heap[p1]? = some (.cells #[.int .i64 xid, .int .i64 (-1), .slice xa k xc] 43 (0, 0)) := by rw [← hWa]; exact row_setCell hr1 1 _
      have hra2 : Wa.heap[p2]? = some (.cells #[.int .i64 xid, .int .i64 xbl, .slice ya yn yc] 43 (0, 0)) := (o1.block p2 (heap_lt hr2) hp21).trans hr2
      have f2a := row_free hra2 1
      obtain ⟨ya0, ya1, ya2⟩ := acct_cells hra2
      obtain ⟨Wb, hWb⟩ : ∃ V, Wa.setCell ⟨p2, 1, none⟩ (.int .i64 (-1)) = V := ⟨_, rfl⟩
      have o2 : Only (fun k => k = p2) Wa Wb := by rw [← hWb]; exact set_only Wa p2 1 _
      have hrb2 : Wb.heap[p2]? = some (.cells #[.int .i64 xid, .int .i64 (-1), .slice ya yn yc] 43 (0, 0)) := by rw [← hWb]; exact row_setCell hra2 1 _
      have hrb1 : Wb.heap[p1]? = some (.cells #[.int .i64 xid, .int .i64 (-1), .slice xa k xc] 43 (0, 0)) := (o2.block p1 (heap_lt hra1) hp12).trans hra1
      have hb1 := o1.below (B := W.heap.size) (fun t ht => by have := HP1W.out; omega) HBW.out.size
      have hb2 := o2.below (B := W.heap.size) (fun t ht => by have := HP2W.out; have := HB6.out.size; omega) (Nat.le_trans HBW.out.size hb1.size)
      have HBB : Hid (Below W.heap.size W Wb) := (HBW.out.trans hb1).trans hb2
      have o6 : Only (fun t => t = p1) w6 Wb := ((Only.of_below (TR.out HB67.out HBR.out)).trans o1).trans' o2 (fun t ht => .inr (by have := HP2W.out; omega))
      have HO6 := Lib.hid (fun V (hV : Below Wb.heap.size Wb V) => o6.trans (Only.of_below hV))
      have h6 := HR1.out w6 HB46.out
      have hns : ∀ z, Value.slice xa k xc ≠ .int .i64 z := fun z h => by cases h
      have FM : Hid (2 ≤ n → ∀ V, Below Wb.heap.size Wb V → Acs V (.slice a5 n c5) M) := fun h V hV => acs_far (HM.out.below HB56.out) (by rw [HNM.out]; exact h) HMO.out h6 HXID.out hns (HO6.out V hV)
      have iw1 : IW (-1) := ⟨by omega, by omega⟩
      have FX : Hid (∀ V, Below Wb.heap.size Wb V → AcV V (⟨xid, -1, xsp⟩, (xa, k, xc))) := fun V hV => by
        have h := HXV.out.below (TR.out HBB.out hV)
        exact ⟨h.1, h.2.1, iw1, h.2.2.2⟩
      have FY : Hid (∀ V, Below Wb.heap.size Wb V → AcV V (⟨xid, -1, sset xsp n1 n2⟩, (ya, yn, yc))) := fun V hV => by
        have h := acv_far HYV.out HONE2.out h6 HXID.out hns (HO6.out V hV)
        exact ⟨h.1, h.2.1, iw1, h.2.2.2⟩
      have FR1 := Lib.hid (fun (V : World) (hV : Below Wb.heap.size Wb V) => acct_cells ((hV.block p1 (heap_lt hrb1)).trans hrb1))
      have FR2 := Lib.hid (fun (V : World) (hV : Below Wb.heap.size Wb V) => acct_cells ((hV.block p2 (heap_lt hrb2)).trans hrb2))
      have FQ := Lib.hid (fun (V : World) (hV : Below Wb.heap.size Wb V) => HQX.out V (TR.out HBB.out hV))
      have he0 : 1 ≤ ee ∧ ee ≤ 1099511627777 := by
        have h1 := HSR.out.1.1
        have h2 := (emin_le (sp := xsp) (f := n1)).1
        rw [hee] at h2
        rcases emin_is (sp := xsp) (f := n1) with h3 | ⟨s, -, h3, h4⟩
        · omega
        · omega
      have hw5 : IntKind.i64.wrap (n1 - 1) = n1 - 1 := by rw [IntKind.wrap_i64]; have := HSR.out.1; omega
      have hw6 : IntKind.i64.wrap (ee - 1) = ee - 1 := by rw [IntKind.wrap_i64]; omega
      obtain ⟨ts, hts⟩ : ∃ ts : List Int, ts = [tm, n1, n1 - 1, ee - 1, ee] := ⟨_, rfl⟩
      obtain ⟨tb, htb⟩ : ∃ g, Wb.heap.size = g := ⟨_, rfl⟩
      obtain ⟨Wc, hWc⟩ : ∃ V, Wb.alloc (.cells #[.int .i64 tm, .int .i64 n1, .int .i64 (n1 - 1), .int .i64 (ee - 1), .int .i64 ee] 3) = V := ⟨_, rfl⟩
      have hg5 : Gs 1 csJ Wc (.slice (some ⟨tb, 0, none⟩) 5 5) ts := by rw [← hWc, ← htb, hts]; exact (gw_lit layJ Wb 3 _ [tm, n1, n1 - 1, ee - 1, ee] 5 rfl (by decide) rfl).gs
      have hal : Below Wb.heap.size Wb Wc := by rw [← hWc]; exact bw_al (Below.refl _ _) _
      have htl : ts.length = 5 := by rw [hts]; rfl
      obtain ⟨ta, tc, tB, tof, hte, -, -, tix, tlt, tcell, -⟩ := hg5.open_n layJ elJ 5 htl
      simp only [Value.slice.injEq] at hte
      obtain ⟨rfl, -, rfl⟩ := hte
      have HTL := Lib.hid htl
      have HTC := Lib.hid tcell
      have HTT := Lib.hid tlt
      have HTX := Lib.hid tix
      have HBC := Lib.hid hal
      have HEE := Lib.hid hee
      obtain ⟨z0, z1, z2⟩ := HQX.out Wb HBB.out
      clear hr1 hr2 o1 o2 hra1 hra2 hrb1 hrb2 hb1 hb2 o6 h6 hns iw1 hg5 hal htl tix tlt tcell hts hT hlt
      go_wp2_with fail
      go_loopg [130] 5 (fun qq vi wr => ∃ k : Nat, qq = 5 - k ∧ k ≤ 5 ∧ vi = .int .i64 k ∧ Hid (Below Wc.heap.size Wc wr))
      case atStart => exact ⟨0, by omega, by omega, rfl, Below.refl _ _⟩
      case round =>
        obtain ⟨j, rfl, hj, rfl, HBR2⟩ := hrel
        clear x0 x1 x2 y0 y1 y2 ya0 ya1 ya2 z0 z1 z2 f1 f2 f2a
        have HBX : Hid (Below Wb.heap.size Wb wr) := TR.out HBC.out HBR2.out
        by_cases hlt : j < 5
        · have e5 : (j : Int) < 5 := by omega
          obtain ⟨t, ht⟩ : ∃ s, ts[j]? = some s := ⟨_, List.getElem?_eq_getElem (by rw [HTL.out]; exact hlt)⟩
          have t0 := TR.out HBC.out HBR2.out
          have c0 := (HBR2.out.cell (HTT.out j hlt)).trans (HTC.out j t ht 0 _ rfl)
          rw [Nat.add_zero] at c0
          have hixt := fun W => HTX.out W j hlt
          obtain ⟨y0, y1, y2⟩ := FR1.out wr HBX.out
          obtain ⟨z0, z1, z2⟩ := FQ.out wr HBX.out
          have HLTJ := Lib.hid hlt
          clear t0 ht hlt
          by_cases ht0 : t < 0
          · go_wp2
            go_roundg (5 - (j + 1))
            case rel => exact ⟨j + 1, rfl, by have := HLTJ.out; omega, by go_num, HBR2⟩
            case measure => have := HLTJ.out; omega
          by_cases htM : 1099511627776 < t
          · go_wp2
            go_roundg (5 - (j + 1))
            case rel => exact ⟨j + 1, rfl, by have := HLTJ.out; omega, by go_num, HBR2⟩
            case measure => have := HLTJ.out; omega
          have hca := class_in (a := ⟨xid, -1, xsp⟩) (t := t) (one_bl HONE.out) rfl ⟨by omega, by omega⟩
          have hcb := class_in (a := ⟨xid, -1, sset xsp n1 n2⟩) (t := t) (one_bl HONE2.out) rfl ⟨by omega, by omega⟩
          have CA := Lib.hid (C11.out (⟨xid, -1, xsp⟩, (xa, k, xc)) t wr (FX.out wr HBX.out))
          have CB := Lib.hid (fun V (hV : Below Wb.heap.size Wb V) => C11.out (⟨xid, -1, sset xsp n1 n2⟩, (ya, yn, yc)) t V (FY.out V hV))
          have hss := sclass_sset (f := n1) (c := n2) (t := t) (aone_up HONE.out) (by omega)
          rw [HEE.out] at hss
          simp only at hca hcb hss
          unfold AcX.agg at CA CB
          unfold Sl3.v at CA CB
          simp only at CA CB
          rw [hca.1, hca.2] at CA
          rw [hcb.1, hcb.2, hss] at CB
          obtain ⟨va, hva⟩ : ∃ z, sclass xsp t 0 = z := ⟨_, rfl⟩
          rw [hva] at CA CB
          clear hca hcb hss hva
          go_wp2_with fail
          refine CA.out.mono ?_
          rintro e w11 ⟨rfl, hb11⟩
          have HB11 := Lib.hid (TR.out HBX.out hb11)
          have HBR3 := Lib.hid (TR.out HBR2.out hb11)
          clear hb11 CA y0 y1 y2 z0 z1 z2 c0
          obtain ⟨x0, x1, x2⟩ := FR2.out w11 HB11.out
          obtain ⟨z0, z1, z2⟩ := FQ.out w11 HB11.out
          have CB' := Lib.hid (CB.out w11 HB11.out)
          by_cases hq1 : n1 ≤ t
          · by_cases hq2 : t < ee
            · rw [if_pos ⟨hq1, hq2⟩] at CB'
              go_wp2_with fail
              refine CB'.out.mono ?_
              rintro e w12 ⟨rfl, hb12⟩
              have HB12 := Lib.hid (TR.out HB11.out hb12)
              have HBR4 := Lib.hid (TR.out HBR3.out hb12)
              clear hb12 CB' CB x0 x1 x2 z0 z1 z2
              obtain ⟨z0, z1, z2⟩ := FQ.out w12 HB12.out
              go_wp2
              go_roundg (5 - (j + 1))
              case rel => exact ⟨j + 1, rfl, by have := HLTJ.out; omega, by go_num, HBR4⟩
              case measure => have := HLTJ.out; omega
            · rw [if_neg (fun e => hq2 e.2)] at CB'
              go_wp2_with fail
              refine CB'.out.mono ?_
              rintro e w12 ⟨rfl, hb12⟩
              have HB12 := Lib.hid (TR.out HB11.out hb12)
              have HBR4 := Lib.hid (TR.out HBR3.out hb12)
              clear hb12 CB' CB x0 x1 x2 z0 z1 z2
              obtain ⟨z0, z1, z2⟩ := FQ.out w12 HB12.out
              go_wp2
              go_roundg (5 - (j + 1))
              case rel => exact ⟨j + 1, rfl, by have := HLTJ.out; omega, by go_num, HBR4⟩
              case measure => have := HLTJ.out; omega
          · rw [if_neg (fun e => hq1 e.1)] at CB'
            go_wp2_with fail
            refine CB'.out.mono ?_
            rintro e w12 ⟨rfl, hb12⟩
            have HB12 := Lib.hid (TR.out HB11.out hb12)
            have HBR4 := Lib.hid (TR.out HBR3.out hb12)
            clear hb12 CB' CB x0 x1 x2 z0 z1 z2
            obtain ⟨z0, z1, z2⟩ := FQ.out w12 HB12.out
            go_wp2
            go_roundg (5 - (j + 1))
            case rel => exact ⟨j + 1, rfl, by have := HLTJ.out; omega, by go_num, HBR4⟩
            case measure => have := HLTJ.out; omega
        · obtain rfl : j = 5 := by omega
          have HBX5 : Hid (Below Wc.heap.size Wc wr) := HBR2
          clear FX FY hj
          go_wp2_with fail
          go_loopg [176] n (fun qq vi wr => ∃ k : Nat, qq = n - k ∧ k ≤ n ∧ vi = .int .i64 k ∧ Hid (Below Wc.heap.size Wc wr))
          case atStart => exact ⟨0, by omega, by omega, rfl, HBX5⟩
          case round =>
            obtain ⟨j, rfl, hj, rfl, HBR3⟩ := hrel
            clear HBX5 HBX HBR2
            have HBX : Hid (Below Wb.heap.size Wb wr) := TR.out HBC.out HBR3.out
            have HBXW : Hid (Below W.heap.size W wr) := TR.out HBB.out HBX.out
            by_cases hlt : j < n
            · have e6 : (j : Int) < n := by omega
              have hjl : j < l.length := by rw [HN.out]; exact hlt
              obtain ⟨u, hu⟩ : ∃ s, l[j]? = some s := ⟨_, List.getElem?_eq_getElem hjl⟩
              have c0 := (HBXW.out.cell (HLT.out j hlt)).trans (HC.out j u hu 0 _ rfl)
              rw [Nat.add_zero] at c0
              have hixj := fun W => HIX.out W j hlt
              obtain ⟨x0, x1, x2⟩ := FR1.out wr HBX.out
              have HLTJ := Lib.hid hlt
              by_cases hji : j = i
              · have hui : u.1.id = xid := by
                  have h1 := HX.out
                  rw [← hji, hu] at h1
                  rw [Option.some.inj h1]
                rw [hui] at c0
                have e7 : (xid != xid) = false := by simp
                clear hu hui hji hlt hjl
                go_wp2_with fail
                go_quiet (fail)
                have HBQ : Hid (Below Wc.heap.size Wc (wr.drewN nq)) := below_drewN HBR3.out nq
                go_wp2
                go_roundg (n - (j + 1))
                case rel => exact ⟨j + 1, rfl, by have := HLTJ.out; omega, by go_num, HBQ⟩
                case measure => have := HLTJ.out; omega
              · have hune : u.1.id ≠ xid := fun he => hji (up_place HRG.out (accD_get hu) HDX.out he)
                have e7 : (u.1.id != xid) = true := by simpa using hune
                have hn2 : 2 ≤ n := by have := HIN.out; omega
                obtain ⟨z, hz⟩ : ∃ s, M[j]? = some s := ⟨_, List.getElem?_eq_getElem (by rw [HNM.out]; exact hlt)⟩
                have hzu := HMS.out j z u hji hz hu
                have hpc : ∀ (L : List AcX) (x : AcX), L[j]? = some x → (L.drop j).take (j + 1 - j) = [x] := fun L x hx => by
                  have hl := (List.getElem?_eq_some_iff.1 hx).1
                  rw [show j + 1 - j = 1 by omega, List.drop_eq_getElem_cons hl]
                  simp only [List.take_succ_cons, List.take_zero]
                  rw [List.getElem?_eq_getElem hl] at hx
                  rw [Option.some.inj hx]
                obtain ⟨Y1, hY1, hYg1⟩ := HPC.out j (by omega)
                obtain ⟨Y2, hY2, hYg2⟩ := Gs.piece (P := Try.prog) layA elA (FM.out hn2 Wb (Below.refl _ _)).1 j (j + 1) (by omega) (by rw [HNM.out]; omega)
                rw [hpc l u hu] at hYg1
                rw [hpc M z hz] at hYg2
                rw [show ((j + 1 : Nat) : Int) = (j : Int) + 1 by omega] at hY1 hY2
                have hw1 : IntKind.i64.wrap ((j : Int) + 1) = (j : Int) + 1 := by rw [IntKind.wrap_i64]; have := HN30.out; omega
                have hbd : Below wr.heap.size wr wr.drew := bw_dr (Below.refl _ _)
                have CS := rrtSame_yes Y1 Y2 [u] [z] wr.drew
                  ⟨hYg1.below (TR.out HBXW.out hbd), fun t ht => (List.mem_singleton.1 ht) ▸ (HHW.out.2 u (List.mem_of_getElem? hu)).below (TR.out HBXW.out hbd)⟩
                  ⟨hYg2.below (TR.out HBX.out hbd), fun t ht => (List.mem_singleton.1 ht) ▸ (FM.out hn2 _ (TR.out HBX.out hbd)).2 z (List.mem_of_getElem? hz)⟩
                  (by simp only [accD, List.map_cons, List.map_nil, hzu])
                have CSS := Lib.hid CS
                have HBD := Lib.hid hbd
                have KS : Hid (∀ V : World, Below wr.heap.size wr V → V.cell? ⟨b, o j, none⟩ = some (.int .i64 u.1.id) ∧ V.cell? ⟨p1, 0, none⟩ = some (.int .i64 xid)) := fun V hV => ⟨(hV.cell (by have := HLT.out j hlt; have := HBXW.out.size; show b < _; omega)).trans c0, (FR1.out V (TR.out HBX.out hV)).1⟩
                obtain ⟨Ya, Yn, Yc, rfl⟩ : ∃ a n c, Y1 = .slice a n c := by obtain ⟨a, c, h⟩ := hYg1.shape; exact ⟨a, _, c, h⟩
                obtain ⟨Za, Zn, Zc, rfl⟩ : ∃ a n c, Y2 = .slice a n c := by obtain ⟨a, c, h⟩ := hYg2.shape; exact ⟨a, _, c, h⟩
                obtain ⟨uid, huid⟩ : ∃ z, u.1.id = z := ⟨_, rfl⟩
                rw [huid] at c0 e7 KS
                clear hu hune hji hlt hjl hz hzu hpc hYg1 hYg2 CS hbd huid x1 x2
                go_wp2_with fail
                go_region_held3 (fun W => W.cell? ⟨b, o j, none⟩ = some (.int .i64 uid) ∧ W.cell? ⟨p1, 0, none⟩ = some (.int .i64 xid)) (first
                  | (with_reducible exact KS.out _ b17)
                  | (with_reducible exact KS.out _ (bw_dr (Below.refl _ _)))) ((go_at_call 26; (with_reducible refine CSS.out.mono ?_); rintro e w17 ⟨rfl, hb17⟩; have b17 : Below wr.heap.size wr w17 := HBD.out.trans (hb17.mono HBD.out.size); have HB17 := Lib.hid (TR.out HBR3.out b17); clear hb17))
                all_goals
                  go_simp
                  go_wp2
                  go_roundg (n - (j + 1))
                  case rel => exact ⟨j + 1, rfl, by have := HLTJ.out; omega, by go_num, HB17⟩
                  case measure => have := HLTJ.out; omega
            · obtain rfl : j = n := by omega
              have e6 : ¬ (j : Int) < j := by omega
              have HBF2 : Hid (Below w.heap.size w wr) := HB0.out.trans (HBXW.out.mono HB0.out.size)
              go_wp2
              go_ret
              exact ⟨rfl, by rw [← HQ.out]; exact HBF2.out⟩
end Go.Proofs.Ytjnbdeopoohnmaa
