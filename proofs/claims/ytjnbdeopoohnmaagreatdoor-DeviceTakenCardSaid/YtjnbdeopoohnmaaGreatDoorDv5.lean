/- Layer 48 (device): the statements' example. -/
import Derived.Test.YtjnbdeopoohnmaaGreatDoorDv4
import Derived.Deep.RegionLaw
import Derived.Deep.RegionHeld3
import Derived.Deep.DeepCutAuto
import Derived.Deep.CutBlock
import Derived.Lib.QuietBelow
set_option linter.unusedSimpArgs false
namespace Go.Proofs.YtjnbdeopoohnmaaGreatDoor
open Go.RowKit Go.Sort

def zero32 : List UInt8 := List.replicate 32 0
noncomputable def tok0 : List UInt8 := fframe 2 (tbody zero32 ⟨1, 1, 0, 0, 9, 1⟩)
theorem Bs.ne_ring0 {w : World} {v : Value} {l : List UInt8} {g T : Nat} {z : Int} {a : Option Addr} {n c : Nat} (h : Bs w v l) (hg : w.heap[g]? = some (.cells #[.int .i64 z, .slice a n c] T (0, 0))) (hl : l ≠ []) : v.ownBlock ≠ some g := by
  obtain ⟨h1, a, c, rfl, h2, h3, h4, h5⟩ := h
  rcases h5 with h5 | ⟨b, off, rfl, hlt, h6⟩
  · exact absurd (List.eq_nil_of_length_eq_zero h5) hl
  · intro e
    simp only [Value.ownBlock, Option.some.injEq] at e
    subst e
    obtain ⟨x, r, rfl⟩ : ∃ x r, l = x :: r := by cases l with | nil => exact absurd rfl hl | cons x r => exact ⟨x, r, rfl⟩
    have h7 := h6 0 (bv x) (by simp)
    simp only [World.cell?, hg] at h7
    unfold bv at h7
    rcases (show off + 0 = 0 ∨ off + 0 = 1 ∨ 2 ≤ off + 0 by omega) with e | e | e
    all_goals simp_all
theorem vput_9 (n : Nat) (h : n < 128) : (vput n).length = 1 := by rw [vput_small (by omega)]; rfl
theorem tok0_len : tok0.length ≤ 200 := by
  unfold tok0
  rw [fframe_len]
  have h1 := tbody_len (t := ⟨1, 1, 0, 0, 9, 1⟩) (by unfold Tok.Wf W64; decide) zero32
  have h2 := vput_len10 (tbody zero32 ⟨1, 1, 0, 0, 9, 1⟩).length (by omega)
  omega
theorem tissue0 (ka : Option Addr) (kc : Nat) : tissue 1 [(⟨1, ka, kc, zero32⟩ : RK)] ⟨1, 1, 0, 0, 9, 0⟩ = (tok0, 0) := by
  have hrp : RP 1 [(⟨1, ka, kc, zero32⟩ : RK)] := rp_one (by decide) (by decide) _ _ _ (by unfold zero32; simp)
  have hkf : kf 1 [(⟨1, ka, kc, zero32⟩ : RK)] = some zero32 := by simp [kf]
  unfold tissue
  rw [if_pos ⟨kok_yes hrp, by show tmay ⟨1, 1, 0, 0, 9, 1⟩ = true; decide⟩]
  show (fframe 2 (tbody ((kf 1 [(⟨1, ka, kc, zero32⟩ : RK)]).getD []) _), 0) = _
  rw [hkf]
  rfl
theorem topen0 : topen tok0 = (⟨1, 1, 0, 0, 9, 1⟩, ttag zero32 ⟨1, 1, 0, 0, 9, 1⟩, 0) := topen_issue (by decide) zero32
theorem cdev0 (ka : Option Addr) (kc : Nat) : cdev [(⟨1, ka, kc, zero32⟩ : RK)] tok0 = (hderive zero32 devS.data.toList tok0, 0) := by
  have hkf : kf 1 [(⟨1, ka, kc, zero32⟩ : RK)] = some zero32 := by simp [kf]
  rw [cdev_some topen0 hkf, if_neg (by simp)]
theorem dright0 : DRight ⟨tok0, hderive zero32 devS.data.toList tok0, []⟩ := ⟨by rw [topen0], htag_len _ _, fun i s hi => by simp at hi, by simp⟩
theorem tbytes0 : (tbytes []).length = 8 := by
  unfold tbytes
  rw [fframe_len]
  simp only [List.length_nil, sputs, List.append_nil, List.length_append]
  rw [vput_9 0 (by omega), vput_9 1 (by omega)]

def SomePost (w : World) (e : Ending) (w' : World) : Prop :=
  ∃ v y ka kc, e = .returned (.tuple #[.agg #[.int .i64 1, v], y]) ∧ Ks w' v [(⟨1, ka, kc, zero32⟩ : RK)] ∧ Bs w' y tok0 ∧ Below w.heap.size w w'
set_option maxRecDepth 100000 in
set_option maxHeartbeats 1600000 in
theorem dvsome_any (w : World) : Calls Tryz.prog 25 #[] w (SomePost w) := by
  unfold SomePost
  obtain ⟨r, hr⟩ : ∃ r, w.heap.size = r := ⟨_, rfl⟩
  obtain ⟨W0, hW0⟩ : ∃ W, w.alloc (.cells #[.int .i64 0, .slice none 0 0] 24) = W := ⟨_, rfl⟩
  have hb0 : Below w.heap.size w W0 := by rw [← hW0]; exact (Below.refl _ _).alloc (Nat.le_refl _) _
  have hr0 : W0.heap[r]? = some (.cells #[.int .i64 0, .slice none 0 0] 24 (0, 0)) := by rw [← hW0, ← hr]; exact heap_alloc_new _ _
  have HB0 := Lib.hid hb0
  have HR0 := Lib.hid (fun (V : World) (hV : Below W0.heap.size W0 V) => (hV.block r (heap_lt hr0)).trans hr0)
  have HQ := Lib.hid hr
  have HW0 := Lib.hid hW0
  clear hb0 hr0 hW0 hr
  go_enter Tryz.func25, Tryz.ntmps25
  go_upto_region 1 with fail
  rw [HW0.out, HQ.out]
  go_upto_region 2 with (first
    | (with_reducible refine wpList_make_bytes W0 elB 32 (by decide) (by decide) rfl _ _ rfl _ _ rfl rfl ?_; intro v1 w1 ho1 hb1; have HO1 := Lib.hid ho1; have HB1 := Lib.hid hb1; obtain ⟨ka, kc, hv1⟩ := ho1.shape; rw [show (List.replicate 32 (0 : UInt8)).length = 32 by simp] at hv1; subst hv1; clear ho1 hb1)
    | (with_reducible refine wpList_store_new rfl _ _ rfl rfl rfl (by kernel_rfl) (by simp) (by simp [Value.oneCell']) ?_))
  obtain ⟨hbA, hrK, hrR⟩ := al2 w1 (.cells #[.int .i64 1, .slice ka 32 kc] 34) (.cells #[.int .i64 1, .slice (some ⟨w1.heap.size, 0, none⟩) 1 1] 24)
  have hks0 : Gs 2 RK.cells (w1.alloc (.cells #[.int .i64 1, .slice ka 32 kc] 34)) (.slice (some ⟨w1.heap.size, 0, none⟩) 1 1) [(⟨1, ka, kc, zero32⟩ : RK)] := (gw_lit layK w1 34 #[.int .i64 1, .slice ka 32 kc] [(⟨1, ka, kc, zero32⟩ : RK)] 1 rfl (by decide) rfl).gs
  have hks1 := hks0.below (w' := (w1.alloc (.cells #[.int .i64 1, .slice ka 32 kc] 34)).alloc (.cells #[.int .i64 1, .slice (some ⟨w1.heap.size, 0, none⟩) 1 1] 24)) ((Below.refl _ _).alloc (Nat.le_refl _) _)
  obtain ⟨W3, hW3⟩ : ∃ W, (w1.alloc (.cells #[.int .i64 1, .slice ka 32 kc] 34)).alloc (.cells #[.int .i64 1, .slice (some ⟨w1.heap.size, 0, none⟩) 1 1] 24) = W := ⟨_, rfl⟩
  rw [hW3] at hbA hrK hrR hks1
  obtain ⟨g, hg⟩ : ∃ g, w1.heap.size = g := ⟨_, rfl⟩
  rw [hg] at hrK hrR hks1
  have HKS : Hid (Ks W3 (.slice (some ⟨g, 0, none⟩) 1 1) [(⟨1, ka, kc, zero32⟩ : RK)]) := ⟨hks1, fun k hk => by rw [List.mem_singleton.1 hk]; exact HO1.out.bs.below hbA, fun k hk => by rw [List.mem_singleton.1 hk]; exact ⟨by show (_ : Int) ≤ 1; omega, by show (1 : Int) ≤ _; omega⟩⟩
  have HGR : Hid (r < g) := by
    have h1 := heap_lt (HR0.out W0 (Below.refl _ _))
    have h2 := HB1.out.size
    show _ < _
    omega
  have HKR : Hid (∀ k, (Value.slice ka 32 kc).ownBlock = some k → k ≠ r) := fun k hk e => by
    have h1 := (HO1.out.lt k hk).1
    have h2 := heap_lt (HR0.out W0 (Below.refl _ _))
    omega
  have CI := Lib.hid (uissue_any 1 (.slice (some ⟨g, 0, none⟩) 1 1) _ ⟨1, 1, 0, 0, 9, 0⟩ W3 HKS.out (by decide) (by unfold Tok.Wf W64; decide))
  unfold IssuePost at CI
  rw [tissue0] at CI
  unfold Tok.row at CI
  simp only at CI
  have HB3 := Lib.hid (HB1.out.trans (hbA.mono HB1.out.size))
  have HBW3 := Lib.hid (HB0.out.trans (HB3.out.mono HB0.out.size))
  have HRR := Lib.hid (fun (V : World) (hV : Below W3.heap.size W3 V) => two_at ((hV.block (g + 1) (heap_lt hrR)).trans hrR))
  obtain ⟨z0, z1⟩ := HRR.out W3 (Below.refl _ _)
  rw [hW3]
  clear hbA hrK hrR hks0 hks1 hW3 HO1 HB1
  rw [hg]
  clear hg
  go_wp2_with fail
  refine CI.out.mono ?_
  rintro e w4 ⟨v4, rfl, hv4, hb4⟩
  have HV4 := Lib.hid hv4
  have HK4 := Lib.hid (HKS.out.below hb4)
  have HB4 := Lib.hid (HB3.out.trans (hb4.mono HB3.out.size))
  have HBW4 := Lib.hid (HBW3.out.trans (hb4.mono HBW3.out.size))
  obtain ⟨va, vc, rfl⟩ := hv4.shape
  obtain ⟨vn, hvn⟩ : ∃ n, tok0.length = n := ⟨_, rfl⟩
  rw [hvn] at HV4 ⊢
  have hz := HRR.out w4 hb4
  clear hv4 hb4 hvn CI z0 z1
  obtain ⟨z0, z1⟩ := hz
  have hrow := HR0.out w4 HB4.out
  obtain ⟨c0, c1⟩ := two_at hrow
  have f0 := row_free hrow 0
  have f1 := row_free hrow 1
  have h0 : (w4.setCell ⟨r, 0, none⟩ (.int .i64 1)).heap[r]? = some (.cells #[.int .i64 1, .slice none 0 0] 24 (0, 0)) := row_setCell hrow 0 _
  have h1 : ((w4.setCell ⟨r, 0, none⟩ (.int .i64 1)).setCell ⟨r, 1, none⟩ (.slice (some ⟨g, 0, none⟩) 1 1)).heap[r]? = some (.cells #[.int .i64 1, .slice (some ⟨g, 0, none⟩) 1 1] 24 (0, 0)) := row_setCell h0 1 _
  have ho := (set_only w4 r 0 (.int .i64 1)).trans (set_only (w4.setCell ⟨r, 0, none⟩ (.int .i64 1)) r 1 (.slice (some ⟨g, 0, none⟩) 1 1))
  have hrlt : r < W0.heap.size := heap_lt (HR0.out W0 (Below.refl _ _))
  have HOFF : Hid (∀ V, Only (fun k => k = r) w4 V → Ks V (.slice (some ⟨g, 0, none⟩) 1 1) [(⟨1, ka, kc, zero32⟩ : RK)]) := fun V hV =>
    HK4.out.only ⟨fun k hk e => by have := HGR.out; simp [Value.ownBlock] at hk; omega, fun x hx k hk e => by rw [List.mem_singleton.1 hx] at hk; exact HKR.out k hk e⟩ hV
  have HFK : Hid (Ks ((w4.setCell ⟨r, 0, none⟩ (.int .i64 1)).setCell ⟨r, 1, none⟩ (.slice (some ⟨g, 0, none⟩) 1 1)) (.slice (some ⟨g, 0, none⟩) 1 1) [(⟨1, ka, kc, zero32⟩ : RK)]) := HOFF.out _ ho
  have HFB := Lib.hid (HBW4.out.trans (ho.below (B := w.heap.size) (fun k hk => by have := HQ.out; omega) HBW4.out.size))
  have HFV := Lib.hid (HV4.out.only' ho fun hl k hk e => Bs.ne_ring0 HV4.out hrow hl (by rw [hk, e]))
  have HF1 := Lib.hid h1
  clear hrow h0 h1 ho hrlt
  go_wp2
  obtain ⟨Z, hZ⟩ : ∃ Z, (w4.setCell ⟨r, 0, none⟩ (.int .i64 1)).setCell ⟨r, 1, none⟩ (.slice (some ⟨g, 0, none⟩) 1 1) = Z := ⟨_, rfl⟩
  rw [hZ] at HFK HFB HFV HF1 ⊢
  obtain ⟨d0, d1⟩ := two_at HF1.out
  refine bodyPost_ret (v := .tuple #[.agg #[.int .i64 1, .slice (some ⟨g, 0, none⟩) 1 1], .slice va vn vc]) ?_ rfl ⟨_, _, ka, kc, rfl, HFK.out, HFV.out, HFB.out⟩
  simp [results, Tryz.results25, go_sem, d0, d1]

set_option maxRecDepth 100000 in
set_option maxHeartbeats 1600000 in
theorem dvawake_any (w : World) (hT : Tabbed w) : Calls Tryz.prog 5 #[] w fun e w' => e = .returned (.bool true) ∧ Below w.heap.size w w' := by
  have C0 := Lib.hid (dvsome_any w)
  unfold SomePost at C0
  have HT := Lib.hid hT
  clear hT
  go_enter Tryz.func5, Tryz.ntmps5
  go_wp2_with fail
  refine C0.out.mono ?_
  rintro e w1 ⟨v, y, ka, kc, rfl, hk1, hy1, hb1⟩
  obtain ⟨a, c, hvs⟩ := hk1.g.shape
  rw [show (List.length [(⟨1, ka, kc, zero32⟩ : RK)]) = 1 from rfl] at hvs
  subst hvs
  obtain ⟨ya, yc, rfl⟩ := hy1.shape
  obtain ⟨yn, hyn⟩ : ∃ n, tok0.length = n := ⟨_, rfl⟩
  rw [hyn] at hy1 ⊢
  have hal := (Below.refl w1.heap.size w1).alloc (Nat.le_refl _) (.cells #[.int .i64 1, .slice a 1 c] 24)
  have hrow := heap_alloc_new w1 (.cells #[.int .i64 1, .slice a 1 c] 24)
  obtain ⟨W, hW⟩ : ∃ W, w1.alloc (.cells #[.int .i64 1, .slice a 1 c] 24) = W := ⟨_, rfl⟩
  obtain ⟨g, hg⟩ : ∃ g, w1.heap.size = g := ⟨_, rfl⟩
  rw [hW] at hal hrow
  rw [hg] at hrow
  have HBW := Lib.hid (hb1.trans (hal.mono hb1.size))
  have CN := Lib.hid (dvnew_any 1 (.slice a 1 c) _ (.slice ya yn yc) tok0 W (hk1.below hal) (hy1.below hal) (by have := tok0_len; omega) (fun k hk => by rw [List.mem_singleton.1 hk]; show zero32.length ≤ _; unfold zero32; simp) (HT.out.below HBW.out))
  unfold DvNewPost at CN
  rw [cdev0, show newD [(⟨1, ka, kc, zero32⟩ : RK)] tok0 = ⟨tok0, hderive zero32 devS.data.toList tok0, []⟩ by unfold newD; rw [cdev0]; rfl] at CN
  obtain ⟨D, hD⟩ : ∃ D : DvD, ⟨tok0, hderive zero32 devS.data.toList tok0, []⟩ = D := ⟨_, rfl⟩
  have hdr : DRight D := by rw [← hD]; exact dright0
  have hds : D.sm = [] := by rw [← hD]
  have hdt : D.tk.length ≤ 1048576 := by rw [← hD]; show tok0.length ≤ _; have := tok0_len; omega
  rw [hD] at CN
  obtain ⟨z0, z1⟩ := two_at hrow
  have HW := Lib.hid hW
  have HG := Lib.hid hg
  have HDR := Lib.hid hdr
  have HDS := Lib.hid hds
  have HDT := Lib.hid hdt
  clear hk1 hy1 hb1 hal hrow hyn hW hg hD hdr hds hdt C0
  go_upto_region 2 with (with_reducible refine wpList_store_new rfl _ _ rfl rfl rfl (by kernel_rfl) (by simp) (by simp [Value.oneCell']) ?_)
  rw [HW.out, HG.out]
  go_wp2_with fail
  refine CN.out.mono ?_
  rintro e w2 ⟨vt, vk, vs, rfl, hd2, hb2⟩
  have HB2 := Lib.hid (HBW.out.trans (hb2.mono HBW.out.size))
  obtain ⟨ta, tc, hts⟩ := hd2.tk.shape
  obtain ⟨ka', kc', hks⟩ := hd2.ky.shape
  obtain ⟨sa, sc, hss⟩ := hd2.sm.shape
  obtain ⟨tn, htn⟩ : ∃ n, D.tk.length = n := ⟨_, rfl⟩
  obtain ⟨kn, hkn⟩ : ∃ n, D.ky.length = n := ⟨_, rfl⟩
  obtain ⟨sn, hsn⟩ : ∃ n, D.sm.length = n := ⟨_, rfl⟩
  rw [htn] at hts
  rw [hkn] at hks
  rw [hsn] at hss
  subst hts hks hss
  have hal := (Below.refl w2.heap.size w2).alloc (Nat.le_refl _) (.cells #[.slice ta tn tc, .slice ka' kn kc', .slice sa sn sc] 28)
  have hrow := heap_alloc_new w2 (.cells #[.slice ta tn tc, .slice ka' kn kc', .slice sa sn sc] 28)
  obtain ⟨W2, hW2⟩ : ∃ W, w2.alloc (.cells #[.slice ta tn tc, .slice ka' kn kc', .slice sa sn sc] 28) = W := ⟨_, rfl⟩
  obtain ⟨g2, hg2⟩ : ∃ g, w2.heap.size = g := ⟨_, rfl⟩
  rw [hW2] at hal hrow
  rw [hg2] at hrow
  have CU := Lib.hid (dvupload_any _ _ _ D W2 (hd2.below hal) HDT.out)
  unfold UpPost at CU
  rw [show upO D = ⟨3, 0, 0, 0, D.tk, tbytes [], []⟩ by unfold upO; rw [pB_yes HDR.out, HDS.out]; rfl, show upE D = 0 by unfold upE; rw [pB_yes HDR.out]; rfl] at CU
  have HBW2 := Lib.hid (HB2.out.trans (hal.mono HB2.out.size))
  obtain ⟨x0, x1, x2⟩ := three_at hrow
  have HW2 := Lib.hid hW2
  have HG2 := Lib.hid hg2
  clear hd2 hb2 hal hrow hW2 hg2 htn hkn hsn z0 z1 CN
  go_upto_region 3 with (with_reducible refine wpList_store_new rfl _ _ rfl rfl rfl (by kernel_rfl) (by simp) (by simp [Value.oneCell']) ?_)
  rw [HW2.out, HG2.out]
  go_wp2_with fail
  refine CU.out.mono ?_
  rintro e w3 ⟨va, vb, vc, rfl, ⟨hva, hvb, hvc⟩, hb3⟩
  unfold OpD.agg
  simp only
  have hvb' : Bs w3 vb (tbytes []) := hvb
  obtain ⟨aa, ac, rfl⟩ := hva.shape
  obtain ⟨ba, bc, hbs⟩ := hvb'.shape
  rw [tbytes0] at hbs
  subst hbs
  obtain ⟨ca, cc, rfl⟩ := hvc.shape
  obtain ⟨an, han⟩ : ∃ n, D.tk.length = n := ⟨_, rfl⟩
  rw [show (⟨3, 0, 0, 0, D.tk, tbytes [], []⟩ : OpD).a.length = an from han, show (⟨3, 0, 0, 0, D.tk, tbytes [], []⟩ : OpD).c.length = 0 from rfl]
  have hrow := heap_alloc_new w3 (.cells #[.int .i64 3, .int .i64 0, .int .i64 0, .int .i64 0, .slice aa an ac, .slice ba 8 bc, .slice ca 0 cc] 43)
  have HBF := Lib.hid ((HBW2.out.trans (hb3.mono HBW2.out.size)).alloc (Nat.le_trans HBW2.out.size hb3.size) (.cells #[.int .i64 3, .int .i64 0, .int .i64 0, .int .i64 0, .slice aa an ac, .slice ba 8 bc, .slice ca 0 cc] 43))
  obtain ⟨W4, hW4⟩ : ∃ W, w3.alloc (.cells #[.int .i64 3, .int .i64 0, .int .i64 0, .int .i64 0, .slice aa an ac, .slice ba 8 bc, .slice ca 0 cc] 43) = W := ⟨_, rfl⟩
  obtain ⟨g4, hg4⟩ : ∃ g, w3.heap.size = g := ⟨_, rfl⟩
  rw [hW4] at hrow HBF
  rw [hg4] at hrow
  have HW4 := Lib.hid hW4
  have HG4 := Lib.hid hg4
  obtain ⟨o0, o1, o2, o3, o4, o5, o6⟩ := seven_at hrow
  clear hva hvb hvb' hvc hb3 han hrow hW4 hg4 x0 x1 x2 CU
  go_upto_region 4 with (with_reducible refine wpList_store_new rfl _ _ rfl rfl rfl (by kernel_rfl) (by simp) (by simp [Value.oneCell']) ?_)
  rw [HW4.out, HG4.out]
  go_wp2
  go_ret
  exact ⟨rfl, HBF.out⟩
end Go.Proofs.YtjnbdeopoohnmaaGreatDoor
