/- Layer 11 (challenge): the reference's Device; few. -/
import Derived.Test.YtmhgdddnjnichaaDoorCh2
import Derived.Deep.RegionHeld3
import Derived.Deep.CutBlock
set_option linter.unusedSimpArgs false
namespace Go.Proofs.YtmhgdddnjnichaaDoor
open Go.RowKit Go.Sort

set_option maxRecDepth 100000 in
set_option maxHeartbeats 6400000 in
theorem vdevice_any (keep : Int) (v : Value) (l : List RK) (y : Value) (b : List UInt8) (w : World) (h : Ks w v l) (hy : Bs w y b) (hl : b.length ≤ 1048576) (hsm : ∀ k ∈ l, k.b.length ≤ 1000000) :
    Calls Tryd.prog 54 #[.agg #[.int .i64 keep, v], y] w (DevPost l b w) := by
  obtain ⟨va, vc, hvs⟩ := h.g.shape
  subst hvs
  obtain ⟨n, hn⟩ : ∃ n, l.length = n := ⟨_, rfl⟩
  rw [hn] at h ⊢
  obtain ⟨ya, yc, hs⟩ := hy.shape
  subst hs
  have H := Lib.hid h
  have HS := Lib.hid hsm
  have HL := Lib.hid hl
  obtain ⟨w1, hw1⟩ : ∃ W, w.alloc (.cells #[.int .i64 keep, .slice va n vc] 39) = W := ⟨_, rfl⟩
  have hb1 : Below w.heap.size w w1 := by rw [← hw1]; exact bel_al (Below.refl _ _) _
  have hr1 : w1.heap[w.heap.size]? = some (.cells #[.int .i64 keep, .slice va n vc] 39 (0, 0)) := by rw [← hw1]; exact heap_alloc_new _ _
  obtain ⟨g, hg⟩ : ∃ g, w.heap.size = g := ⟨_, rfl⟩
  have HQ2 : Hid (w.heap.size = g) := hg
  rw [hg] at hr1
  obtain ⟨t, tag, er, hto⟩ : ∃ t tag er, topen b = (t, tag, er) := ⟨_, _, _, rfl⟩
  have hop := uopen_any (.slice ya b.length yc) b w1 (hy.below hb1) hl
  unfold OpenPost at hop
  rw [hto] at hop
  simp only at hop
  unfold Tok.row at hop
  have HOP := Lib.hid hop
  have HTO := Lib.hid hto
  have HB1 := Lib.hid hb1
  have HR1 := Lib.hid hr1
  have HWW := Lib.hid hw1
  have HY := Lib.hid hy
  obtain ⟨yn, hyn⟩ : ∃ m, b.length = m := ⟨_, rfl⟩
  rw [hyn] at HY HOP ⊢
  have HYN := Lib.hid hyn
  clear h hsm hy hb1 hr1 hw1 hn hg hto hop hl hyn
  go_enter Tryd.func54, Tryd.ntmps54
  go_upto_region 1 with fail
  rw [HWW.out, HQ2.out]
  go_upto_region 2 with (first
    | (go_at_call 48; refine HOP.out.mono ?_; rintro e w2 ⟨tv, rfl, htv, hb2⟩; obtain ⟨ta, tc, hts⟩ := htv.shape; subst hts; have HTV := Lib.hid htv; have HB2 := Lib.hid (bel_tr HB1.out hb2); have HR2 := Lib.hid ((hb2.block _ (heap_lt HR1.out)).trans HR1.out); clear htv hb2)
    | (with_reducible refine wpList_store_new rfl _ _ rfl rfl rfl (by kernel_rfl) (by simp) (by simp [Value.oneCell']) ?_))
  have hnb := (Below.refl w2.heap.size w2).alloc (Nat.le_refl _) (.cells #[.int .i64 t.trip, .int .i64 t.acct, .int .i64 t.stop, .int .i64 t.iss, .int .i64 t.til, .int .i64 t.ep] 57)
  have hta := tat_new w2 t
  unfold Tok.row at hta
  obtain ⟨W, hW⟩ : ∃ X, w2.alloc (.cells #[.int .i64 t.trip, .int .i64 t.acct, .int .i64 t.stop, .int .i64 t.iss, .int .i64 t.til, .int .i64 t.ep] 57) = X := ⟨_, rfl⟩
  obtain ⟨p, hp⟩ : ∃ p, w2.heap.size = p := ⟨_, rfl⟩
  rw [hW] at hnb
  rw [hW, hp] at hta ⊢
  have HB4 := Lib.hid (bel_tr HB2.out hnb)
  have HR4 := Lib.hid ((hnb.block _ (heap_lt HR2.out)).trans HR2.out)
  have HTV4 := Lib.hid (HTV.out.below hnb)
  have HTA := Lib.hid hta
  obtain ⟨m, hm⟩ : ∃ m, tag.length = m := ⟨_, rfl⟩
  rw [hm] at HTV4 ⊢
  clear hnb hta hW hp hm HB2 HR2 HTV HOP HB1 HR1 HWW
  by_cases he : er = 0
  · subst he
    have HWF := Lib.hid (topen_wf HTO.out)
    obtain ⟨c0, c1, c2, c3, c4, c5⟩ := HTA.out.cells
    have r0 : W.cell? ⟨g, 0, none⟩ = some (.int .i64 keep) := cell_of_row W _ _ _ _ _ HR4.out
    have r1 : W.cell? ⟨g, 1, none⟩ = some (.slice va n vc) := cell_of_row W _ _ _ _ _ HR4.out
    have hfind := rrfind_any keep _ l t.ep _ (H.out.below HB4.out)
    obtain ⟨ko, hko⟩ : ∃ o, kf t.ep l = o := ⟨_, rfl⟩
    unfold FindPost at hfind
    rw [hko] at hfind
    have HFIND := Lib.hid hfind
    have HKO := Lib.hid hko
    clear hfind hko
    rcases ko with _ | k
    · simp only [Option.isSome_none, Option.getD_none] at HFIND
      have HTF : Hid (cdev l b = ([], 20)) := Lib.hid (cdev_key HTO.out HKO.out)
      go_wp2_with (go_at_call 35; refine HFIND.out.mono ?_; rintro e w5 ⟨kv, rfl, hkv, hb5⟩; have HB5 := Lib.hid (bel_tr HB4.out hb5); clear hkv hb5)
      go_ret2
      unfold DevPost
      rw [HTF.out]
      exact ⟨_, rfl, (Ob.nil _ 0 5).bs, HB5.out⟩
    · simp only [Option.isSome_some, Option.getD_some] at HFIND
      have hkl : Hid (k.length < 4294967296) := by
        obtain ⟨kk, hk, hkb⟩ := kf_mem HKO.out
        have := HS.out kk hk
        show _ < _
        rw [← hkb]; omega
      go_upto_region 7 with (go_at_call 35; refine HFIND.out.mono ?_; rintro e w5 ⟨kv, rfl, hkv, hb5⟩; have HKV := Lib.hid hkv; have HB5 := Lib.hid (bel_tr HB4.out hb5); have HTA5 := Lib.hid (HTA.out.below hb5); have HTV5 := Lib.hid (HTV4.out.below hb5); clear hkv hb5)
      clear c0 c1 c2 c3 c4 c5 r0 r1 HFIND HR4 HTA HTV4 HB4
      obtain ⟨c0, c1, c2, c3, c4, c5⟩ := HTA5.out.cells
      obtain ⟨bs, hbs⟩ : ∃ x, (tag == ttag k t) = x := ⟨_, rfl⟩
      have HBS := Lib.hid hbs
      have TG : Hid (∀ X, Below w5.heap.size w5 X → Calls Tryd.prog 80 #[kv, .agg #[.int .i64 t.trip, .int .i64 t.acct, .int .i64 t.stop, .int .i64 t.iss, .int .i64 t.til, .int .i64 t.ep]] X fun e w' => ∃ v, e = .returned v ∧ Ob w' X.heap.size 5 v (ttag k t) ∧ Below X.heap.size X w') := fun X hX => utag_any _ k t HWF.out X (HKV.out.below hX) hkl.out
      have TSM : Hid (∀ X (a : Value), Below w5.heap.size w5 X → Bs X a (ttag k t) → Calls Tryd.prog 17 #[a, .slice ta m tc] X fun e w' => e = .returned (.bool bs) ∧ Below X.heap.size X w') := fun X a hX ha => by
        have := same_any a _ (ttag k t) tag X ha (HTV5.out.below hX)
        rw [BEq.comm, hbs] at this
        exact this
      clear hbs
      rcases bs with _ | _
      · have HTF : Hid (cdev l b = ([], 21)) := Lib.hid (by rw [cdev_some HTO.out HKO.out, if_pos HBS.out])
        go_wp2_with (first
          | (go_at_call 80; refine (TG.out _ (Below.refl _ _)).mono ?_; rintro e w11 ⟨v11, rfl, ho11, hb11⟩; have HO11 := Lib.hid ho11; have HB11 := Lib.hid hb11; clear ho11 hb11)
          | (go_at_call 17; refine (TSM.out _ _ HB11.out HO11.out.bs).mono ?_; rintro e w12 ⟨rfl, hb12⟩; have HB12 := Lib.hid (bel_tr HB5.out (bel_tr HB11.out hb12)); clear hb12))
        go_ret2
        unfold DevPost
        rw [HTF.out]
        exact ⟨_, rfl, (Ob.nil _ 0 5).bs, HB12.out⟩
      · have HTF : Hid (cdev l b = (hderive k devS.data.toList b, 0)) := Lib.hid (by rw [cdev_some HTO.out HKO.out, if_neg (by rw [HBS.out]; simp)])
        go_upto_region 9 with (first
          | (go_at_call 80; refine (TG.out _ (Below.refl _ _)).mono ?_; rintro e w11 ⟨v11, rfl, ho11, hb11⟩; have HO11 := Lib.hid ho11; have HB11 := Lib.hid hb11; clear ho11 hb11)
          | (go_at_call 17; refine (TSM.out _ _ HB11.out HO11.out.bs).mono ?_; rintro e w12 ⟨rfl, hb12⟩; have h512 := bel_tr HB11.out hb12; have HB12 := Lib.hid (bel_tr HB5.out h512); have HY12 := Lib.hid (HY.out.below (bel_tr HB5.out h512)); have HK12 := Lib.hid (HKV.out.below h512); clear hb12 h512))
        go_wp2_with (go_at_call 26; refine (rderive_any _ _ k b devS hkl.out (by have : devS.size = 6 := rfl; have := HL.out; omega) w12 HK12.out HY12.out).mono ?_; rintro e w13 ⟨v13, rfl, ho13, hb13⟩; have HO13 := Lib.hid ho13; have HB13 := Lib.hid (bel_tr HB12.out hb13); clear ho13 hb13)
        go_ret2
        unfold DevPost
        rw [HTF.out]
        exact ⟨_, rfl, HO13.out.bs, HB13.out⟩
  · have hei : ((er : Int) != 0) = true := by simp; omega
    have HTF : Hid (cdev l b = ([], er)) := Lib.hid (cdev_e HTO.out he)
    clear he
    go_wp2
    go_ret2
    unfold DevPost
    rw [HTF.out]
    exact ⟨_, rfl, (Ob.nil _ 0 5).bs, HB4.out⟩

def LFew (l : List RK) (ls : List (List UInt8)) : Prop := RFew l ∧ ∀ b ∈ ls, b.length ≤ 500
noncomputable def lfew (l : List RK) (ls : List (List UInt8)) : Bool := @decide (LFew l ls) (Classical.propDecidable _)
theorem lfew_yes {l : List RK} {ls : List (List UInt8)} (h : LFew l ls) : lfew l ls = true := by unfold lfew; exact @decide_eq_true _ (Classical.propDecidable _) h
theorem lfew_no {l : List RK} {ls : List (List UInt8)} (h : ¬ LFew l ls) : lfew l ls = false := by unfold lfew; exact @decide_eq_false _ (Classical.propDecidable _) h

set_option maxRecDepth 100000 in
set_option maxHeartbeats 1600000 in
theorem few11_any (keep : Int) (v : Value) (l : List RK) (vl : Value) (vs : List Value) (ls : List (List UInt8)) (hnn : vs.length = ls.length) (w : World) (h : Ks w v l) (hl : Rd w 1 vl vs.length vs)
    (hv : ∀ (i : Nat) (v : Value) (l : List UInt8), vs[i]? = some v → ls[i]? = some l → Bs w v l) :
    Calls Tryd.prog 52 #[.agg #[.int .i64 keep, v], vl] w fun e w' => e = .returned (.bool (lfew l ls)) ∧ Below w.heap.size w w' := by
  obtain ⟨la, lc, adr, rfl, l2, l3, l4, l5, l6, l7⟩ := Rd.open_ elBs hl
  obtain ⟨N, hN⟩ : ∃ n, vs.length = n := ⟨_, rfl⟩
  rw [hN] at l2 l4 l5 l6 l7 hnn ⊢
  have X : Hid (∀ (W : World) (i : Nat), i < N → (Instr.indexAt 30 (.slice la N lc) (.int .i64 (i : Int))).run Tryd.prog W = .ok (.pointer (some (adr i))) W) := fun W i hi => by
    have := l5 W i (by omega) (by omega)
    simpa using this
  have C : Hid (∀ W, Below w.heap.size w W → ∀ (i : Nat), i < N → ∃ va vn vc b, W.cell? (adr i) = some (.slice va vn vc) ∧ ls[i]? = some b ∧ b.length = vn) := by
    intro W hW i hlt
    obtain ⟨v, hi⟩ : ∃ v, vs[i]? = some v := ⟨_, List.getElem?_eq_getElem (by omega)⟩
    obtain ⟨b, hb⟩ : ∃ b, ls[i]? = some b := ⟨_, List.getElem?_eq_getElem (by omega)⟩
    have hbs := (hv i v b hi hb).below hW
    obtain ⟨va, vc, hvs⟩ := hbs.shape
    subst hvs
    refine ⟨va, _, vc, b, ?_, hb, rfl⟩
    have := l7 i hlt 0 (by omega)
    rw [Addr.add_zero'] at this
    rw [hW.cell (l6 i hlt), this]
    simpa using hi
  have HNN := Lib.hid hnn
  clear hl l4 l5 l6 l7 hv hN hnn
  obtain ⟨n, hn⟩ : ∃ n, l.length = n := ⟨_, rfl⟩
  obtain ⟨a, c, b, o, rfl, h2, h3, hi, hc⟩ := h.open_ n hn
  have HB := Lib.hid (bel_al (Below.refl w.heap.size w) (Obj.cells #[.int .i64 keep, .slice a n c] 39))
  have HROW : Hid ((w.alloc (Obj.cells #[.int .i64 keep, .slice a n c] 39)).heap[w.heap.size]? = some (.cells #[.int .i64 keep, .slice a n c] 39 (0, 0))) := heap_alloc_new _ _
  have HI := Lib.hid hi
  have HC := Lib.hid hc
  have HN := Lib.hid hn
  clear h hi hc hn
  go_enter Tryd.func52, Tryd.ntmps52
  go_wp2_with fail
  obtain ⟨W0, hW0⟩ : ∃ W, w.alloc (Obj.cells #[.int .i64 keep, .slice a n c] 39) = W := ⟨_, rfl⟩
  rw [hW0] at HB HROW ⊢
  clear hW0
  go_loopw [12] (fun v12 wr => ∃ i : Nat, i ≤ n ∧ v12 = .int .i64 i ∧ Hid (∀ (j : Nat) (k : RK), j < i → l[j]? = some k → k.b.length ≤ 100) ∧ Hid (Below W0.heap.size W0 wr)) (fun vi _ => n - (intOf vi).toNat)
  case atStart => exact ⟨0, by omega, rfl, Lib.hid (fun j k hj => by omega), Lib.hid (Below.refl _ _)⟩
  case round =>
    obtain ⟨i, hin, rfl, hall, hb0⟩ := hrel
    have hb : Hid (Below w.heap.size w wr) := bel_tr HB.out hb0.out
    have hrow : wr.heap[w.heap.size]? = some (.cells #[.int .i64 keep, .slice a n c] 39 (0, 0)) := (hb0.out.block _ (heap_lt HROW.out)).trans HROW.out
    have ca : wr.cell? ⟨w.heap.size, 1, none⟩ = some (.slice a n c) := cell_of_row wr _ _ _ _ _ hrow
    clear hrow
    by_cases hlt : i < n
    · have e1 : (i : Int) < n := by omega
      obtain ⟨k, hk⟩ : ∃ k, l[i]? = some k := ⟨_, List.getElem?_eq_getElem (by rw [HN.out]; exact hlt)⟩
      obtain ⟨c0, c1⟩ := HC.out _ hb.out i k hk
      have x0 := fun W => HI.out W i hlt
      obtain ⟨ep, hep⟩ : ∃ ep, k.ep = ep := ⟨_, rfl⟩
      obtain ⟨m, hm⟩ : ∃ m, k.b.length = m := ⟨_, rfl⟩
      obtain ⟨ka, hka⟩ : ∃ a, k.a = a := ⟨_, rfl⟩
      obtain ⟨kc, hkc⟩ : ∃ c, k.c = c := ⟨_, rfl⟩
      unfold RK.v at c1
      rw [hka, hkc, hm] at c1
      rw [hep] at c0
      have HK := Lib.hid hk
      have HM := Lib.hid hm
      clear hk hep hm hka hkc
      by_cases hm100 : m ≤ 100
      · have g1 : (m : Int) ≤ 100 := by omega
        go_wp2_with (with_reducible refine wpList_store_new rfl _ _ rfl rfl rfl (by kernel_rfl) (by simp) (by simp [Value.oneCell']) ?_)
        go_roundw
        case rel =>
          refine ⟨i + 1, by omega, by go_num, Lib.hid ?_, Lib.hid (hb0.out.alloc hb0.out.size _)⟩
          intro j k' hj hk'
          by_cases e : j = i
          · subst e
            rw [HK.out] at hk'
            obtain rfl := Option.some.inj hk'
            rw [HM.out]; exact hm100
          · exact hall.out j k' (by omega) hk'
        case measure => simp [intOf]; omega
      · have g1 : (100 : Int) < m := by omega
        have HNO : Hid (lfew l ls = false) := lfew_no fun hp => by have := hp.1.2 i k HK.out; rw [HM.out] at this; omega
        go_wp2_with (with_reducible refine wpList_store_new rfl _ _ rfl rfl rfl (by kernel_rfl) (by simp) (by simp [Value.oneCell']) ?_)
        go_ret
        exact ⟨ret_bool HNO.out.symm, hb.out.alloc hb.out.size _⟩
    · have e1 : ¬ (i : Int) < n := by omega
      obtain rfl : i = n := by omega
      have hall2 : Hid (∀ (j : Nat) (k : RK), l[j]? = some k → k.b.length ≤ 100) := fun j k hk => hall.out j k (by rw [← HN.out]; exact (List.getElem?_eq_some_iff.1 hk).1) hk
      clear hall
      go_wp2_with fail
      go_loopw [23] (fun vi wq => ∃ j : Nat, j ≤ N ∧ vi = .int .i64 j ∧ Hid (∀ (q : Nat) (b : List UInt8), q < j → ls[q]? = some b → b.length ≤ 500) ∧ wq = wr) (fun vi _ => N - (intOf vi).toNat)
      case atStart => exact ⟨0, by omega, rfl, Lib.hid (fun j k hj => by omega), rfl⟩
      case round =>
        obtain ⟨j, hjn, rfl, hallb, rfl⟩ := hrel
        by_cases hlt : j < N
        · have e2 : (j : Int) < N := by omega
          obtain ⟨pa, pn, pc, pb, c0, hpb, hpl⟩ := C.out _ hb.out j hlt
          have x0 := fun W => X.out W j hlt
          have HPB := Lib.hid (And.intro hpb hpl)
          clear hpb hpl
          by_cases h500 : pn ≤ 500
          · have g1 : (pn : Int) ≤ 500 := by omega
            go_wp2
            go_roundw
            case rel =>
              refine ⟨j + 1, by omega, by go_num, Lib.hid ?_, trivial⟩
              intro q b' hq hb'
              by_cases e : q = j
              · subst e
                rw [HPB.out.1] at hb'
                obtain rfl := Option.some.inj hb'
                rw [HPB.out.2]; exact h500
              · exact hallb.out q b' (by omega) hb'
            case measure => simp [intOf]; omega
          · have g1 : (500 : Int) < pn := by omega
            have HNO : Hid (lfew l ls = false) := lfew_no fun hp => by have := hp.2 pb (List.mem_of_getElem? HPB.out.1); rw [HPB.out.2] at this; omega
            go_wp2
            go_ret
            exact ⟨ret_bool HNO.out.symm, hb.out⟩
        · have e2 : ¬ (j : Int) < N := by omega
          by_cases h30 : i ≤ 30
          · have g2 : (i : Int) ≤ 30 := by omega
            have HYES : Hid (lfew l ls = true) := lfew_yes ⟨⟨by rw [HN.out]; exact h30, hall2.out⟩, fun b' hb' => by
              obtain ⟨q, hq⟩ := List.mem_iff_getElem?.1 hb'
              exact hallb.out q b' (by have := (List.getElem?_eq_some_iff.1 hq).1; have := HNN.out; omega) hq⟩
            go_wp2
            go_ret
            exact ⟨ret_bool (by rw [HYES.out]), hb.out⟩
          · have g2 : (30 : Int) < i := by omega
            have HNO : Hid (lfew l ls = false) := lfew_no fun hp => by have := hp.1.1; rw [HN.out] at this; omega
            go_wp2
            go_ret
            exact ⟨ret_bool (by rw [HNO.out]; first | (simp; done) | (simp; omega)), hb.out⟩

end Go.Proofs.YtmhgdddnjnichaaDoor
