/- Layer 10 (token): the walk of the statement TokenBack. -/
import Derived.Test.YtmhgdddnjnichaaDoorTok6
import Derived.Test.YtmhgdddnjnichaaDoorTokV
import Derived.Test.YtmhgdddnjnichaaDoorHmT
import Derived.Deep.RegionHeld3
import Derived.Deep.RegionLaw
import Derived.Deep.CutBlock
set_option linter.unusedSimpArgs false
namespace Go.Proofs.YtmhgdddnjnichaaDoor
open Go.RowKit Go.Sort

/-- the ring has the token's key yet, or it is gone behind so many rotations -/
def TB (keep : Int) (l : List RK) (E : Int) (k : List UInt8) : Prop := RP keep l ∧ E ≤ epl l ∧ ((ep0 l ≤ E ∧ kf E l = some k) ∨ (E < ep0 l ∧ (l.length : Int) = keep))
theorem rot_ep0 {keep : Int} {l : List RK} {x : RK} (h : RP keep l) (hb : x.b.length = 32) (he : x.ep = epl l + 1) (hm : epl l ≠ 1048576) :
    ep0 (rotl keep l x) = ep0 l + ((l.length : Int) + 1 - keep).toNat := by
  have h2 := rot_rp h hb he hm
  have h3 := rp_epl h2
  rw [rot_epl h, he, rp_epl h] at h3
  rw [rot_len] at h3
  have h4 := rp_d h
  have h5 := h.2.2.1
  omega
theorem TB.rot {keep : Int} {l : List RK} {E : Int} {k : List UInt8} (h : TB keep l E k) {x : RK} (hb : x.b.length = 32) (he : x.ep = epl l + 1) (hm : epl l ≠ 1048576) : TB keep (rotl keep l x) E k := by
  obtain ⟨h1, h2, h3⟩ := h
  have r1 := rot_rp h1 hb he hm
  have r0 := rot_ep0 h1 hb he hm
  have rl : (rotl keep l x).length = l.length + 1 - ((l.length : Int) + 1 - keep).toNat := rot_len
  have hd := rp_d h1
  have hp := rp_epl h1
  have hlk := h1.2.2.2.1
  refine ⟨r1, by rw [rot_epl h1]; omega, ?_⟩
  rcases h3 with ⟨h4, h5⟩ | ⟨h4, h5⟩
  · by_cases hlt : ep0 (rotl keep l x) ≤ E
    · left
      refine ⟨hlt, ?_⟩
      obtain ⟨y, hy⟩ : ∃ y, l[(E - ep0 l).toNat]? = some y := ⟨_, List.getElem?_eq_getElem (by omega)⟩
      have hye : y.ep = E := by
        have := (h1.2.2.2.2.2.2 _ y hy).2
        omega
      have hk := rp_kf h1 _ y hy
      rw [hye, h5] at hk
      have hy2 : (rotl keep l x)[(E - ep0 (rotl keep l x)).toNat]? = some y := by
        rw [rot_get, List.getElem?_append_left (by omega)]
        rw [← hy]
        congr 1
        omega
      have hk2 := rp_kf r1 _ y hy2
      rw [hye] at hk2
      rw [hk2]
      exact hk.symm
    · right
      exact ⟨by omega, by omega⟩
  · right
    exact ⟨by omega, by omega⟩
theorem TB.find {keep : Int} {l : List RK} {E : Int} {k : List UInt8} (h : TB keep l E k) : kf E l = some k ∨ (kf E l = none ∧ keep ≤ epl l - E) := by
  obtain ⟨h1, h2, h3⟩ := h
  rcases h3 with ⟨_, h5⟩ | ⟨h4, h5⟩
  · exact .inl h5
  · right
    refine ⟨kf_no E l fun j k' hk => ?_, ?_⟩
    · have := (h1.2.2.2.2.2.2 j k' hk).2
      omega
    · have := rp_epl h1
      omega
theorem tb_start {keep : Int} {l : List RK} (h : RP keep l) : ∃ k, kf (epl l) l = some k ∧ TB keep l (epl l) k := by
  obtain ⟨y, hy⟩ : ∃ y, l[l.length - 1]? = some y := ⟨_, List.getElem?_eq_getElem (by have := h.2.2.1; omega)⟩
  have hk := rp_kf h _ y hy
  rw [← epl_get l y hy] at hk
  have := rp_epl h
  have := h.2.2.1
  exact ⟨y.b, hk, h, by omega, .inl ⟨by omega, hk⟩⟩
theorem Bs.ne_ring {w : World} {v : Value} {l : List UInt8} {g : Nat} {keep : Int} {a : Option Addr} {n c : Nat} (h : Bs w v l) (hg : w.heap[g]? = some (.cells #[.int .i64 keep, .slice a n c] 39 (0, 0))) (hl : l ≠ []) : v.ownBlock ≠ some g := by
  obtain ⟨h1, a, c, rfl, h2, h3, h4, h5⟩ := h
  rcases h5 with h5 | ⟨b, off, rfl, hlt, h6⟩
  · exact absurd (List.eq_nil_of_length_eq_zero h5) hl
  · intro e
    simp only [Value.ownBlock, Option.some.injEq] at e
    subst e
    obtain ⟨x, r, rfl⟩ : ∃ x r, l = x :: r := by cases l with | nil => exact absurd rfl hl | cons x r => exact ⟨x, r, rfl⟩
    have h7 := h6 0 (bv x) (by simp)
    simp only [World.cell?, hg] at h7
    unfold bv at h7
    rcases (show off + 0 = 0 ∨ off + 0 = 1 ∨ 2 ≤ off + 0 by omega) with e | e | e
    all_goals simp_all

theorem RAt.mono' {w wr W : World} {keep : Int} {g : Nat} {v : Value} {l : List RK} (h : RAt w wr keep g v l) (hb : Below wr.heap.size wr W) : RAt w W keep g v l :=
  ⟨(hb.block _ (heap_lt h.row)).trans h.row, h.ks.below hb, h.off, bel_tr h.bel hb, h.fresh⟩
theorem RAt.cells' {w wr : World} {keep : Int} {g : Nat} {v : Value} {l : List RK} (h : RAt w wr keep g v l) : wr.cell? ⟨g, 0, none⟩ = some (.int .i64 keep) ∧ wr.cell? ⟨g, 1, none⟩ = some v :=
  ⟨cell_of_row wr _ _ _ _ _ h.row, cell_of_row wr _ _ _ _ _ h.row⟩

set_option maxRecDepth 100000 in
set_option maxHeartbeats 12800000 in
theorem tokenback_walk (keep : Int) (v : Value) (l : List RK) (t : Tok) (vl : Value) (vs : List Value) (ls : List (List UInt8)) (hn2 : vs.length = ls.length) (w : World) (h : Ks w v l) (hw : -9223372036854775808 ≤ keep ∧ keep ≤ 9223372036854775807) (hwf : t.Wf)
    (hl : Rd w 1 vl vs.length vs) (hv : ∀ (i : Nat) (v : Value) (l : List UInt8), vs[i]? = some v → ls[i]? = some l → Bs w v l) (hT : Tabbed w) :
    Calls Tryd.prog 12 #[.agg #[.int .i64 keep, v], .agg t.row, vl] w fun e w' => e = .returned (.bool true) ∧ Below w.heap.size w w' := by
  obtain ⟨a, c, adr, rfl, h2, h3, h4, h5, h6, h7⟩ := Rd.open_ elBs hl
  obtain ⟨N, hN⟩ : ∃ n, vs.length = n := ⟨_, rfl⟩
  rw [hN] at h2 h4 h5 h6 h7 hn2 ⊢
  have X : Hid (∀ (W : World) (i : Nat), i < N → (Instr.indexAt 30 (.slice a N c) (.int .i64 (i : Int))).run Tryd.prog W = .ok (.pointer (some (adr i))) W) := fun W i hi => by
    have := h5 W i (by omega) (by omega)
    simpa using this
  have C : Hid (∀ W, Below w.heap.size w W → ∀ (i : Nat), i < N → ∃ va vn vc b, W.cell? (adr i) = some (.slice va vn vc) ∧ Bs W (.slice va vn vc) b ∧ b.length = vn) := by
    intro W hW i hlt
    obtain ⟨v, hi⟩ : ∃ v, vs[i]? = some v := ⟨_, List.getElem?_eq_getElem (by omega)⟩
    obtain ⟨b, hb⟩ : ∃ b, ls[i]? = some b := ⟨_, List.getElem?_eq_getElem (by omega)⟩
    have hbs := (hv i v b hi hb).below hW
    obtain ⟨va, vc, hvs⟩ := hbs.shape
    subst hvs
    refine ⟨va, _, vc, b, ?_, hbs, rfl⟩
    have := h7 i hlt 0 (by omega)
    rw [Addr.add_zero'] at this
    rw [hW.cell (h6 i hlt), this]
    simpa using hi
  have HAD := Lib.hid h6
  clear hl h4 h5 h6 h7 hv hN hn2
  obtain ⟨va, vc, hvs⟩ := h.g.shape
  subst hvs
  obtain ⟨n, hn⟩ : ∃ n, l.length = n := ⟨_, rfl⟩
  rw [hn] at h ⊢
  have H := Lib.hid h
  have HT := Lib.hid hT
  have HWF := Lib.hid hwf
  have HW := Lib.hid hw
  obtain ⟨w1, hw1⟩ : ∃ W, (w.alloc (.cells #[.int .i64 keep, .slice va n vc] 39)).alloc (.cells t.row 57) = W := ⟨_, rfl⟩
  have hb1 : Below w.heap.size w w1 := by rw [← hw1]; exact bel_al (bel_al (Below.refl _ _) _) _
  have hr1 : w1.heap[w.heap.size]? = some (.cells #[.int .i64 keep, .slice va n vc] 39 (0, 0)) := by rw [← hw1, alloc_get, if_neg (by simp), alloc_get, if_pos rfl]
  have ht1 : TAt w1 (w.heap.size + 1) t := ⟨by rw [← hw1, alloc_get, if_pos (by simp)]⟩
  obtain ⟨q, hq⟩ : ∃ q, w.heap.size + 1 = q := ⟨_, rfl⟩
  obtain ⟨g, hg⟩ : ∃ g, w.heap.size = g := ⟨_, rfl⟩
  have HQ : Hid (g < q ∧ w.heap.size = g) := by constructor <;> omega
  have HQ2 : Hid (w.heap.size = g) := hg
  rw [hq] at ht1
  rw [hg] at hr1
  have HB1 := Lib.hid hb1
  have HR1 := Lib.hid hr1
  have HT1 := Lib.hid ht1
  unfold Tok.row at hw1
  have HWW := Lib.hid hw1
  have HQ3 := Lib.hid hq
  have HC : Hid (∀ X, Below w1.heap.size w1 X → (X.cell? ⟨g, 0, none⟩ = some (.int .i64 keep) ∧ X.cell? ⟨g, 1, none⟩ = some (.slice va n vc)) ∧ X.cell? ⟨q, 0, none⟩ = some (.int .i64 t.trip) ∧ X.cell? ⟨q, 1, none⟩ = some (.int .i64 t.acct) ∧ X.cell? ⟨q, 2, none⟩ = some (.int .i64 t.stop) ∧ X.cell? ⟨q, 3, none⟩ = some (.int .i64 t.iss) ∧ X.cell? ⟨q, 4, none⟩ = some (.int .i64 t.til) ∧ X.cell? ⟨q, 5, none⟩ = some (.int .i64 t.ep)) := fun X hX =>
    have h1 := (hX.block g (heap_lt HR1.out)).trans HR1.out
    ⟨⟨cell_of_row X _ _ _ _ _ h1, cell_of_row X _ _ _ _ _ h1⟩, (HT1.out.below hX).cells⟩
  clear h hT hwf hw hb1 hr1 ht1 hw1 hn hg hq
  unfold Tok.row
  go_enter Tryd.func12, Tryd.ntmps12
  go_upto_region 1 with fail
  rw [HWW.out, HQ3.out, HQ2.out]
  go_upto_region 3 with (go_at_call 39; refine (awake10_any _ (HT.out.below HB1.out)).mono ?_; rintro e w2 ⟨rfl, hb2⟩; have HB2 := Lib.hid hb2; clear hb2)
  obtain ⟨⟨c0, c1⟩, _⟩ := HC.out _ HB2.out
  have hfew := few10_any keep (.slice va n vc) l w2 (H.out.below (bel_tr HB1.out HB2.out))
  by_cases hf : RFew l
  · rw [rfew_yes hf] at hfew
    have HFEW := Lib.hid hfew
    have HS := Lib.hid (few_small hf)
    clear hfew hf
    by_cases h5 : N ≤ 20
    · have e5 : ¬ (20 : Int) < N := by omega
      by_cases h0 : N = 0
      · subst h0
        go_wp2_with (go_at_call 40; refine HFEW.out.mono ?_; rintro e w3 ⟨rfl, hb3⟩; have HB3 := Lib.hid (bel_tr HB1.out (bel_tr HB2.out hb3)); clear hb3)
        go_ret
        exact ⟨rfl, HB3.out⟩
      · have e0 : ((N : Int) == 0) = false := by simp; omega
        go_upto_region 5 with (go_at_call 40; refine HFEW.out.mono ?_; rintro e w3 ⟨rfl, hb3⟩; have HB3 := Lib.hid (bel_tr HB2.out hb3); clear hb3)
        clear c0 c1 e0 e5
        obtain ⟨⟨c0, c1⟩, d0, d1, d2, d3, d4, d5⟩ := HC.out _ HB3.out
        have hi := issue_any keep (.slice va n vc) l t w3 (H.out.below (bel_tr HB1.out HB3.out)) HW.out HWF.out HS.out (HT.out.below (bel_tr HB1.out HB3.out))
        unfold IssuePost at hi
        unfold Tok.row at hi
        by_cases hgood : RP keep l ∧ tmay (t.at (epl l)) = true
        · obtain ⟨hrp, hmay⟩ := hgood
          obtain ⟨k, hkf, htb⟩ := tb_start hrp
          have hti : tissue keep l t = (fframe 2 (tbody k (t.at (epl l))), 0) := by
            unfold tissue
            rw [if_pos ⟨kok_yes hrp, hmay⟩, hkf]
            rfl
          rw [hti] at hi
          simp only at hi
          have HI := Lib.hid hi
          obtain ⟨E, hE⟩ : ∃ E, epl l = E := ⟨_, rfl⟩
          rw [hE] at htb hmay HI
          have HE := Lib.hid hE
          have HTB := Lib.hid htb
          have HMAY := Lib.hid hmay
          obtain ⟨b, hb⟩ : ∃ b, fframe 2 (tbody k (t.at E)) = b := ⟨_, rfl⟩
          have hbl : b.length ≤ 1000 := by
            rw [← hb, fframe_len]
            have h1 := tbody_len (tmay_wf hmay) k
            have h2 := vput_len10 (tbody k (t.at E)).length (by omega)
            omega
          have HBL := Lib.hid hbl
          have HBB := Lib.hid hb
          rw [hb] at HI
          clear hkf htb hti hi hE hmay hrp hb hbl
          go_upto_region 8 with (go_at_call 41; refine HI.out.mono ?_; rintro e w4 ⟨b1, rfl, hbs1, hb4⟩; obtain ⟨ba, bc, hbsh⟩ := hbs1.shape; subst hbsh; have HBS4 := Lib.hid hbs1; have HB4 := Lib.hid (bel_tr HB3.out hb4); clear hbs1 hb4)
          clear c0 c1 d0 d1 d2 d3 d4 d5
          obtain ⟨bm, hbm⟩ : ∃ m, b.length = m := ⟨_, rfl⟩
          rw [hbm] at HBS4 ⊢
          clear hbm
          obtain ⟨⟨c0, c1⟩, _, _, _, _, _, d5⟩ := HC.out _ HB4.out
          go_upto_region 9 with (go_at_call 36; refine (now_any keep _ l _ (H.out.below (bel_tr HB1.out HB4.out))).mono ?_; rw [HE.out]; rintro e w5 ⟨rfl, hb5⟩; have HT5 := Lib.hid ((HT1.out.below HB4.out).below hb5); have f5 := row_free HT5.out.row 5; obtain ⟨_, _, _, _, _, d5⟩ := HT5.out.cells; have HB5 := Lib.hid (bel_tr HB4.out hb5); have HBS5 := Lib.hid (HBS4.out.below hb5); clear hb5)
          clear c0 c1 f5 d5
          have hset := set_only w5 q 5 (.int .i64 E)
          have hta := HT5.out.setEp E
          obtain ⟨W, hW⟩ : ∃ X, w5.setCell ⟨q, 5, none⟩ (.int .i64 E) = X := ⟨_, rfl⟩
          rw [hW] at hset hta ⊢
          have hb15 := bel_tr HB1.out HB5.out
          have hBW : Below w.heap.size w W := hb15.trans (hset.below (fun k hk => by have := HQ.out; omega) hb15.size)
          have hrw : W.heap[g]? = some (.cells #[.int .i64 keep, .slice va n vc] 39 (0, 0)) := by
            have h1 := (HB5.out.block _ (heap_lt HR1.out)).trans HR1.out
            exact (hset.block g (heap_lt h1) (by have := HQ.out; omega)).trans h1
          have hbsW : Bs W (.slice ba bm bc) b := HBS5.out.only' hset (fun hl k hk e => HBS5.out.ne_tok HT5.out hl (by rw [hk, e]))
          have hra : RAt w W keep g (.slice va n vc) l := by
            refine ⟨hrw, H.out.below hBW, RP.off HTB.out.1 H.out (fun k hk => by have := HQ.out; omega), hBW, by have := HQ.out; omega⟩
          have HRA := Lib.hid hra
          have HTA := Lib.hid hta
          have HBSW := Lib.hid hbsW
          have HNE : Hid (b ≠ [] → (Value.slice ba bm bc).ownBlock ≠ some g) := fun hl => hbsW.ne_ring hrw hl
          have HNQ : Hid (g ≠ q) := by have := HQ.out; show g ≠ q; omega
          clear hset hta hW hb15 hBW hrw hbsW hra HT5 HB5 HBS5 HBS4 HB4 HB3 HB2 HB1 HR1 HT1 HC HWW HQ3 HI HE
          go_upto_region 10 with fail
          go_loopw [54] (fun vi wr => ∃ i : Nat, i ≤ N ∧ vi = .int .i64 i ∧ ∃ va vn vc l, Hid (RAt w wr keep g (.slice va vn vc) l) ∧ Hid (TB keep l E k) ∧ Hid (Only (fun j => j = g) W wr)) (fun vi _ => N - (intOf vi).toNat)
          case atStart => exact ⟨0, by omega, rfl, _, _, _, _, HRA, HTB, Lib.hid (Only.refl _ _)⟩
          case round =>
            obtain ⟨i, hin, rfl, va, vn, vc, l, HA, HTBl, HOW⟩ := hrel
            clear HRA HTB
            by_cases hlt : i < N
            · have e1 : (i : Int) < N := by omega
              have HTX : Hid (∀ X, Below wr.heap.size wr X → TAt X q (t.at E)) := fun X hX => (TAt.mk ((HOW.out.block q (heap_lt HTA.out.row) HNQ.out.symm).trans HTA.out.row)).below hX
              have HCX : Hid (∀ X, Below wr.heap.size wr X → (X.cell? ⟨g, 0, none⟩ = some (.int .i64 keep) ∧ X.cell? ⟨g, 1, none⟩ = some (.slice va vn vc)) ∧ X.cell? ⟨q, 0, none⟩ = some (.int .i64 t.trip) ∧ X.cell? ⟨q, 1, none⟩ = some (.int .i64 t.acct) ∧ X.cell? ⟨q, 2, none⟩ = some (.int .i64 t.stop) ∧ X.cell? ⟨q, 3, none⟩ = some (.int .i64 t.iss) ∧ X.cell? ⟨q, 4, none⟩ = some (.int .i64 t.til) ∧ X.cell? ⟨q, 5, none⟩ = some (.int .i64 E)) := fun X hX =>
                have h1 := (hX.block g (heap_lt HA.out.row)).trans HA.out.row
                ⟨⟨cell_of_row X _ _ _ _ _ h1, cell_of_row X _ _ _ _ _ h1⟩, (HTX.out X hX).cells⟩
              obtain ⟨⟨c0, c1⟩, d0, d1, d2, d3, d4, d5⟩ := HCX.out _ (Below.refl _ _)
              obtain ⟨-, -, -, ⟨m1, m2⟩, ⟨m3, m4⟩, ⟨m5, m6⟩⟩ := (tmay_iff _).1 HMAY.out
              have m1 : 0 ≤ t.iss := m1
              have m2 : t.iss ≤ 1099511627776 := m2
              have m3 : t.iss ≤ t.til := m3
              have m4 : t.til ≤ 1099511627776 := m4
              have m5 : 1 ≤ E := m5
              have m6 : E ≤ 1048576 := m6
              have hi20 : (i : Int) < 20 := by omega
              go_upto_region 12 with fail
              go_quiet (fail)
              clear c0 c1 d0 d1 d2 d3 d4 d5
              have hbn : Below wr.heap.size wr (wr.drewN nq) := below_drewN (Below.refl _ _) _
              obtain ⟨W1, hW1⟩ : ∃ W1, wr.drewN nq = W1 := ⟨_, rfl⟩
              rw [hW1] at hbn ⊢
              have HBN := Lib.hid hbn
              clear hbn hW1
              have hmd : (0 : Int) ≤ (i : Int) % (t.til - t.iss + 1) ∧ (i : Int) % (t.til - t.iss + 1) < t.til - t.iss + 1 := ⟨Int.emod_nonneg _ (by omega), Int.emod_lt_of_pos _ (by omega)⟩
              obtain ⟨md, hmd2⟩ : ∃ x, (i : Int) % (t.til - t.iss + 1) = x := ⟨_, rfl⟩
              rw [hmd2] at hmd ⊢
              have hat : wrap64 (t.iss + md) = t.iss + md := by unfold wrap64; omega
              have hu1 : IntKind.i64.wrap (t.til + 1) = t.til + 1 := IntWalk.i64_in _ (by omega)
              have hu2 : IntKind.i64.wrap (t.iss - 1) = t.iss - 1 := IntWalk.i64_in _ (by omega)
              rw [hat]
              obtain ⟨at1, hat1⟩ : ∃ x, t.iss + md = x := ⟨_, rfl⟩
              rw [hat1]
              have hal : t.iss ≤ at1 ∧ at1 ≤ t.til := by omega
              clear hat hmd hmd2 hat1
              have HBR : Hid (∀ X, Below wr.heap.size wr X → Bs X (.slice ba bm bc) b) := fun X hX => (HBSW.out.only' HOW.out (fun hl k hk e => HNE.out hl (by rw [hk, e]))).below hX
              have HSM : Hid (∀ k ∈ l, k.b.length ≤ 1000000) := fun k hk => by
                obtain ⟨q, hq⟩ := List.mem_iff_getElem?.1 hk
                have := (HTBl.out.1.2.2.2.2.2.2 q k hq).1
                omega
              have hver : ∀ (now : Int) (X : World), Below wr.heap.size wr X → Calls Tryd.prog 49 #[.agg #[.int .i64 keep, .slice va vn vc], .slice ba bm bc, .int .i64 now] X (VerPost l b now X) := fun now X hX =>
                verify_any keep _ l _ b now X (HA.out.ks.below hX) (HBR.out X hX) (by have := HBL.out; omega) HSM.out (HT.out.below (bel_tr HA.out.bel hX))
              obtain ⟨x, fx, hvx⟩ : ∃ x f, tverify l b at1 = (x, f) := ⟨_, _, rfl⟩
              obtain ⟨y, fy, hvy⟩ : ∃ x f, tverify l b t.til = (x, f) := ⟨_, _, rfl⟩
              obtain ⟨z, fz, hvz⟩ : ∃ x f, tverify l b (t.til + 1) = (x, f) := ⟨_, _, rfl⟩
              obtain ⟨u, fu, hvu⟩ : ∃ x f, tverify l b (t.iss - 1) = (x, f) := ⟨_, _, rfl⟩
              have hall : (kf E l = some k ∧ x = t.at E ∧ fx = 0 ∧ y = t.at E ∧ fy = 0 ∧ fz = 22 ∧ fu = 22) ∨ (kf E l = none ∧ keep ≤ epl l - E ∧ fx = 20 ∧ fy = 20 ∧ fz = 20) := by
                rcases HTBl.out.find with hk | ⟨hk, hkeep⟩
                · left
                  have hv := fun now => tver_issue (l := l) HMAY.out (k := k) hk now
                  rw [HBB.out] at hv
                  rw [hv] at hvx hvy hvz hvu
                  have hiss : (t.at E).iss = t.iss := rfl
                  have htil : (t.at E).til = t.til := rfl
                  rw [hiss, htil] at hvx hvy hvz hvu
                  rw [if_neg (by omega)] at hvx hvy
                  rw [if_pos (by omega)] at hvz hvu
                  simp only [Prod.mk.injEq] at hvx hvy hvz hvu
                  exact ⟨hk, hvx.1.symm, hvx.2.symm, hvy.1.symm, hvy.2.symm, hvz.2.symm, hvu.2.symm⟩
                · right
                  have hv := fun now => tver_nokey (l := l) HMAY.out (k := k) hk now
                  rw [HBB.out] at hv
                  rw [hv] at hvx hvy hvz hvu
                  simp only [Prod.mk.injEq] at hvx hvy hvz hvu
                  exact ⟨hk, hkeep, hvx.2.symm, hvy.2.symm, hvz.2.symm⟩
              have TV : Hid (∀ X, Below wr.heap.size wr X →
                  (Calls Tryd.prog 49 #[.agg #[.int .i64 keep, .slice va vn vc], .slice ba bm bc, .int .i64 at1] X fun e w' => e = .returned (.tuple #[.agg #[.int .i64 x.trip, .int .i64 x.acct, .int .i64 x.stop, .int .i64 x.iss, .int .i64 x.til, .int .i64 x.ep], .int .i64 (fx : Nat)]) ∧ Below X.heap.size X w') ∧
                  (Calls Tryd.prog 49 #[.agg #[.int .i64 keep, .slice va vn vc], .slice ba bm bc, .int .i64 t.til] X fun e w' => e = .returned (.tuple #[.agg #[.int .i64 y.trip, .int .i64 y.acct, .int .i64 y.stop, .int .i64 y.iss, .int .i64 y.til, .int .i64 y.ep], .int .i64 (fy : Nat)]) ∧ Below X.heap.size X w') ∧
                  (Calls Tryd.prog 49 #[.agg #[.int .i64 keep, .slice va vn vc], .slice ba bm bc, .int .i64 (t.til + 1)] X fun e w' => e = .returned (.tuple #[.agg #[.int .i64 z.trip, .int .i64 z.acct, .int .i64 z.stop, .int .i64 z.iss, .int .i64 z.til, .int .i64 z.ep], .int .i64 (fz : Nat)]) ∧ Below X.heap.size X w') ∧
                  (Calls Tryd.prog 49 #[.agg #[.int .i64 keep, .slice va vn vc], .slice ba bm bc, .int .i64 (t.iss - 1)] X fun e w' => e = .returned (.tuple #[.agg #[.int .i64 u.trip, .int .i64 u.acct, .int .i64 u.stop, .int .i64 u.iss, .int .i64 u.til, .int .i64 u.ep], .int .i64 (fu : Nat)]) ∧ Below X.heap.size X w')) := by
                intro X hX
                have h1 := hver at1 X hX
                have h2 := hver t.til X hX
                have h3 := hver (t.til + 1) X hX
                have h4 := hver (t.iss - 1) X hX
                unfold VerPost at h1 h2 h3 h4
                rw [hvx] at h1
                rw [hvy] at h2
                rw [hvz] at h3
                rw [hvu] at h4
                exact ⟨h1, h2, h3, h4⟩
              have HALL := Lib.hid hall
              clear hver hvx hvy hvz hvu hall
              obtain ⟨⟨c0, c1⟩, d0, d1, d2, d3, d4, d5⟩ := HCX.out _ HBN.out
              go_upto_region 14 with (first
                | (go_at_call 49; refine ((TV.out _ HBN.out).1).mono ?_; rintro e w2 ⟨rfl, hb4⟩; have HB2 := Lib.hid (bel_tr HBN.out hb4); clear hb4)
                | (with_reducible refine wpList_store_new rfl _ _ rfl rfl rfl (by kernel_rfl) (by simp) (by simp [Value.oneCell']) ?_))
              clear c0 c1 d0 d1 d2 d3 d4 d5
              obtain ⟨W2, p2, hbs2, htk2, HE2⟩ : ∃ W p, Hid (Below wr.heap.size wr W) ∧ Hid (TAt W p x) ∧ Hid (w2.alloc (.cells #[.int .i64 x.trip, .int .i64 x.acct, .int .i64 x.stop, .int .i64 x.iss, .int .i64 x.til, .int .i64 x.ep] 57) = W ∧ w2.heap.size = p) := ⟨_, _, bel_al HB2.out _, ⟨heap_alloc_new _ _⟩, rfl, rfl⟩
              rw [HE2.out.1, HE2.out.2]
              clear HE2 HB2
              obtain ⟨⟨c0, c1⟩, d0, d1, d2, d3, d4, d5⟩ := HCX.out _ hbs2.out
              go_upto_region 15 with (first
                | (go_at_call 49; refine ((TV.out _ hbs2.out).2.1).mono ?_; rintro e w3 ⟨rfl, hb4⟩; have HB3 := Lib.hid hb4; clear hb4)
                | (with_reducible refine wpList_store_new rfl _ _ rfl rfl rfl (by kernel_rfl) (by simp) (by simp [Value.oneCell']) ?_))
              clear c0 c1 d0 d1 d2 d3 d4 d5
              obtain ⟨W3, p3, hbs3, htk23, htk3, HE3⟩ : ∃ W p, Hid (Below wr.heap.size wr W) ∧ Hid (TAt W p2 x) ∧ Hid (TAt W p y) ∧ Hid (w3.alloc (.cells #[.int .i64 y.trip, .int .i64 y.acct, .int .i64 y.stop, .int .i64 y.iss, .int .i64 y.til, .int .i64 y.ep] 57) = W ∧ w3.heap.size = p) := ⟨_, _, bel_al (bel_tr hbs2.out HB3.out) _, htk2.out.below (bel_al HB3.out _), ⟨heap_alloc_new _ _⟩, rfl, rfl⟩
              rw [HE3.out.1, HE3.out.2]
              clear HE3 HB3 htk2 hbs2
              obtain ⟨⟨c0, c1⟩, d0, d1, d2, d3, d4, d5⟩ := HCX.out _ hbs3.out
              go_upto_region 16 with (first
                | (go_at_call 49; refine ((TV.out _ hbs3.out).2.2.1).mono ?_; rintro e w4 ⟨rfl, hb4⟩; have HB4 := Lib.hid hb4; clear hb4)
                | (with_reducible refine wpList_store_new rfl _ _ rfl rfl rfl (by kernel_rfl) (by simp) (by simp [Value.oneCell']) ?_))
              clear c0 c1 d0 d1 d2 d3 d4 d5
              obtain ⟨W4, p4, hbs4, hbs34, HE4⟩ : ∃ W p, Hid (Below wr.heap.size wr W) ∧ Hid (Below W3.heap.size W3 W) ∧ Hid (w4.alloc (.cells #[.int .i64 z.trip, .int .i64 z.acct, .int .i64 z.stop, .int .i64 z.iss, .int .i64 z.til, .int .i64 z.ep] 57) = W ∧ w4.heap.size = p) := ⟨_, _, bel_al (bel_tr hbs3.out HB4.out) _, bel_al HB4.out _, rfl, rfl⟩
              rw [HE4.out.1, HE4.out.2]
              clear HE4 HB4 hbs3
              obtain ⟨⟨c0, c1⟩, d0, d1, d2, d3, d4, d5⟩ := HCX.out _ hbs4.out
              go_upto_region 17 with (first
                | (go_at_call 49; refine ((TV.out _ hbs4.out).2.2.2).mono ?_; rintro e w5 ⟨rfl, hb4⟩; have HB5 := Lib.hid hb4; clear hb4)
                | (with_reducible refine wpList_store_new rfl _ _ rfl rfl rfl (by kernel_rfl) (by simp) (by simp [Value.oneCell']) ?_))
              clear c0 c1 d0 d1 d2 d3 d4 d5
              obtain ⟨W5, p5, hbs5, hbs35, HE5⟩ : ∃ W p, Hid (Below wr.heap.size wr W) ∧ Hid (Below W3.heap.size W3 W) ∧ Hid (w5.alloc (.cells #[.int .i64 u.trip, .int .i64 u.acct, .int .i64 u.stop, .int .i64 u.iss, .int .i64 u.til, .int .i64 u.ep] 57) = W ∧ w5.heap.size = p) := ⟨_, _, bel_al (bel_tr hbs4.out HB5.out) _, bel_al (bel_tr hbs34.out HB5.out) _, rfl, rfl⟩
              rw [HE5.out.1, HE5.out.2]
              clear HE5 HB5 hbs4 hbs34 TV
              obtain ⟨⟨c0, c1⟩, d0, d1, d2, d3, d4, d5⟩ := HCX.out _ hbs5.out
              have TF : Hid (∀ X, Below wr.heap.size wr X → Calls Tryd.prog 34 #[.agg #[.int .i64 keep, .slice va vn vc], .int .i64 E] X (FindPost l E X)) := fun X hX => find_any keep _ l E X (HA.out.ks.below hX) HSM.out
              unfold FindPost at TF
              go_upto_region 18 with (go_at_call 34; refine (TF.out _ hbs5.out).mono ?_; rintro e w6 ⟨kv, rfl, hkv, hb4⟩; have HB6 := Lib.hid (bel_tr hbs5.out hb4); have HB36 := Lib.hid (bel_tr hbs35.out hb4); clear hb4 hkv)
              clear c0 c1 d0 d1 d2 d3 d4 d5 TF hbs5 hbs35
              obtain ⟨⟨c0, c1⟩, d0, d1, d2, d3, d4, d5⟩ := HCX.out _ HB6.out
              rcases HALL.out with ⟨hk, rfl, rfl, rfl, rfl, rfl, rfl⟩ | ⟨hk, hkeep, rfl, rfl, rfl⟩
              · rw [hk]
                simp only [Option.isSome_some]
                obtain ⟨a0, a1, a2, a3, a4, a5⟩ := ((htk23.out.below HB36.out)).cells
                obtain ⟨b0, b1, b2, b3, b4, b5⟩ := ((htk3.out.below HB36.out)).cells
                simp only [Tok.at] at a0 a1 a2 a3 a4 a5 b0 b1 b2 b3 b4 b5
                rw [show ((0 : Nat) : Int) = 0 from rfl, show ((22 : Nat) : Int) = 22 from rfl]
                obtain ⟨da, dn, dc, d, g0, hd, hdl⟩ := C.out w6 (bel_tr HA.out.bel HB6.out) i hlt
                have x0 := fun W => X.out W i hlt
                have TR : Hid (∀ X, Below w6.heap.size w6 X → Calls Tryd.prog 37 #[.agg #[.int .i64 keep, .slice va vn vc], .slice da dn dc] X fun e w' => ∃ kp ra rn rc er l3, e = .returned (.tuple #[.agg #[.int .i64 kp, .slice ra rn rc], .int .i64 er]) ∧ Hid (Ks w' (.slice ra rn rc) l3) ∧ Hid (Below w6.heap.size w6 w') ∧ Hid (Below X.heap.size X w') ∧ Hid (RotE keep l d er) ∧ Hid (er = 0 → kp = keep ∧ (∃ a c, l3 = rotl keep l ⟨epl l + 1, a, c, rkey d (epl l + 1).toNat⟩) ∧ KsOff (fun k => k = g) (.slice ra rn rc) l3 ∧ ∀ q, w6.heap.size ≤ q → q < X.heap.size → KsOff (fun k => k = q) (.slice ra rn rc) l3)) := by
                  intro X hX
                  refine (rotate_all keep (.slice va vn vc) (.slice da dn dc) l d X (HA.out.ks.below (bel_tr HB6.out hX)) HW.out (hd.below hX) (HT.out.below (bel_tr HA.out.bel (bel_tr HB6.out hX)))).mono ?_
                  rintro e w' ⟨kp, ra, rn, rc, er, l3, rfl, hk, hb, he, hs⟩
                  refine ⟨kp, ra, rn, rc, er, l3, rfl, hk, bel_tr hX hb.out, hb, he, fun h0 => ?_⟩
                  obtain ⟨h1, h2, h3⟩ := hs.out.2 h0
                  exact ⟨h1, h2, h3 (fun k => k = g) (fun k hk => by have := heap_lt HA.out.row; have := HB6.out.size; have := hX.size; omega) HA.out.off.2, fun q h4 h5 => h3 (fun k => k = q) (fun k hk => by omega) (RP.off HTBl.out.1 (HA.out.ks.below HB6.out) (fun k hk => by omega)).2⟩
                have KE : Hid (∀ X, Below w6.heap.size w6 X → X.cell? ⟨g, 0, none⟩ = some (.int .i64 keep) ∧ X.cell? ⟨g, 1, none⟩ = some (.slice va vn vc) ∧ X.cell? (adr i) = some (.slice da dn dc)) := by
                  intro X hX
                  refine ⟨(HCX.out _ (bel_tr HB6.out hX)).1.1, (HCX.out _ (bel_tr HB6.out hX)).1.2, ?_⟩
                  exact (hX.cell (Nat.lt_of_lt_of_le (HAD.out i hlt) (bel_tr HA.out.bel HB6.out).size)).trans g0
                have KS : Hid (∀ X B u0 u1, Below w6.heap.size w6 X → w6.heap.size ≤ B → ((X.setCell ⟨B, 0, none⟩ u0).setCell ⟨B, 1, none⟩ u1).cell? ⟨g, 0, none⟩ = some (.int .i64 keep) ∧ ((X.setCell ⟨B, 0, none⟩ u0).setCell ⟨B, 1, none⟩ u1).cell? ⟨g, 1, none⟩ = some (.slice va vn vc) ∧ ((X.setCell ⟨B, 0, none⟩ u0).setCell ⟨B, 1, none⟩ u1).cell? (adr i) = some (.slice da dn dc)) := fun X B u0 u1 hX hB =>
                  KE.out _ (hX.trans (((set_only X B 0 u0).trans (set_only _ B 1 u1)).below (fun k hk => by omega) hX.size))
                have HB0 : Hid (Below w6.heap.size w6 w6.drew) := bel_dr (Below.refl _ _)
                have K0 := KE.out _ HB0.out
                have KSZ : Hid (w6.heap.size ≤ w6.heap.size) := Nat.le_refl _
                clear hd hdl
                go_upto_region 22 with fail
                clear a0 a1 a2 a3 a4 a5 b0 b1 b2 b3 b4 b5 hu1 hu2
                go_region_held3 (fun W => W.cell? ⟨g, 0, none⟩ = some (.int .i64 keep) ∧ W.cell? ⟨g, 1, none⟩ = some (.slice va vn vc) ∧ W.cell? (adr i) = some (.slice da dn dc)) (first | exact K0 | with_reducible exact KS.out _ _ _ _ HB7.out KSZ.out | with_reducible exact KE.out _ HB7.out | with_reducible exact KE.out _ (bel_al HB7.out _) | with_reducible exact KE.out _ (bel_dr (bel_al (Below.refl _ _) _)) | with_reducible exact KE.out _ (bel_al HB0.out _)) (first
                  | (go_at_call 37; refine (TR.out _ HB0.out).mono ?_; rintro e w7 ⟨kp2, ra, rn, rc, er2, l3, rfl, HK7, HB7, HB07, HE7, HS7⟩)
                  | (go_at_call 37; refine (TR.out _ (bel_al HB0.out _)).mono ?_; rintro e w7 ⟨kp2, ra, rn, rc, er2, l3, rfl, HK7, HB7, HB07, HE7, HS7⟩; have a7 : w7.heap[w6.heap.size]? = some (.cells #[.int .i64 0, .slice none 0 0] 39 (0, 0)) := (HB07.out.block w6.heap.size (by simp)).trans (heap_alloc_new w6.drew _); have z0 := cell_of_row w7 _ 0 _ _ _ a7; have z1 := cell_of_row w7 _ 1 _ _ _ a7; have y0 := row_free a7 0; have y1 := row_free a7 1; have A7 := Lib.hid a7; clear a7))
                focus (
                  have T : ∃ W B, W = w7.alloc (.cells #[.int .i64 kp2, .slice ra rn rc] 39) ∧ B = w7.heap.size ∧ W.heap[B]? = some (.cells #[.int .i64 kp2, .slice ra rn rc] 39 (0, 0)) ∧ Hid (Below w6.heap.size w6 W) ∧ Hid (er2 = 0 → Ks W (.slice ra rn rc) l3) := ⟨_, _, rfl, rfl, heap_alloc_new _ _, bel_al HB7.out _, fun _ => HK7.out.below (bel_al (Below.refl _ _) _)⟩
                  obtain ⟨W6, g6, hW, hg6, hrow6, HB67, HK6⟩ := T
                  rw [← hW, ← hg6]
                  clear hW hg6)
                rotate_left 1
                focus (
                  have hso := setRow_only w7 w6.heap.size #[.int .i64 kp2, .slice ra rn rc]
                  have T : ∃ W B, W = w7.setRow w6.heap.size #[.int .i64 kp2, .slice ra rn rc] ∧ B = w6.heap.size ∧ W.heap[B]? = some (.cells #[.int .i64 kp2, .slice ra rn rc] 39 (0, 0)) ∧ Hid (Below w6.heap.size w6 W) ∧ Hid (er2 = 0 → Ks W (.slice ra rn rc) l3) := ⟨_, _, rfl, rfl, setRow_heap w7 _ _ _ _ _ A7.out, HB7.out.trans (hso.below (fun k hk => by omega) HB7.out.size), fun h0 => HK7.out.only ((HS7.out h0).2.2.2 _ (Nat.le_refl _) (by simp)) hso⟩
                  obtain ⟨W6, g6, hW, hg6, hrow6, HB67, HK6⟩ := T
                  rw [two_cells _ _ _ _ _ _ _ A7.out, ← hW, ← hg6]
                  clear hW hg6 z0 z1 y0 y1 A7)
                rotate_left 1
                all_goals
                  have HA6 := Lib.hid ((HA.out.mono' HB6.out).mono' HB67.out)
                  have HOW6 := Lib.hid (HOW.out.trans (Only.of_below (bel_tr HB6.out HB67.out)))
                  have HRG := Lib.hid HA6.out.row
                  obtain ⟨j0, j1⟩ : W6.cell? ⟨g6, 0, none⟩ = some (.int .i64 kp2) ∧ W6.cell? ⟨g6, 1, none⟩ = some (.slice ra rn rc) := ⟨cell_of_row W6 _ _ _ _ _ hrow6, cell_of_row W6 _ _ _ _ _ hrow6⟩
                  clear c0 c1 d0 d1 d2 d3 d4 d5 g0 x0 hrow6 K0
                  rcases HE7.out with ⟨rfl, _⟩ | ⟨rfl, _⟩ | ⟨rfl, h5, h6, h7⟩
                  · go_wp2
                    go_roundw
                    case rel => exact ⟨i + 1, by omega, by go_num, _, _, _, _, HA6, HTBl, HOW6⟩
                    case measure => simp [intOf]; omega
                  · go_wp2
                    go_roundw
                    case rel => exact ⟨i + 1, by omega, by go_num, _, _, _, _, HA6, HTBl, HOW6⟩
                    case measure => simp [intOf]; omega
                  · obtain ⟨rfl, ⟨ya, yc, rfl⟩, hoff, _⟩ := HS7.out rfl
                    have HTN := Lib.hid (HTBl.out.rot (x := ⟨epl l + 1, ya, yc, rkey d (epl l + 1).toNat⟩) (rkey_len _ _) rfl h7)
                    have HPUT := Lib.hid (HA6.out.put (keep2 := kp2) (Below.refl _ _) (HK6.out rfl) hoff)
                    have HON := Lib.hid (HOW6.out.trans (setRow_only W6 g #[.int .i64 kp2, .slice ra rn rc]))
                    clear hoff h5 h6 h7
                    go_wp2_with (with_reducible refine wpList_store_row rfl _ _ rfl rfl rfl HRG.out (by kernel_rfl) (by simp) (by simp [Value.oneCell']) ?_)
                    go_roundw
                    case rel => exact ⟨i + 1, by omega, by go_num, _, _, _, _, HPUT, HTN, HON⟩
                    case measure => simp [intOf]; omega
              · rw [hk]
                simp only [Option.isSome_none]
                have q0 := fun dd os => cell_regrown c0 dd os
                have q1 := fun dd os => cell_regrown c1 dd os
                have q5 := fun dd os => cell_regrown d5 dd os
                have S1 : Hid (∀ dd os, Calls Tryd.prog 36 #[.agg #[.int .i64 keep, .slice va vn vc]] (grow (redrawn w6 dd) os) fun e w'' => e = .returned (.int .i64 (epl l)) ∧ ∃ p : Regrown, w'' = grow (redrawn w6 p.d) p.os) := fun dd os =>
                  Calls.regrown_of (now_any keep (.slice va vn vc) l _ ((HA.out.ks.below HB6.out).below (below_regrown w6 dd os)))
                have hE1 : 1 ≤ epl l ∧ epl l ≤ 1048576 := by
                  have h1 := rp_epl HTBl.out.1
                  have h2 := HTBl.out.1.2.2.2.2.1
                  have h3 := HTBl.out.1.2.2.2.2.2.1
                  have h4 := HTBl.out.1.2.2.1
                  omega
                obtain ⟨ee, hee⟩ : ∃ x, epl l = x := ⟨_, rfl⟩
                rw [hee] at hkeep S1 hE1
                have hwr : IntKind.i64.wrap (ee - E) = ee - E := IntWalk.i64_in _ (by omega)
                rw [show ((20 : Nat) : Int) = 20 from rfl]
                clear hk hee c0 c1 d0 d1 d2 d3 d4 d5 hu1 hu2
                go_upto_region 19 with fail
                refine wp_region_quiet_below (by kernel_rfl) (by kernel_rfl) ?_
                repeat (go_big_quiet_step ((go_at_call 36; with_reducible exact S1.out _ _)))
                refine wpQuiet_nil ?_
                intro _ hw'
                obtain ⟨⟨dq, osq⟩, hw''⟩ := hw'
                subst hw''
                have hb7 := below_regrown w6 dq osq
                obtain ⟨W7, hwq⟩ : ∃ x, x = grow (redrawn w6 dq) osq := ⟨_, rfl⟩
                rw [← hwq] at hb7 ⊢
                clear hwq
                have HB7 := Lib.hid hb7
                clear q0 q1 q5 S1 hwr hb7
                go_wp2
                go_ret
                exact ⟨rfl, bel_tr (bel_tr HA.out.bel HB6.out) HB7.out⟩
            · have e1 : ¬ (i : Int) < N := by omega
              obtain ⟨c0, c1⟩ := HA.out.cells'
              have hright := rrright_any keep (.slice va vn vc) l wr HA.out.ks HW.out
              rw [kok_yes HTBl.out.1] at hright
              have HRIGHT := Lib.hid hright
              have HBF := Lib.hid HA.out.bel
              clear hright
              go_wp2_with (go_at_call 30; refine HRIGHT.out.mono ?_; rintro e w9 ⟨rfl, hb9⟩; have HB9 := Lib.hid (bel_tr HBF.out hb9); clear hb9)
              go_ret
              exact ⟨rfl, HB9.out⟩
        · have hti : tissue keep l t = ([], 2) := by
            unfold tissue
            rw [if_neg]
            rintro ⟨h1, h2⟩
            by_cases h3 : RP keep l
            · exact hgood ⟨h3, h2⟩
            · rw [kok_no h3] at h1; cases h1
          rw [hti] at hi
          simp only at hi
          have HI := Lib.hid hi
          clear hi hgood hti
          go_wp2_with (go_at_call 41; refine HI.out.mono ?_; rintro e w4 ⟨b1, rfl, hbs1, hb4⟩; obtain ⟨ba, bc, hbsh⟩ := hbs1.shape; rw [List.length_nil] at hbsh; subst hbsh; have HB4 := Lib.hid (bel_tr HB1.out (bel_tr HB3.out hb4)); clear hbs1 hb4)
          go_ret
          exact ⟨rfl, HB4.out⟩
    · have e5 : (20 : Int) < N := by omega
      go_wp2_with (go_at_call 40; refine HFEW.out.mono ?_; rintro e w3 ⟨rfl, hb3⟩; have HB3 := Lib.hid (bel_tr HB1.out (bel_tr HB2.out hb3)); clear hb3)
      go_ret
      exact ⟨rfl, HB3.out⟩
  · rw [rfew_no hf] at hfew
    have HFEW := Lib.hid hfew
    clear hfew hf
    go_wp2_with (go_at_call 40; refine HFEW.out.mono ?_; rintro e w3 ⟨rfl, hb3⟩; have HB3 := Lib.hid (bel_tr HB1.out (bel_tr HB2.out hb3)); clear hb3)
    go_ret
    exact ⟨rfl, HB3.out⟩

end Go.Proofs.YtmhgdddnjnichaaDoor
