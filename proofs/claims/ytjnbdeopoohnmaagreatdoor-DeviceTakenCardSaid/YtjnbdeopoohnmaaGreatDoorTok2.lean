/- Layer 10 (token): the walks of Issue, on both sides. -/
import Derived.Test.YtjnbdeopoohnmaaGreatDoorTok
import Derived.Test.YtjnbdeopoohnmaaGreatDoorFrameWhole
import Derived.Test.YtjnbdeopoohnmaaGreatDoorRingS
import Derived.Test.YtjnbdeopoohnmaaGreatDoorRingQ
import Derived.Deep.RegionHeld3
import Derived.Deep.CutBlock
import Derived.Deep.DeepCutAuto
set_option linter.unusedSimpArgs false
namespace Go.Proofs.YtjnbdeopoohnmaaGreatDoor
open Go.RowKit Go.Sort

def tbody (k : List UInt8) (t : Tok) : List UInt8 := tfields t ++ (vput 32 ++ ttag k t)
noncomputable def tissue (keep : Int) (l : List RK) (t : Tok) : List UInt8 × Nat :=
  if kok keep l = true ∧ tmay (t.at (epl l)) = true then (fframe 2 (tbody ((kf (epl l) l).getD []) (t.at (epl l))), 0) else ([], 2)
def IssuePost (keep : Int) (l : List RK) (t : Tok) (w : World) (e : Ending) (w' : World) : Prop :=
  ∃ v, e = .returned (.tuple #[v, .int .i64 ((tissue keep l t).2 : Nat)]) ∧ Bs w' v (tissue keep l t).1 ∧ Below w.heap.size w w'
theorem epl_wf {w : World} {v : Value} {l : List RK} (h : Ks w v l) : W64 (epl l) := by
  cases l with
  | nil => exact ⟨by decide, by decide⟩
  | cons a r =>
    obtain ⟨k, hk⟩ : ∃ k, (a :: r)[(a :: r).length - 1]? = some k := ⟨_, List.getElem?_eq_getElem (by simp)⟩
    rw [epl_get _ k hk]
    exact h.wf k (List.mem_of_getElem? hk)
theorem Tok.Wf.at {t : Tok} (h : t.Wf) {e : Int} (he : W64 e) : (t.at e).Wf := ⟨h.1, h.2.1, h.2.2.1, h.2.2.2.1, h.2.2.2.2.1, he⟩
theorem tbody_len {t : Tok} (h : t.Wf) (k : List UInt8) : (tbody k t).length ≤ 102 := by
  have h1 := tfields_len h
  have h2 := ttag_len k t
  have h3 : (vput 32).length ≤ 10 := vput_len10 32 (by omega)
  unfold tbody
  simp only [List.length_append]
  omega
theorem kf_mem {x : Int} {b : List UInt8} : ∀ {l : List RK}, kf x l = some b → ∃ k ∈ l, k.b = b
  | [], h => by simp [kf] at h
  | a :: r, h => by
    unfold kf at h
    split at h
    · obtain rfl := Option.some.inj h
      exact ⟨a, by simp, rfl⟩
    · obtain ⟨k, hk, hb⟩ := kf_mem h
      exact ⟨k, by simp [hk], hb⟩
/-- the token's epoch is set -/
theorem TAt.setEp {w : World} {g : Nat} {t : Tok} (h : TAt w g t) (e : Int) : TAt (w.setCell ⟨g, 5, none⟩ (.int .i64 e)) g (t.at e) :=
  ⟨by rw [row_setCell h.row 5 (.int .i64 e)]; rfl⟩

set_option maxRecDepth 100000 in
set_option maxHeartbeats 6400000 in
theorem uissue_any (keep : Int) (v : Value) (l : List RK) (t : Tok) (w : World) (h : Ks w v l) (hw : -9223372036854775808 ≤ keep ∧ keep ≤ 9223372036854775807) (hwf : t.Wf) :
    Calls Tryz.prog 63 #[.agg #[.int .i64 keep, v], .agg t.row] w (IssuePost keep l t w) := by
  obtain ⟨n, hn⟩ : ∃ n, l.length = n := ⟨_, rfl⟩
  have HWA := Lib.hid (hwf.at (epl_wf h))
  obtain ⟨va, vc, kb, ko, rfl, h2, h3, hi, hc⟩ := h.open_ n hn
  have H := Lib.hid h
  have HW := Lib.hid hw
  have HI := Lib.hid hi
  have HCC := Lib.hid hc
  have HN := Lib.hid hn
  have hnb : (n : Int) ≤ 9223372036854775807 := by omega
  obtain ⟨w1, hw1⟩ : ∃ W, (w.alloc (.cells #[.int .i64 keep, .slice va n vc] 24)).alloc (.cells t.row 62) = W := ⟨_, rfl⟩
  have hb1 : Below w.heap.size w w1 := by rw [← hw1]; exact bel_al (bel_al (Below.refl _ _) _) _
  have hr1 : w1.heap[w.heap.size]? = some (.cells #[.int .i64 keep, .slice va n vc] 24 (0, 0)) := by rw [← hw1, alloc_get, if_neg (by simp), alloc_get, if_pos rfl]
  have ht1 : TAt w1 (w.heap.size + 1) t := ⟨by rw [← hw1, alloc_get, if_pos (by simp)]⟩
  obtain ⟨q, hq⟩ : ∃ q, w.heap.size + 1 = q := ⟨_, rfl⟩
  obtain ⟨g, hg⟩ : ∃ g, w.heap.size = g := ⟨_, rfl⟩
  have HQ : Hid (g < q ∧ q = g + 1) := by constructor <;> omega
  have HQ2 : Hid (w.heap.size = g) := hg
  rw [hq] at ht1
  rw [hg] at hr1
  have HB1 := Lib.hid hb1
  have HR1 := Lib.hid hr1
  have HT1 := Lib.hid ht1
  unfold Tok.row at hw1
  have c0 : w1.cell? ⟨g, 0, none⟩ = some (.int .i64 keep) := cell_of_row w1 _ _ _ _ _ hr1
  have c1 : w1.cell? ⟨g, 1, none⟩ = some (.slice va n vc) := cell_of_row w1 _ _ _ _ _ hr1
  have HWW := Lib.hid hw1
  have HQ3 := Lib.hid hq
  clear h hi hc hwf hw hb1 hr1 ht1 hw1 hn hg hq h2 h3
  unfold Tok.row
  have T1 : Hid (Calls Tryz.prog 92 #[.agg #[.int .i64 keep, .slice va n vc]] w1 fun e w' => e = .returned (.bool (kok keep l)) ∧ Below w1.heap.size w1 w') := rrright_any keep _ l w1 (H.out.below HB1.out) HW.out
  obtain ⟨E, hE⟩ : ∃ E, epl l = E := ⟨_, rfl⟩
  have HE : Hid (epl l = E) := hE
  rw [hE] at HWA
  have HPOST : Hid (∀ e w', (kok keep l = false ∨ tmay (t.at E) = false) → e = .returned (.tuple #[.slice none 0 0, .int .i64 2]) → Below w.heap.size w w' → IssuePost keep l t w e w') := by
    intro e w' hno he hb
    have : tissue keep l t = ([], 2) := by
      unfold tissue
      rw [if_neg]
      rw [HE.out]
      rintro ⟨h1, h2⟩
      rcases hno with h3 | h3
      · rw [h1] at h3; cases h3
      · rw [h2] at h3; cases h3
    unfold IssuePost
    rw [this]
    exact ⟨_, he, (Ob.nil _ 0 5).bs, hb⟩
  have HPOS2 : Hid (∀ e w' vv, kok keep l = true → tmay (t.at E) = true → e = .returned (.tuple #[vv, .int .i64 0]) → Bs w' vv (fframe 2 (tbody ((kf E l).getD []) (t.at E))) → Below w.heap.size w w' → IssuePost keep l t w e w') := by
    intro e w' vv h1 h2 he hbs hb
    have : tissue keep l t = (fframe 2 (tbody ((kf E l).getD []) (t.at E)), 0) := by
      unfold tissue
      rw [if_pos]
      · rw [HE.out]
      · rw [HE.out]; exact ⟨h1, h2⟩
    unfold IssuePost
    rw [this]
    exact ⟨_, he, hbs, hb⟩
  clear hE
  by_cases hk : RP keep l
  · have hb1 := kok_yes hk
    rw [hb1] at T1 HPOST HPOS2
    have hn1 : 1 ≤ n := by have h1 := hk.2.2.1; have h2 := HN.out; omega
    obtain ⟨kl, hkl⟩ : ∃ k, l[n - 1]? = some k := ⟨_, List.getElem?_eq_getElem (by have := HN.out; omega)⟩
    have hke : kl.ep = E := by rw [← HE.out]; exact (epl_get l kl (by rw [HN.out]; exact hkl)).symm
    have hkb : (kf E l).getD [] = kl.b := by rw [← hke, rp_kf hk _ kl hkl]; rfl
    have hkbl := (hk.2.2.2.2.2.2 _ kl hkl).1
    rw [hkb] at HPOS2
    obtain ⟨ke, ka, kc, kbb⟩ := kl
    dsimp only at hke hkbl HPOS2
    subst hke
    have hkbs : Bs w (.slice ka 32 kc) kbb := by
      have := H.out.b _ (List.mem_of_getElem? hkl)
      unfold RK.v at this
      dsimp only at this
      rw [hkbl] at this
      exact this
    have HKB := Lib.hid hkbs
    have HKC : Hid (∀ W, Below w.heap.size w W → W.cell? ⟨kb, ko (n - 1), none⟩ = some (.int .i64 ke) ∧ W.cell? ⟨kb, ko (n - 1) + 1, none⟩ = some (.slice ka 32 kc)) := by
      intro W hW
      have := HCC.out W hW _ _ hkl
      unfold RK.v at this
      dsimp only at this
      rw [hkbl] at this
      exact this
    have HKL := Lib.hid hkbl
    have x0 := fun W => HI.out W (n - 1) (by omega)
    have e0 : ((n - 1 : Nat) : Int) = (n : Int) - 1 := by omega
    rw [e0] at x0
    have hnb2 : (1 : Int) ≤ n := by omega
    clear hb1 hk hkl hkb hkbl hkbs e0 hn1
    obtain ⟨o1, ho1⟩ : ∃ o, ko (n - 1) = o := ⟨_, rfl⟩
    rw [ho1] at HKC x0
    clear ho1
    go_enter Tryz.func63, Tryz.ntmps63
    go_upto_region 1 with fail
    rw [HWW.out]
    rw [HQ3.out, HQ2.out]
    go_upto_region 3 with (go_at_call 92; refine T1.out.mono ?_; rintro e w2 ⟨rfl, hb2⟩; have HB2 := Lib.hid hb2; have HBA := Lib.hid (bel_tr HB1.out hb2); clear hb2)
    clear c0 c1
    have hr2 := (HB2.out.block _ (heap_lt HR1.out)).trans HR1.out
    have ht2 := HT1.out.below HB2.out
    have c0 : w2.cell? ⟨g, 0, none⟩ = some (.int .i64 keep) := cell_of_row w2 _ _ _ _ _ hr2
    have c1 : w2.cell? ⟨g, 1, none⟩ = some (.slice va n vc) := cell_of_row w2 _ _ _ _ _ hr2
    obtain ⟨k0, k1⟩ := HKC.out w2 HBA.out
    have HT2 := Lib.hid ht2
    clear hr2 ht2
    go_upto_region 4 with (with_reducible refine wpList_store_new rfl _ _ rfl rfl rfl (by kernel_rfl) (by simp) (by simp [Value.oneCell']) ?_)
    clear c0 c1 k0 k1 x0
    have hb3 := bel_al HBA.out (.cells #[.int .i64 ke, .slice ka 32 kc] 34)
    have hrk : (w2.alloc (.cells #[.int .i64 ke, .slice ka 32 kc] 34)).heap[w2.heap.size]? = some (.cells #[.int .i64 ke, .slice ka 32 kc] 34 (0, 0)) := heap_alloc_new _ _
    have ht3 := HT2.out.below ((Below.refl w2.heap.size w2).alloc (Nat.le_refl _) (.cells #[.int .i64 ke, .slice ka 32 kc] 34))
    obtain ⟨w3, hw3⟩ : ∃ X, w2.alloc (.cells #[.int .i64 ke, .slice ka 32 kc] 34) = X := ⟨_, rfl⟩
    obtain ⟨p, hp⟩ : ∃ p, w2.heap.size = p := ⟨_, rfl⟩
    have hqp : q < p := by rw [← hp]; exact heap_lt HT2.out.row
    rw [hw3] at hb3 ht3
    rw [hw3, hp] at hrk
    rw [hw3, hp]
    have k0 : w3.cell? ⟨p, 0, none⟩ = some (.int .i64 ke) := cell_of_row w3 _ _ _ _ _ hrk
    have f5 := row_free ht3.row 5
    obtain ⟨_, _, _, _, _, d5⟩ := ht3.cells
    have HT3 := Lib.hid ht3
    have HRK := Lib.hid hrk
    have HB3 := Lib.hid hb3
    clear hw3 hp hb3 hrk ht3 HT2 HBA
    go_upto_region 5 with fail
    clear f5 d5 k0
    have hset := set_only w3 q 5 (.int .i64 ke)
    have hta := HT3.out.setEp ke
    obtain ⟨W, hW⟩ : ∃ X, w3.setCell ⟨q, 5, none⟩ (.int .i64 ke) = X := ⟨_, rfl⟩
    rw [hW] at hset hta ⊢
    have hBW : Below w.heap.size w W := HB3.out.trans (hset.below (fun k hk => by have := HQ.out; have := HQ2.out; omega) HB3.out.size)
    have hrw : W.heap[p]? = some (.cells #[.int .i64 ke, .slice ka 32 kc] 34 (0, 0)) := (hset.block p (heap_lt HRK.out) (by omega)).trans HRK.out
    have HBW := Lib.hid hBW
    have HRW := Lib.hid hrw
    have HTA := Lib.hid hta
    clear hset hta hW hBW hrw HT3 HB3 HRK HT1 HR1 HB1 hqp
    have HC : Hid (∀ X, Below W.heap.size W X → X.cell? ⟨p, 1, none⟩ = some (.slice ka 32 kc) ∧ X.cell? ⟨q, 0, none⟩ = some (.int .i64 t.trip) ∧ X.cell? ⟨q, 1, none⟩ = some (.int .i64 t.acct) ∧ X.cell? ⟨q, 2, none⟩ = some (.int .i64 t.stop) ∧ X.cell? ⟨q, 3, none⟩ = some (.int .i64 t.iss) ∧ X.cell? ⟨q, 4, none⟩ = some (.int .i64 t.til) ∧ X.cell? ⟨q, 5, none⟩ = some (.int .i64 ke)) := fun X hX =>
      have h1 := (hX.block p (heap_lt HRW.out)).trans HRW.out
      ⟨cell_of_row X _ _ _ _ _ h1, (HTA.out.below hX).cells⟩
    have T2 : Hid (∀ X, Calls Tryz.prog 55 #[.agg #[.int .i64 t.trip, .int .i64 t.acct, .int .i64 t.stop, .int .i64 t.iss, .int .i64 t.til, .int .i64 ke]] X fun e w' => e = .returned (.bool (tmay (t.at ke))) ∧ Below X.heap.size X w') := fun X => umay_any (t.at ke) X
    obtain ⟨b2, hb2⟩ : ∃ b, tmay (t.at ke) = b := ⟨_, rfl⟩
    rw [hb2] at T2 HPOST HPOS2
    clear hb2 HE
    obtain ⟨_, d0, d1, d2, d3, d4, d5⟩ := HC.out W (Below.refl _ _)
    rcases b2 with _ | _
    · go_upto_region 6 with (go_at_call 55; refine (T2.out _).mono ?_; rintro e w5 ⟨rfl, hb5⟩; have HB5 := Lib.hid hb5; clear hb5)
      go_wp2
      go_ret2
      exact HPOST.out _ _ (by simp) rfl (HBW.out.trans (HB5.out.mono HBW.out.size))
    · go_upto_region 7 with (go_at_call 55; refine (T2.out _).mono ?_; rintro e w5 ⟨rfl, hb5⟩; have HB5 := Lib.hid hb5; clear hb5)
      clear d0 d1 d2 d3 d4 d5
      have hHC0 := HC.out _ HB5.out.drew
      have HC0 := Lib.hid hHC0
      obtain ⟨k1, d0, d1, d2, d3, d4, d5⟩ := HC.out _ HB5.out
      have TF : Hid (∀ X, Calls Tryz.prog 67 #[.agg #[.int .i64 t.trip, .int .i64 t.acct, .int .i64 t.stop, .int .i64 t.iss, .int .i64 t.til, .int .i64 ke]] X fun e w' => ∃ v, e = .returned v ∧ Ob w' X.heap.size 5 v (tfields (t.at ke)) ∧ Below X.heap.size X w') := fun X => ufields_any (t.at ke) HWA.out X
      have TG : Hid (∀ X, Below W.heap.size W X → Calls Tryz.prog 29 #[.slice ka 32 kc, .agg #[.int .i64 t.trip, .int .i64 t.acct, .int .i64 t.stop, .int .i64 t.iss, .int .i64 t.til, .int .i64 ke]] X fun e w' => ∃ v, e = .returned v ∧ Ob w' X.heap.size 5 v (ttag kbb (t.at ke)) ∧ Below X.heap.size X w') := fun X hX => utag_any _ kbb (t.at ke) HWA.out X ((HKB.out.below HBW.out).below hX) (by have := HKL.out; omega)
      have TB : Hid (∀ X (vb : Value) B, Ob X B 5 vb (ttag kbb (t.at ke)) → Calls Tryz.prog 37 #[vb] X fun e w' => ∃ v, e = .returned v ∧ Ob w' X.heap.size 5 v (vput 32 ++ ttag kbb (t.at ke)) ∧ Below X.heap.size X w') := by
        intro X vb B hb
        have := rbytes_any vb _ X hb.bs (by rw [ttag_len]; omega)
        rw [ttag_len] at this
        exact this
      have HLL : Hid ((vput 32 ++ ttag kbb (t.at ke)).length ≤ 42) := by
        have h3 : (vput 32).length ≤ 10 := vput_len10 32 (by omega)
        show List.length _ ≤ 42
        rw [List.length_append, ttag_len]; omega
      have HFL := Lib.hid (tfields_len HWA.out)
      have HTL := Lib.hid (tbody_len HWA.out kbb)
      have HLA : Hid (((tfields (t.at ke)).length + (vput 32 ++ ttag kbb (t.at ke)).length) * 1 ≤ 140737488355328 ∧ (tfields (t.at ke)).length + (vput 32 ++ ttag kbb (t.at ke)).length ≤ 9223372036854775807) := by
        have h1 := HLL.out; have h2 := HFL.out; constructor <;> omega
      clear hHC0
      go_region_held3 (fun X => X.cell? ⟨p, 1, none⟩ = some (.slice ka 32 kc) ∧ X.cell? ⟨q, 0, none⟩ = some (.int .i64 t.trip) ∧ X.cell? ⟨q, 1, none⟩ = some (.int .i64 t.acct) ∧ X.cell? ⟨q, 2, none⟩ = some (.int .i64 t.stop) ∧ X.cell? ⟨q, 3, none⟩ = some (.int .i64 t.iss) ∧ X.cell? ⟨q, 4, none⟩ = some (.int .i64 t.til) ∧ X.cell? ⟨q, 5, none⟩ = some (.int .i64 ke))
        (first | with_reducible exact HC0.out | with_reducible exact HC.out _ HBa | with_reducible exact HC.out _ HBb | with_reducible exact HC.out _ HBc | with_reducible exact HC.out _ HBd | with_reducible exact HC.out _ HBe | go_keep)
        (first
          | (go_at_call 67; with_reducible refine (TF.out _).mono ?_; rintro e wa ⟨v1, rfl, hoa, hba⟩; have HBa := bel_tr (w := W) HB5.out.drew hba)
          | (go_at_call 29; with_reducible refine (TG.out _ HBa).mono ?_; rintro e wb ⟨v2, rfl, hob, hbb⟩; have HBb := bel_tr (w := W) HBa hbb)
          | (go_at_call 37; with_reducible refine (TB.out _ _ _ hob).mono ?_; rintro e wc ⟨v3, rfl, hoc, hbc⟩; have HBc := bel_tr (w := W) HBb hbc; have hoa2 := (hoa.below (bel_tr hbb hbc)).mono HB5.out.drew.size)
          | (refine step_append_bytes_mv hoa2 hoc.bs elB HLA.out.1 HLA.out.2 HBc.size ?_ _ _ rfl rfl rfl rfl; intro v4 wd hod hgd _; have HBd : Below W.heap.size W wd := HBc.grown hgd HBc.size (fun k hk => (hoa2.lt k hk).1))
          | (go_at_call 35; refine (rfput_any 2 2 rfl _ (tbody kbb (t.at ke)) _ hod.bs (by have := HTL.out; omega)).mono ?_; rintro e we ⟨v5, rfl, hoe, hbe⟩; have HBe := bel_tr (w := W) HBd hbe))
      all_goals
        have HOE := Lib.hid hoe.bs
        have HBE := Lib.hid (HBW.out.trans (HBe.mono HBW.out.size))
        clear hoa hoa2 hob hoc hod hoe hba hbb hbc hgd hbe HBa HBb HBc HBd HBe
        go_wp2
        go_ret2
        exact HPOS2.out _ _ _ (by simp) (by simp) rfl HOE.out HBE.out
  · have hb1 := kok_no hk
    rw [hb1] at T1 HPOST
    clear hb1 hk HE HPOS2
    go_enter Tryz.func63, Tryz.ntmps63
    go_upto_region 1 with fail
    rw [HWW.out]
    rw [HQ3.out, HQ2.out]
    go_wp2_with (go_at_call 92; refine T1.out.mono ?_; rintro e w2 ⟨rfl, hb2⟩; have HBA := Lib.hid (bel_tr HB1.out hb2); clear hb2)
    go_ret2
    exact HPOST.out _ _ (by simp) rfl HBA.out
end Go.Proofs.YtjnbdeopoohnmaaGreatDoor
