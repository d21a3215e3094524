/- Layer 10 (token): the walk of the statement TokenIssues. -/
import Derived.Test.YtmhgdddnjnichaaDoorTok6
import Derived.Deep.RegionHeld3
set_option linter.unusedSimpArgs false
namespace Go.Proofs.YtmhgdddnjnichaaDoor
open Go.RowKit Go.Sort

set_option maxRecDepth 100000 in
set_option maxHeartbeats 6400000 in
theorem tokenissues_walk (keep : Int) (v : Value) (l : List RK) (t : Tok) (w : World) (h : Ks w v l) (hw : -9223372036854775808 ≤ keep ∧ keep ≤ 9223372036854775807) (hwf : t.Wf) (hT : Tabbed w) :
    Calls Tryd.prog 9 #[.agg #[.int .i64 keep, v], .agg t.row] w fun e w' => e = .returned (.bool true) ∧ Below w.heap.size w w' := by
  obtain ⟨va, vc, hvs⟩ := h.g.shape
  subst hvs
  obtain ⟨n, hn⟩ : ∃ n, l.length = n := ⟨_, rfl⟩
  rw [hn] at h ⊢
  have H := Lib.hid h
  have HT := Lib.hid hT
  have HWF := Lib.hid hwf
  have HW := Lib.hid hw
  obtain ⟨w1, hw1⟩ : ∃ W, (w.alloc (.cells #[.int .i64 keep, .slice va n vc] 39)).alloc (.cells t.row 57) = W := ⟨_, rfl⟩
  have hb1 : Below w.heap.size w w1 := by rw [← hw1]; exact bel_al (bel_al (Below.refl _ _) _) _
  have hr1 : w1.heap[w.heap.size]? = some (.cells #[.int .i64 keep, .slice va n vc] 39 (0, 0)) := by rw [← hw1, alloc_get, if_neg (by simp), alloc_get, if_pos rfl]
  have ht1 : TAt w1 (w.heap.size + 1) t := ⟨by rw [← hw1, alloc_get, if_pos (by simp)]⟩
  obtain ⟨q, hq⟩ : ∃ q, w.heap.size + 1 = q := ⟨_, rfl⟩
  obtain ⟨g, hg⟩ : ∃ g, w.heap.size = g := ⟨_, rfl⟩
  have HQ2 : Hid (w.heap.size = g) := hg
  rw [hq] at ht1
  rw [hg] at hr1
  have HB1 := Lib.hid hb1
  have HR1 := Lib.hid hr1
  have HT1 := Lib.hid ht1
  unfold Tok.row at hw1
  have HWW := Lib.hid hw1
  have HQ3 := Lib.hid hq
  have HC : Hid (∀ X, Below w1.heap.size w1 X → (X.cell? ⟨g, 0, none⟩ = some (.int .i64 keep) ∧ X.cell? ⟨g, 1, none⟩ = some (.slice va n vc)) ∧ X.cell? ⟨q, 0, none⟩ = some (.int .i64 t.trip) ∧ X.cell? ⟨q, 1, none⟩ = some (.int .i64 t.acct) ∧ X.cell? ⟨q, 2, none⟩ = some (.int .i64 t.stop) ∧ X.cell? ⟨q, 3, none⟩ = some (.int .i64 t.iss) ∧ X.cell? ⟨q, 4, none⟩ = some (.int .i64 t.til) ∧ X.cell? ⟨q, 5, none⟩ = some (.int .i64 t.ep)) := fun X hX =>
    have h1 := (hX.block g (heap_lt HR1.out)).trans HR1.out
    ⟨⟨cell_of_row X _ _ _ _ _ h1, cell_of_row X _ _ _ _ _ h1⟩, (HT1.out.below hX).cells⟩
  clear h hT hwf hw hb1 hr1 ht1 hw1 hn hg hq
  unfold Tok.row
  go_enter Tryd.func9, Tryd.ntmps9
  go_upto_region 1 with fail
  rw [HWW.out, HQ3.out, HQ2.out]
  go_upto_region 3 with (go_at_call 39; refine (awake10_any _ (HT.out.below HB1.out)).mono ?_; rintro e w2 ⟨rfl, hb2⟩; have HB2 := Lib.hid hb2; clear hb2)
  obtain ⟨⟨c0, c1⟩, _⟩ := HC.out _ HB2.out
  have hfew := few10_any keep (.slice va n vc) l w2 (H.out.below (bel_tr HB1.out HB2.out))
  by_cases hf : RFew l
  · rw [rfew_yes hf] at hfew
    have HFEW := Lib.hid hfew
    have HS : Hid (∀ k ∈ l, k.b.length ≤ 1000000) := fun k hk => by
      obtain ⟨i, hi⟩ := List.mem_iff_getElem?.1 hk
      have := hf.2 i k hi
      omega
    clear hfew hf
    go_upto_region 5 with (go_at_call 40; refine HFEW.out.mono ?_; rintro e w3 ⟨rfl, hb3⟩; have HB3 := Lib.hid (bel_tr HB2.out hb3); clear hb3)
    clear c0 c1
    obtain ⟨⟨c0, c1⟩, d0, d1, d2, d3, d4, d5⟩ := HC.out _ HB3.out
    obtain ⟨bb, er, hti⟩ : ∃ b e, tissue keep l t = (b, e) := ⟨_, _, rfl⟩
    have hi := issue_any keep (.slice va n vc) l t w3 (H.out.below (bel_tr HB1.out HB3.out)) HW.out HWF.out HS.out (HT.out.below (bel_tr HB1.out HB3.out))
    unfold IssuePost at hi
    rw [hti] at hi
    simp only at hi
    unfold Tok.row at hi
    have HI := Lib.hid hi
    have HU : Hid (∀ X, Below w1.heap.size w1 X → Calls Tryd.prog 42 #[.agg #[.int .i64 keep, .slice va n vc], .agg #[.int .i64 t.trip, .int .i64 t.acct, .int .i64 t.stop, .int .i64 t.iss, .int .i64 t.til, .int .i64 t.ep]] X fun e w' => ∃ v, e = .returned (.tuple #[v, .int .i64 (er : Nat)]) ∧ Bs w' v bb ∧ Below X.heap.size X w') := by
      intro X hX
      have := uissue_any keep (.slice va n vc) l t X (H.out.below (bel_tr HB1.out hX)) HW.out HWF.out
      unfold IssuePost at this
      rw [hti] at this
      exact this
    clear hi hti
    go_upto_region 6 with (go_at_call 41; refine HI.out.mono ?_; rintro e w4 ⟨b1, rfl, hbs1, hb4⟩; have HBS1 := Lib.hid hbs1; have HB4 := Lib.hid (bel_tr HB3.out hb4); clear hbs1 hb4)
    clear c0 c1 d0 d1 d2 d3 d4 d5
    obtain ⟨⟨c0, c1⟩, d0, d1, d2, d3, d4, d5⟩ := HC.out _ HB4.out
    go_upto_region 7 with (go_at_call 42; refine (HU.out _ HB4.out).mono ?_; rintro e w5 ⟨b2, rfl, hbs2, hb5⟩; have HBS2 := Lib.hid hbs2; have HBS1' := Lib.hid (HBS1.out.below hb5); have HB5 := Lib.hid (bel_tr HB4.out hb5); clear hbs2 hb5)
    clear c0 c1 d0 d1 d2 d3 d4 d5 HFEW HBS1 HI HU
    have HC0 := Lib.hid (HC.out _ HB5.out.drew).2
    obtain ⟨_, d0, d1, d2, d3, d4, d5⟩ := HC.out _ HB5.out
    obtain ⟨bm, hbm⟩ : ∃ x, tmay t = x := ⟨_, rfl⟩
    have TF : Hid (∀ X, Calls Tryd.prog 45 #[.agg #[.int .i64 t.trip, .int .i64 t.acct, .int .i64 t.stop, .int .i64 t.iss, .int .i64 t.til, .int .i64 t.ep]] X fun e w' => ∃ v, e = .returned v ∧ Ob w' X.heap.size 5 v (tfields t) ∧ Below X.heap.size X w') := fun X => tfields_any t HWF.out X
    have UF : Hid (∀ X, Calls Tryd.prog 46 #[.agg #[.int .i64 t.trip, .int .i64 t.acct, .int .i64 t.stop, .int .i64 t.iss, .int .i64 t.til, .int .i64 t.ep]] X fun e w' => ∃ v, e = .returned v ∧ Ob w' X.heap.size 5 v (tfields t) ∧ Below X.heap.size X w') := fun X => ufields_any t HWF.out X
    have TM : Hid (∀ X, Calls Tryd.prog 43 #[.agg #[.int .i64 t.trip, .int .i64 t.acct, .int .i64 t.stop, .int .i64 t.iss, .int .i64 t.til, .int .i64 t.ep]] X fun e w' => e = .returned (.bool bm) ∧ Below X.heap.size X w') := fun X => by rw [← hbm]; exact tmay_any t X
    have UM : Hid (∀ X, Calls Tryd.prog 44 #[.agg #[.int .i64 t.trip, .int .i64 t.acct, .int .i64 t.stop, .int .i64 t.iss, .int .i64 t.til, .int .i64 t.ep]] X fun e w' => e = .returned (.bool bm) ∧ Below X.heap.size X w') := fun X => by rw [← hbm]; exact umay_any t X
    have TS : Hid (∀ X v1 v2 (b : List UInt8), Bs X v1 b → Bs X v2 b → Calls Tryd.prog 17 #[v1, v2] X fun e w' => e = .returned (.bool true) ∧ Below X.heap.size X w') := fun X v1 v2 b h1 h2 => by
      have := same_any v1 v2 b b X h1 h2
      rw [beq_self_eq_true] at this
      exact this
    have HBS1 := Lib.hid HBS1'.out.drew
    have HBS3 := Lib.hid HBS2.out.drew
    have heq : ((er : Int) == er) = true := by simp
    have heq2 : (bm == bm) = true := by simp
    clear hbm HBS1' HBS2
    go_region_held3 (fun X => X.cell? ⟨q, 0, none⟩ = some (.int .i64 t.trip) ∧ X.cell? ⟨q, 1, none⟩ = some (.int .i64 t.acct) ∧ X.cell? ⟨q, 2, none⟩ = some (.int .i64 t.stop) ∧ X.cell? ⟨q, 3, none⟩ = some (.int .i64 t.iss) ∧ X.cell? ⟨q, 4, none⟩ = some (.int .i64 t.til) ∧ X.cell? ⟨q, 5, none⟩ = some (.int .i64 t.ep))
      (first | with_reducible exact HC0.out | with_reducible exact (HC.out _ HBa).2 | with_reducible exact (HC.out _ HBb).2 | with_reducible exact (HC.out _ HBc).2 | with_reducible exact (HC.out _ HBd).2 | with_reducible exact (HC.out _ HBe).2 | with_reducible exact (HC.out _ HBf).2 | go_keep)
      (first
        | (go_at_call 17; with_reducible refine (TS.out _ _ _ _ HBS1.out HBS3.out).mono ?_; rintro e wa ⟨rfl, hba⟩; have HBa := bel_tr (w := w1) HB5.out.drew hba)
        | (go_at_call 43; with_reducible refine (TM.out _).mono ?_; rintro e wb ⟨rfl, hbb⟩; have HBb := bel_tr (w := w1) HBa hbb)
        | (go_at_call 44; with_reducible refine (UM.out _).mono ?_; rintro e wc ⟨rfl, hbc⟩; have HBc := bel_tr (w := w1) HBb hbc)
        | (go_at_call 45; with_reducible refine (TF.out _).mono ?_; rintro e wd ⟨v1, rfl, hod, hbd⟩; have HBd := bel_tr (w := w1) HBc hbd)
        | (go_at_call 46; with_reducible refine (UF.out _).mono ?_; rintro e we ⟨v2, rfl, hoe, hbe⟩; have HBe := bel_tr (w := w1) HBd hbe; have hod2 := (hod.below hbe).bs)
        | (go_at_call 17; refine (TS.out _ _ _ _ hod2 hoe.bs).mono ?_; rintro e wf ⟨rfl, hbf⟩; have HBf := bel_tr (w := w1) HBe hbf))
    all_goals
      have HBE := Lib.hid (bel_tr HB1.out HBf)
      clear hba hbb hbc hod hbd hoe hbe hod2 hbf HBa HBb HBc HBd HBe HBf
      go_wp2
      go_ret
      exact ⟨rfl, HBE.out⟩
  · rw [rfew_no hf] at hfew
    have HFEW := Lib.hid hfew
    clear hfew hf
    go_wp2_with (go_at_call 40; refine HFEW.out.mono ?_; rintro e w3 ⟨rfl, hb3⟩; have HB3 := Lib.hid (bel_tr HB1.out (bel_tr HB2.out hb3)); clear hb3)
    go_ret
    exact ⟨rfl, HB3.out⟩

end Go.Proofs.YtmhgdddnjnichaaDoor
