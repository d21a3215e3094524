/- Layer 36 (snap): a journal on a new store; the chapter's example; the law's store. -/
import Derived.Test.YtbonapdainlpjaaSp9
set_option linter.unusedSimpArgs false
namespace Go.Proofs.Ytbonapdainlpjaa
open Go.RowKit Go.Sort


theorem sok_nil : ¬ sok [] := by rintro ⟨x, L, h, _⟩; cases h
theorem spick_nil : spick [] [] = false := decide_eq_false (fun h => sok_nil h.1)
theorem snew_nil : snew [] [] = true := decide_eq_true ⟨sok_nil, sok_nil⟩

/-- the journal of a new store -/
def NewJ (w : World) (B g gb n : Nat) (e : Ending) (w' : World) : Prop :=
  ∃ s' jp L, e = .returned (.tuple #[.pointer (some ⟨jp, 0, none⟩), .int .i64 0]) ∧ StAt w' B g gb none s' ∧ JAt w' B jp g L false (n / 2) false ∧ w.heap.size ≤ jp ∧ Only (stF g gb none) w w' ∧ (∀ i, LOk s' (L i).d) ∧
    (L false).d.recs = [srec 1 []] ∧ (L true).d.recs = [] ∧ s'.fu = none ∧ s'.n = n ∧ 0 ≤ s'.cnt ∧ s'.cnt ≤ 4 * (n / 2 : Nat)

theorem jOpen_new (w : World) (B g gb n : Nat) (hs : StAt w B g gb none (bzero n)) (hn : 2 ≤ n) (hB : B ≤ w.heap.size) : Calls Try.prog 56 #[.pointer (some ⟨g, 0, none⟩)] w (NewJ w B g gb n) := by
  have hz : ∀ k, (lrecs (lreg (bzero n) k (n / 2))).1 = [] := fun k => by rw [lreg_zero, lrecs_zeros]
  refine (jOpen_any w B g gb none (bzero n) (n / 2) [] [] hs rfl rfl (by omega) (by show (0 : Int) ≤ 0; omega) (by show (0 : Int) ≤ _; omega) (Safe.none rfl _) hB (hz _) (hz _)).mono ?_
  rintro e w' ⟨fo', s', hst, ho, hfo, hk, hr⟩
  rw [spick_nil, sbank_false, snew_nil, if_pos rfl, sgen_srec (by omega)] at hr
  rcases hr with ⟨_, jp, L, rfl, hj, hjp, hL, -⟩ | ⟨h, _⟩
  · have hfu := hk.fu rfl
    obtain rfl := hst.fo_none hfu
    have h1 := hk.lo
    have h2 := hk.hi
    refine ⟨s', jp, L, rfl, hst, hj, hjp, ho, fun i => (hL i).1, (hL false).2, (hL true).2, hfu, hk.n, h1, ?_⟩
    have : (bzero n).cnt = 0 := rfl
    omega
  · omega

theorem stands5 : lstands [5] = [1, 5, 165] := by
  unfold lstands
  rw [show ([5] : List UInt8).length = 1 from rfl, vput_small (by omega)]
  rfl

set_option maxRecDepth 100000 in
set_option maxHeartbeats 1600000 in
theorem sStore_any (v : Value) (l : List UInt8) (w : World) (hv : Bs w v l) (h1 : 64 ≤ l.length) (h2 : l.length ≤ 100000) : Calls Try.prog 55 #[v] w (StorePost w l) := by
  obtain ⟨L, hL⟩ : ∃ L, l.length = L := ⟨_, rfl⟩
  obtain ⟨n, hn⟩ : ∃ n, L / 64 = n := ⟨_, rfl⟩
  have hdiv : ((L : Int) / 64) = (n : Int) := by omega
  have hn1 : 1 ≤ n := by omega
  have hn2 : n ≤ 32768 := by omega
  have CN := Lib.hid (bNew_any n hn1 hn2 w)
  obtain ⟨a, c, hs⟩ := hv.shape
  rw [hL] at hs h1 h2
  subst hs
  have HL := Lib.hid hL
  have HV := Lib.hid hv
  have HN := Lib.hid hn
  clear hL hv hn
  go_enter Try.func55, Try.ntmps55
  go_wp2_with fail
  refine CN.out.mono ?_
  rintro e w1 ⟨rfl, hb1, hst1⟩
  have HB1 := Lib.hid hb1
  have CL := Lib.hid (bLen_any _ _ _ _ _ _ hst1)
  have START : Hid (StAt w1 w.heap.size (w.heap.size + 1) w.heap.size none ⟨n, bfill l 0, false, none, ((0 : Nat) : Int)⟩) := by
    have : bfill l 0 = fun _ => 0 := by funext j; unfold bfill; rw [if_neg (by omega)]
    rw [this]
    exact hst1
  obtain ⟨g, hg⟩ : ∃ g, w.heap.size + 1 = g := ⟨_, rfl⟩
  rw [hg] at START CL
  have HG := Lib.hid hg
  unfold bzero at CL
  simp only at CL
  clear hb1 hst1
  go_wp2_with (go_at_call 27; refine CL.out.mono ?_; rintro e w' ⟨rfl, rfl⟩)
  go_loopw [17] (fun vi wr => ∃ k : Nat, k ≤ n ∧ vi = .int .i64 k ∧ Hid (Below w.heap.size w wr ∧ StAt wr w.heap.size g w.heap.size none ⟨n, bfill l k, false, none, (k : Int)⟩)) (fun vi _ => n - (intOf vi).toNat)
  case atStart => exact ⟨0, by omega, rfl, HB1.out, START.out⟩
  case round =>
    obtain ⟨k, hk, rfl, HR⟩ := hrel
    clear START
    by_cases hlt : k < n
    · have e5 : (k : Int) < n := by omega
      obtain ⟨Y, hY, hYb⟩ := Bs.piece (P := Try.prog) elB HV.out (k * 64) ((k + 1) * 64) (by omega) (by rw [HL.out]; have := HN.out; omega)
      rw [show (k + 1) * 64 - k * 64 = 64 by omega] at hYb
      rw [show (((k * 64 : Nat)) : Int) = (k : Int) * 64 by omega, show ((((k + 1) * 64 : Nat)) : Int) = ((k : Int) + 1) * 64 by omega] at hY
      have hYr := hYb.below HR.out.1
      have hpl : ((l.drop (k * 64)).take 64).length = 64 := by rw [List.length_take, List.length_drop, HL.out]; have := HN.out; omega
      have hoff : SOff g w.heap.size none Y := by
        intro j hj hf
        have h3 := hYb.lt (by intro e; rw [e] at hpl; simp at hpl) j hj
        have h4 := HR.out.2.foot j hf
        omega
      have CW := bWrite_any g w.heap.size none _ (k : Int) Y _ w.heap.size wr HR.out.2 hYr hoff (by show (0 : Int) ≤ (k : Int); omega) (by show (k : Int) ≤ 4611686018427387904; omega)
      have hm : bmayE (⟨n, bfill l k, false, none, (k : Int)⟩ : BSt) (k : Int) = 0 := by
        unfold bmayE
        rw [if_neg (by simp), if_pos ⟨by omega, by show (k : Int) < (n : Int); omega⟩]
      have hE : bwrE (⟨n, bfill l k, false, none, (k : Int)⟩ : BSt) (k : Int) ((l.drop (k * 64)).take 64) = 0 := by
        unfold bwrE
        rw [hm, if_pos rfl, if_pos hpl]
      have hS : bwrS (⟨n, bfill l k, false, none, (k : Int)⟩ : BSt) (k : Int) ((l.drop (k * 64)).take 64) = ⟨n, bfill l (k + 1), false, none, ((k + 1 : Nat) : Int)⟩ := by
        unfold bwrS
        rw [hm, if_pos ⟨rfl, hpl⟩]
        simp only [Int.toNat_natCast]
        rw [bfill_more l k (by rw [HL.out]; have := HN.out; omega)]
        simp
      unfold WritePost at CW
      rw [hE, hS] at CW
      have CWH := Lib.hid CW
      have HLT := Lib.hid hlt
      clear CW hYb hYr hpl hoff hm hE hS hlt
      go_wp2_with fail
      refine CWH.out.mono ?_
      rintro e w3 ⟨rfl, fo', hst3, ho3, hf3⟩
      have hfo : fo' = none := by
        rcases hst3.fus with h | ⟨j, a, b, _, h, _⟩
        · exact h.1
        · cases h
      subst hfo
      have hf : Hid (Below w.heap.size w w3 ∧ StAt w3 w.heap.size g w.heap.size none ⟨n, bfill l (k + 1), false, none, ((k + 1 : Nat) : Int)⟩) :=
        ⟨HR.out.1.trans (ho3.below (fun j hj => (HR.out.2.foot j hj).1) HR.out.1.size), hst3⟩
      clear hst3 ho3 hf3
      go_wp2_with fail
      go_roundw
      case rel => exact ⟨k + 1, HLT.out, by go_num, hf⟩
      case measure => simp [intOf]; have := HLT.out; omega
    · obtain rfl : k = n := by omega
      have e5 : ¬ (k : Int) < k := by omega
      go_wp2
      go_ret
      refine ⟨g, w.heap.size, rfl, HR.out.1, ?_⟩
      rw [HL.out, HN.out]
      exact HR.out.2


set_option maxRecDepth 100000 in
set_option maxHeartbeats 3200000 in
theorem sAwake_any (w : World) : Calls Try.prog 54 #[] w fun e w' => e = .returned (.bool true) ∧ Below w.heap.size w w' := by
  have CN := Lib.hid (bNew_any 4 (by omega) (by omega) w)
  rw [show ((4 : Nat) : Int) = 4 from rfl] at CN
  obtain ⟨B, hB⟩ : ∃ B, w.heap.size = B := ⟨_, rfl⟩
  rw [hB] at CN
  have HB := Lib.hid hB
  clear hB
  go_enter Try.func54, Try.ntmps54
  go_wp2_with fail
  refine CN.out.mono ?_
  rintro e w1 ⟨rfl, hb1, hst1⟩
  have hB1 : B ≤ w1.heap.size := by have := hb1.size; have := HB.out; omega
  have CO := Lib.hid (jOpen_new w1 B (B + 1) B 4 hst1 (by omega) hB1)
  have HST1 := Lib.hid hst1
  have HB1 := Lib.hid hb1
  have HBB1 := Lib.hid hB1
  clear hst1 hb1 hB1 CN
  go_wp2_with fail
  refine CO.out.mono ?_
  rintro e w2 ⟨s2, jp, L, rfl, hst2, hj2, hjp, ho2, hok2, hr0, hr1, hfu2, hn2, hc0, hc1⟩
  rw [show 4 / 2 = 2 from rfl] at hj2 hc1
  have hal : Below w2.heap.size w2 (w2.alloc (.cells #[.int .u8 5] 5)) := (Below.refl _ _).alloc (Nat.le_refl _) _
  have hlit := (ob_lit w2 5 #[.int .u8 5] [5] 1 rfl (by decide) rfl).bs
  have hB2 : B ≤ w2.heap.size := Nat.le_trans HBB1.out ho2.size
  have CA := Lib.hid (jAppend_any (w2.alloc (.cells #[.int .u8 5] 5)) B jp (B + 1) B none L false 2 s2 _ [5] (hj2.below hal) (hst2.below hal) (hok2 false) hc0 (by omega) hlit
    (by
      intro _ k hk hf
      simp only [Value.ownBlock, Option.some.injEq] at hk
      rcases hf with hf | hf | hf
      · have := (hst2.foot k hf).2; omega
      · have := heap_lt (hj2.lo false).row; omega
      · have := (hj2.lo false).b.lt; omega) (Nat.le_trans hB2 hal.size))
  have HOK2 := Lib.hid hok2
  have HFU2 := Lib.hid hfu2
  have HR0 := Lib.hid hr0
  have HB2 : Hid (Below B w (w2.alloc (.cells #[.int .u8 5] 5))) :=
    (HB1.out.trans (ho2.below (fun k hk => (HST1.out.foot k hk).1) HBB1.out)).trans (hal.mono hB2)
  have HAB := Lib.hid (Nat.le_trans hB2 hal.size)
  have HST2 := Lib.hid hst2
  have HNN := Lib.hid (hj2.nn false)
  have HLF := Lib.hid (fun k hk => LoAt.foot (hj2.lo false) k hk)
  clear hst2 hj2 hjp ho2 hok2 hr0 hr1 hfu2 hn2 hc0 hc1 hal hlit hB2 CO
  go_wp2_with fail
  refine CA.out.mono ?_
  rintro e w3 ⟨fo3, s3, x, E, rfl, hst3, hj3, ho3, -, hcase, -⟩
  have hfin2 : (L false).d.fin = 10 := by rw [(HOK2.out false).fin, HR0.out, lall_one, srec1_len]
  obtain ⟨d3, hd3⟩ : ∃ d, x.d = d := ⟨_, rfl⟩
  rw [hd3] at hcase
  have hE : E = 0 ∧ d3.recs = [srec 1 [], [5]] ∧ LOk s3 d3 := by
    cases hcase with
    | bad h1 => exact absurd ⟨by simp, by simp⟩ h1
    | full h1 h2 => rw [hfin2, stands5] at h2; simp at h2
    | ok _ _ h1 h2 h3 => exact ⟨rfl, by rw [h3.d1]; show (L false).d.recs ++ [[5]] = _; rw [HR0.out]; rfl, app_ok (HOK2.out false) h1 (by have h5 := stands5; rw [hfin2, HNN.out, h5]; decide) h3⟩
    | torn _ _ h1 h2 h3 => exact (h3.fu0 HFU2.out).elim
  have hgen : sgen (lset L false x false).d.recs = 1 := by rw [lset_same, hd3, hE.2.1, sgen_srec (by omega)]
  have hsn : ssnap (lset L false x false).d.recs = [] := by rw [lset_same, hd3, hE.2.1, ssnap_srec]
  have hsr : srecs (lset L false x false).d.recs = [[5]] := by rw [lset_same, hd3, hE.2.1, srecs_srec]
  have hsk : sok (lset L false x false).d.recs := by rw [lset_same, hd3, hE.2.1]; exact sok_srec _ _ _
  have hgd : ∀ r ∈ (lset L false x false).d.recs, lgood r := by rw [lset_same, hd3]; exact hE.2.2.good
  obtain ⟨rfl, -, -⟩ := hE
  have CG := Lib.hid (fun V (hV : Below w3.heap.size w3 V) => jGeneration_any V B jp (B + 1) _ false 2 false (hj3.below hV) (by rw [hgen]; omega))
  have CS := Lib.hid (fun V (hV : Below w3.heap.size w3 V) => jSnapshot_any V B jp (B + 1) _ false 2 false (hj3.below hV) hsk hgd)
  have CR := Lib.hid (fun V (hV : Below w3.heap.size w3 V) => jRecords_any V B jp (B + 1) _ false 2 false (hj3.below hV) hsk)
  rw [hgen] at CG
  rw [hsn] at CS
  rw [hsr] at CR
  have HB3 : Hid (Below B w w3) := by
    refine HB2.out.trans (ho3.below (fun k hk => ?_) HAB.out)
    rcases hk with hk | hk
    · exact (HST2.out.foot k hk).1
    · exact HLF.out k hk
  have HBW3 : Hid (B ≤ w3.heap.size) := Nat.le_trans HAB.out ho3.size
  clear hj3 hst3 ho3 hcase hd3 hfin2 hgen hsn hsr hsk hgd
  go_wp2_with fail
  refine (CG.out w3 (Below.refl _ _)).mono ?_
  rintro e w4 ⟨rfl, hb4⟩
  have HB4 := Lib.hid hb4
  clear hb4
  go_wp2_with fail
  refine (CR.out w4 HB4.out).mono ?_
  rintro e w5 ⟨v5, ps5, rfl, hrc, hrb, hb5⟩
  have HB5 := Lib.hid (HB4.out.trans (hb5.mono HB4.out.size))
  have hl5 : ps5.length = 1 := by have := congrArg List.length hrb; simpa [rbs] using this
  obtain ⟨a5, c5, rfl⟩ := hrc.1.shape
  rw [hl5]
  clear hb5 hrc hrb hl5
  go_wp2_with fail
  refine (CS.out w5 HB5.out).mono ?_
  rintro e w6 ⟨v6, rfl, ho6, hb6⟩
  have HB6 := Lib.hid (HB5.out.trans (hb6.mono HB5.out.size))
  obtain ⟨a6, c6, rfl⟩ := ho6.shape
  clear hb6 ho6
  go_wp2
  go_ret
  exact ⟨rfl, by rw [HB.out]; exact HB3.out.trans (HB6.out.mono HBW3.out)⟩

end Go.Proofs.Ytbonapdainlpjaa
