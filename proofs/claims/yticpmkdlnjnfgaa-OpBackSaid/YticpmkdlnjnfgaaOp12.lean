/- Layer 38 (op): the walk of the reference's Take. -/
import Derived.Test.YticpmkdlnjnfgaaOp11
import Derived.Deep.CutBlock
import Derived.OwnWalk
import Derived.StillTailTactics
import Derived.Deep.RegionHeld3
set_option linter.unusedSimpArgs false
namespace Go.Proofs.Yticpmkdlnjnfgaa
open Go.RowKit Go.Sort

set_option maxRecDepth 100000 in
set_option maxHeartbeats 1600000 in
theorem ropTake_any (v : Value) (b : List UInt8) (w : World) (hb : Bs w v b) (hlen : b.length ≤ 100000) : Calls Try.prog 34 #[v] w (OTakePost b w) := by
  unfold OTakePost
  obtain ⟨r, hr⟩ : ∃ r, w.heap.size = r := ⟨_, rfl⟩
  obtain ⟨W1, hW1⟩ : ∃ W, w.alloc (.cells opZeroRow 44) = W := ⟨_, rfl⟩
  have hrow1 : W1.heap[r]? = some (.cells opZeroRow 44 (0, 0)) := by rw [← hW1, ← hr]; exact heap_alloc_new _ _
  have hb1 : Below w.heap.size w W1 := by rw [← hW1]; exact (Below.refl _ _).alloc (Nat.le_refl _) _
  have HB0 := Lib.hid hb
  obtain ⟨a, ca, rfl⟩ := hb.shape
  have hcap := hb.len_eq.2
  unfold opZeroRow at hrow1 hW1
  have HW1 := Lib.hid hW1
  have HR1 := Lib.hid hrow1
  have HB1 := Lib.hid hb1
  have HRR := Lib.hid hr
  cases b with
  | nil =>
    have hfin : ∃ va vb vc, Ending.returned (.tuple #[opZero.agg (.slice none 0 0) (.slice none 0 0) (.slice none 0 0), .int .i64 10]) = .returned (.tuple #[(otake []).1.agg va vb vc, .int .i64 ((otake []).2 : Int)]) ∧ OpV W1 (otake []).1 va vb vc ∧ Below w.heap.size w W1 :=
      ⟨_, _, _, rfl, ⟨Rd.nil _ _, Rd.nil _ _, Rd.nil _ _⟩, hb1⟩
    have HF := Lib.hid hfin
    clear hW1 hrow1 hb1 hr hfin hb
    go_enter Try.func34, Try.ntmps34
    go_wp2
    rw [HW1.out]
    obtain ⟨s0, s1, s2, s3, s4, s5, s6⟩ := op_cellsV HR1.out
    refine bodyPost_ret (v := .tuple #[opZero.agg (.slice none 0 0) (.slice none 0 0) (.slice none 0 0), .int .i64 10]) ?_ rfl HF.out
    simp [results, Try.results34, go_sem, HRR.out, s0, s1, s2, s3, s4, s5, s6, OpD.agg, opZero]
  | cons h c =>
    obtain ⟨N, hN⟩ : ∃ N, (h :: c).length = N := ⟨_, rfl⟩
    have hN1 : c.length + 1 = N := by rw [← hN]; simp
    have hbb := hb.below hb1
    rw [hN] at hbb hb HB0 hcap hlen ⊢
    obtain ⟨Yv, hY1, hYw⟩ := hb.from elB 1 (by simp)
    have hY1' : ∀ V : World, (Instr.sliceAt 24 (.slice a N ca) (some (.int .i64 1)) none none).run Try.prog V = .ok Yv V := fun V => hY1 V
    clear hY1
    obtain ⟨b0, o0, rfl, hcell⟩ := hbb.at1 (by simp)
    have hc0 : W1.cell? ⟨b0, o0, none⟩ = some (.int .u8 (h.toNat : Int)) := hcell 0 h rfl
    have e0 : ((N : Int) == 0) = false := by simp; omega
    have hN0 : (0 : Int) < N := by omega
    have HY2 := Lib.hid (hYw : Bs w Yv c)
    have hYw' : Bs w Yv c := hYw
    have HSRC : Hid (c ≠ [] → ∀ x, Yv.ownBlock = some x → x < w.heap.size) := fun hc x hx => hYw'.lt hc x hx
    have HCL : Hid (c.length ≤ 100000) := by show c.length ≤ 100000; omega
    have CSH := Lib.hid (ropShape_any (h.toNat : Int) W1)
    have hOT1 : opIs (h.toNat : Int) = false → otake (h :: c) = (opZero, 11) := fun e => by rw [otake_cons, e]; rfl
    have hOT2 : opIs (h.toNat : Int) = true → opDone c (opN (h.toNat : Int)) (opK (h.toNat : Int)) = 0 → otake (h :: c) = (opOf (h.toNat : Int) c (opN (h.toNat : Int)) (opK (h.toNat : Int)), 0) := fun e d => by rw [otake_cons, e, if_pos rfl, if_pos d]
    have hOT3 : opIs (h.toNat : Int) = true → opDone c (opN (h.toNat : Int)) (opK (h.toNat : Int)) ≠ 0 → otake (h :: c) = (opZero, opDone c (opN (h.toNat : Int)) (opK (h.toNat : Int))) := fun e d => by rw [otake_cons, e, if_pos rfl, if_neg d]
    obtain ⟨OT, hOT⟩ : ∃ x, otake (h :: c) = x := ⟨_, rfl⟩
    rw [hOT] at hOT1 hOT2 hOT3 ⊢
    obtain ⟨n, hn⟩ : ∃ n, opN (h.toNat : Int) = n := ⟨_, rfl⟩
    obtain ⟨m, hm⟩ : ∃ n, opK (h.toNat : Int) = n := ⟨_, rfl⟩
    obtain ⟨is, his⟩ : ∃ n, opIs (h.toNat : Int) = n := ⟨_, rfl⟩
    have hn3 := opN_le (h.toNat : Int)
    have hm3 := opK_le (h.toNat : Int)
    rw [hn, hm, his] at CSH hOT2 hOT3
    rw [his] at hOT1
    rw [hn] at hn3
    rw [hm] at hm3
    have hkw : wrap64 (h.toNat : Int) = (h.toNat : Int) := IntWalk.wrap64_in _ (by have := UInt8.toNat_lt h; omega)
    obtain ⟨k, hk⟩ : ∃ k : Int, (h.toNat : Int) = k := ⟨_, rfl⟩
    rw [hk] at CSH hOT2 hc0 hkw
    have HKH : Hid ((h.toNat : Int) = k) := hk
    have HOT1 := Lib.hid hOT1
    have HOT2 := Lib.hid hOT2
    have HOT3 := Lib.hid hOT3
    have HN1 := Lib.hid hN1
    clear hn hm his hk hW1 hrow1 hb1 hr hb hcell hbb hN hYw hYw' hN1 hOT hOT1 hOT2 hOT3
    cases is with
    | false =>
      rw [HOT1.out rfl]
      go_enter Try.func34, Try.ntmps34
      go_upto_region 3 with fail
      rw [HW1.out]
      go_wp2_with fail
      refine CSH.out.mono ?_
      rintro e w4 ⟨rfl, hb4⟩
      have HB4 := Lib.hid (HB1.out.trans (hb4.mono HB1.out.size))
      have HS4 := Lib.hid ((hb4.block r (heap_lt HR1.out)).trans HR1.out)
      clear hb4 hc0
      have hs2 : w4.heap[w.heap.size]? = some (.cells #[.int .i64 0, .int .i64 0, .int .i64 0, .int .i64 0, .slice none 0 0, .slice none 0 0, .slice none 0 0] 44 (0, 0)) := by rw [HRR.out]; exact HS4.out
      have HS2' := Lib.hid hs2
      clear hs2
      obtain ⟨c0, c1, c2, c3, c4, c5, c6⟩ := op_cellsV HS2'.out
      obtain ⟨f0, f1, f2, f3, f4, f5, f6⟩ := op_frees HS2'.out
      obtain ⟨hz1, hz2⟩ := op_chain HS2'.out (.int .i64 0) (.int .i64 0) (.int .i64 0) (.int .i64 0) (.slice none 0 0) (.slice none 0 0) (.slice none 0 0)
      have hZb : Below w.heap.size w (opChain w4 w.heap.size (.int .i64 0) (.int .i64 0) (.int .i64 0) (.int .i64 0) (.slice none 0 0) (.slice none 0 0) (.slice none 0 0)) := HB4.out.trans (hz2.below (fun x hx => by omega) HB4.out.size)
      have HZ1 := Lib.hid hz1
      have HZb := Lib.hid hZb
      clear hz1 hz2 hZb
      go_wp2
      obtain ⟨Z, hZ⟩ : ∃ Z, opChain w4 w.heap.size (.int .i64 0) (.int .i64 0) (.int .i64 0) (.int .i64 0) (.slice none 0 0) (.slice none 0 0) (.slice none 0 0) = Z := ⟨_, rfl⟩
      rw [hZ] at HZ1 HZb
      unfold opChain at hZ
      rw [hZ]
      obtain ⟨d0, d1, d2, d3, d4, d5, d6⟩ := op_cellsV HZ1.out
      refine bodyPost_ret (v := .tuple #[opZero.agg (.slice none 0 0) (.slice none 0 0) (.slice none 0 0), .int .i64 11]) ?_ rfl ⟨_, _, _, rfl, ⟨Rd.nil _ _, Rd.nil _ _, Rd.nil _ _⟩, HZb.out⟩
      simp [results, Try.results34, go_sem, d0, d1, d2, d3, d4, d5, d6, OpD.agg, opZero]
    | true =>
      go_enter Try.func34, Try.ntmps34
      go_upto_region 3 with fail
      rw [HW1.out]
      go_wp2_with fail
      refine CSH.out.mono ?_
      rintro e w4 ⟨rfl, hb4⟩
      have HB4 := Lib.hid (HB1.out.trans (hb4.mono HB1.out.size))
      have HS4 := Lib.hid ((hb4.block r (heap_lt HR1.out)).trans HR1.out)
      clear hb4
      go_wp2_with fail
      refine (rread_any Yv c w4 (HY2.out.below HB4.out)).mono ?_
      rintro e w5 ⟨rfl, hrd5, hb5⟩
      have hK5 : RK w r w4.heap.size Yv c (.slice none 0 0) [] (.slice none 0 0) [] (opYs c n m) (opRdN c 0).1 (opRdN c 0).2 w5 :=
        ⟨hrd5, (hb5.block r (heap_lt HS4.out)).trans HS4.out, Gw.nil _ _ _, Gw.nil _ _ _, fun j t h => by simp at h, HB4.out.trans (hb5.mono HB4.out.size), by have := HRR.out; omega, HB4.out.size, HSRC.out⟩
      have HK5 := Lib.hid hK5
      clear hrd5 hb5 hK5 hc0
      obtain ⟨g, hg⟩ : ∃ g, w4.heap.size = g := ⟨_, rfl⟩
      rw [hg] at HK5
      go_wp2_with fail
      clear hg
      go_loopw [9, 8, 10] (fun vi v8 v10 wr => ∃ i : Nat, i ≤ 3 ∧ vi = .int .i64 i ∧ Hid (RK w r g Yv c v8 ((List.range i).map (opXs c n)) (.slice none 0 0) [] (opYs c n m) (opRdN c (min i n)).1 (opRdN c (min i n)).2 wr)) (fun vi _ _ _ => 3 - (intOf vi).toNat)
      case atStart => exact ⟨0, by omega, rfl, by rw [Nat.zero_min]; exact HK5⟩
      case round =>
        obtain ⟨i, hi, rfl, HP⟩ := hrel
        by_cases hlt : i < 3
        · have e1 : (i : Int) < 3 := by omega
          have hws : w.heap.size ≤ wr.heap.size := HP.out.bel.size
          by_cases hin : i < n
          · have e2 : (i : Int) < n := by omega
            rw [show min i n = i by omega] at HP
            have CN : Hid (Calls Try.prog 66 #[.pointer (some ⟨g, 0, none⟩), .int .i64 4611686018427387904] wr (RNumPost opTop g Yv c (opRdN c i).1 (opRdN c i).2 wr)) := rrnumber_rd opTop (by unfold opTop; omega) g Yv c _ _ wr HP.out.rd
            unfold RNumPost at CN
            obtain ⟨x, hx⟩ : ∃ x, (rnum opTop c (opRdN c i).1 (opRdN c i).2).1 = x := ⟨_, rfl⟩
            have hx2 : opXs c n i = (x : Int) := by unfold opXs; rw [if_pos hin]; exact congrArg _ hx
            rw [hx] at CN
            have HX := Lib.hid hx2
            clear hx hx2
            go_wp2_with fail
            refine CN.out.mono ?_
            rintro e w7 ⟨rfl, hrd7, ho7⟩
            have HT7 := Lib.hid (HP.out.read hrd7 ho7)
            have hws7 := HT7.out.bel.size
            clear hrd7 ho7
            have HK8 := Lib.hid (HT7.out.below (((Below.refl w7.heap.size w7).alloc (Nat.le_refl _) (.cells #[.int .i64 (x : Int)] 3))))
            have hown := HK8.out.nums
            have hlit : Gs 1 csI (w7.alloc (.cells #[.int .i64 (x : Int)] 3)) (.slice (some ⟨w7.heap.size, 0, none⟩) 1 1) [(x : Int)] := (gw_lit layI w7 3 #[.int .i64 (x : Int)] [(x : Int)] 1 rfl (by decide) rfl).gs
            have hbz : w.heap.size ≤ (w7.alloc (.cells #[.int .i64 (x : Int)] 3)).heap.size := HK8.out.bel.size
            go_wp2_with (at_builtin; go_must (refine wpList_append_gs layI hown hlit elOI (by simp; omega) (by simp; omega) hbz ?_ _ _ rfl rfl rfl rfl); intro v8 w8 h8 hg8 hb8 _; have H8 := Lib.hid h8; have HG8 := Lib.hid hg8; clear h8 hg8 hb8)
            have hf : Hid (RK w r g Yv c v8 ((List.range (i + 1)).map (opXs c n)) (.slice none 0 0) [] (opYs c n m) (opRdN c (min (i + 1) n)).1 (opRdN c (min (i + 1) n)).2 w8) := by
              have := HK8.out.addn HG8.out H8.out
              rw [← HX.out] at this
              rw [List.range_succ, List.map_append, show min (i + 1) n = i + 1 by omega]
              exact this
            clear hown hlit hbz
            go_roundw
            case rel => exact ⟨i + 1, by omega, by go_num, hf⟩
            case measure => simp [intOf]; omega
          · have e2 : ¬ (i : Int) < n := by omega
            have hx2 : opXs c n i = 0 := by unfold opXs; rw [if_neg hin]
            have HX := Lib.hid hx2
            have HK8 := Lib.hid (HP.out.below (((Below.refl wr.heap.size wr).alloc (Nat.le_refl _) (.cells #[.int .i64 0] 3))))
            have hown := HK8.out.nums
            have hlit : Gs 1 csI (wr.alloc (.cells #[.int .i64 0] 3)) (.slice (some ⟨wr.heap.size, 0, none⟩) 1 1) [(0 : Int)] := (gw_lit layI wr 3 #[.int .i64 0] [(0 : Int)] 1 rfl (by decide) rfl).gs
            have hbz : w.heap.size ≤ (wr.alloc (.cells #[.int .i64 0] 3)).heap.size := HK8.out.bel.size
            clear hx2
            go_wp2_with (at_builtin; go_must (refine wpList_append_gs layI hown hlit elOI (by simp; omega) (by simp; omega) hbz ?_ _ _ rfl rfl rfl rfl); intro v8 w8 h8 hg8 hb8 _; have H8 := Lib.hid h8; have HG8 := Lib.hid hg8; clear h8 hg8 hb8)
            have hf : Hid (RK w r g Yv c v8 ((List.range (i + 1)).map (opXs c n)) (.slice none 0 0) [] (opYs c n m) (opRdN c (min (i + 1) n)).1 (opRdN c (min (i + 1) n)).2 w8) := by
              have := HK8.out.addn HG8.out H8.out
              rw [← HX.out] at this
              rw [List.range_succ, List.map_append, show min (i + 1) n = min i n by omega]
              exact this
            clear hown hlit hbz
            go_roundw
            case rel => exact ⟨i + 1, by omega, by go_num, hf⟩
            case measure => simp [intOf]; omega
        · obtain rfl : i = 3 := by omega
          have e1 : ¬ (((3 : Nat) : Int) < 3) := by decide
          rw [show min 3 n = n by omega] at HP
          have HXS : Hid ((List.range 3).map (opXs c n) = [opXs c n 0, opXs c n 1, opXs c n 2]) := rfl
          obtain ⟨xs, hxs⟩ : ∃ l, (List.range 3).map (opXs c n) = l := ⟨_, rfl⟩
          rw [hxs] at HP HXS
          clear hxs
          go_wp2_with fail
          go_loopw [12, 11, 13] (fun vi v11 v13 wr => ∃ j : Nat, j ≤ 3 ∧ vi = .int .i64 j ∧ Hid (∃ ts : List Tri, ts.length = j ∧ RK w r g Yv c u8 xs v11 ts (opYs c n m) (opRdP c n (min j m)).1 (opRdP c n (min j m)).2 wr)) (fun vi _ _ _ => 3 - (intOf vi).toNat)
          case atStart => exact ⟨0, by omega, rfl, by rw [Nat.zero_min]; exact ⟨[], rfl, HP.out⟩⟩
          case round =>
            clear HP
            obtain ⟨j, hj, rfl, HQ7⟩ := hrel
            obtain ⟨ts, hlen, hT⟩ := HQ7.out
            by_cases hlt : j < 3
            · have e1 : (j : Int) < 3 := by omega
              have HLN := Lib.hid hlen
              by_cases hjm : j < m
              · have e2 : (j : Int) < m := by omega
                rw [show min j m = j by omega] at hT
                have HTT := Lib.hid hT
                have CN : Hid (Calls Try.prog 76 #[.pointer (some ⟨g, 0, none⟩), .int .i64 1048576] wr (RBytesPost 1048576 g Yv c (opRdP c n j).1 (opRdP c n j).2 wr)) := rrbytes_rd 1048576 (by omega) g Yv c _ _ wr hT.rd (by have := HCL.out; omega)
                unfold RBytesPost at CN
                have hws : w.heap.size ≤ wr.heap.size := hT.bel.size
                have HWS := Lib.hid hws
                clear hT hlen hws
                go_wp2_with fail
                refine CN.out.mono ?_
                rintro e w7 ⟨v7, rfl, ho7, hrd7, hon7⟩
                have HT7 := Lib.hid (HTT.out.read hrd7 hon7)
                have ho7' : Ob w7 w.heap.size 5 v7 (opValP c n j) := ho7.lower HWS.out
                obtain ⟨a7, n7, hs7⟩ := ho7.shape
                obtain ⟨l7, hl7⟩ : ∃ l, ((rbytes 1048576 c (opRdP c n j).1 (opRdP c n j).2).1).length = l := ⟨_, rfl⟩
                rw [hl7] at hs7
                subst hs7
                have HO7 := Lib.hid ho7'
                clear hrd7 hon7 ho7 hl7 ho7'
                have hal : Below w7.heap.size w7 (w7.alloc (.cells #[.slice a7 l7 n7] 24)) := (Below.refl w7.heap.size w7).alloc (Nat.le_refl _) _
                have HO8 := Lib.hid (HO7.out.below hal)
                have HK8 := Lib.hid (HT7.out.below hal)
                have hown := HK8.out.parts
                have hlit : Gs 1 csB (w7.alloc (.cells #[.slice a7 l7 n7] 24)) (.slice (some ⟨w7.heap.size, 0, none⟩) 1 1) [((a7, l7, n7) : Tri)] := (gw_lit layB w7 24 #[.slice a7 l7 n7] [((a7, l7, n7) : Tri)] 1 rfl (by decide) rfl).gs
                have hbz : w.heap.size ≤ (w7.alloc (.cells #[.slice a7 l7 n7] 24)).heap.size := HK8.out.bel.size
                have htl : ts.length ≤ 3 := by have := HLN.out; omega
                clear hal
                go_wp2_with (at_builtin; go_must (refine wpList_append_gs layB hown hlit elOB (by simp; omega) (by simp; omega) hbz ?_ _ _ rfl rfl rfl rfl); intro v8 w8 h8 hg8 hb8 _; have H8 := Lib.hid h8; have HG8 := Lib.hid hg8; clear h8 hg8 hb8)
                have hf : Hid (∃ ts : List Tri, ts.length = j + 1 ∧ RK w r g Yv c u8 xs v8 ts (opYs c n m) (opRdP c n (min (j + 1) m)).1 (opRdP c n (min (j + 1) m)).2 w8) := by
                  have hy : opYs c n m ts.length = opValP c n j := by unfold opYs; rw [HLN.out, if_pos hjm]
                  have := HK8.out.addp HG8.out H8.out (fun _ _ => rfl) (by rw [hy]; exact HO8.out)
                  rw [show min (j + 1) m = j + 1 by omega]
                  exact ⟨_, by simp [HLN.out], this⟩
                clear hown hlit hbz htl
                go_roundw
                case rel => exact ⟨j + 1, by omega, by go_num, hf⟩
                case measure => simp [intOf]; omega
              · have e2 : ¬ (j : Int) < m := by omega
                have HTT := Lib.hid hT
                clear hT hlen
                have hal : Below wr.heap.size wr (wr.alloc (.cells #[.slice none 0 0] 24)) := (Below.refl wr.heap.size wr).alloc (Nat.le_refl _) _
                have HK8 := Lib.hid (HTT.out.below hal)
                have hown := HK8.out.parts
                have hlit : Gs 1 csB (wr.alloc (.cells #[.slice none 0 0] 24)) (.slice (some ⟨wr.heap.size, 0, none⟩) 1 1) [((none, 0, 0) : Tri)] := (gw_lit layB wr 24 #[.slice none 0 0] [((none, 0, 0) : Tri)] 1 rfl (by decide) rfl).gs
                have hbz : w.heap.size ≤ (wr.alloc (.cells #[.slice none 0 0] 24)).heap.size := HK8.out.bel.size
                have htl : ts.length ≤ 3 := by have := HLN.out; omega
                clear hal
                go_wp2_with (at_builtin; go_must (refine wpList_append_gs layB hown hlit elOB (by simp; omega) (by simp; omega) hbz ?_ _ _ rfl rfl rfl rfl); intro v8 w8 h8 hg8 hb8 _; have H8 := Lib.hid h8; have HG8 := Lib.hid hg8; clear h8 hg8 hb8)
                have hf : Hid (∃ ts : List Tri, ts.length = j + 1 ∧ RK w r g Yv c u8 xs v8 ts (opYs c n m) (opRdP c n (min (j + 1) m)).1 (opRdP c n (min (j + 1) m)).2 w8) := by
                  have hy : opYs c n m ts.length = [] := by unfold opYs; rw [HLN.out, if_neg hjm]
                  have := HK8.out.addp HG8.out H8.out (fun _ _ => rfl) (by rw [hy]; exact Ob.nil _ _ _)
                  rw [show min (j + 1) m = min j m by omega]
                  exact ⟨_, by simp [HLN.out], this⟩
                clear hown hlit hbz htl
                go_roundw
                case rel => exact ⟨j + 1, by omega, by go_num, hf⟩
                case measure => simp [intOf]; omega
            · obtain rfl : j = 3 := by omega
              have e1 : ¬ (((3 : Nat) : Int) < 3) := by decide
              rw [show min 3 m = m by omega] at hT
              have CD := Lib.hid (fun (V : World) (hV : Below wr.heap.size wr V) => rrdone_any g Yv c _ _ V (hT.rd.below hV))
              rw [show rdone c (opRdP c n m).1 (opRdP c n m).2 = opDone c n m from rfl] at CD
              have HTT := Lib.hid hT
              have HLN := Lib.hid hlen
              obtain ⟨d, hd⟩ : ∃ d, opDone c n m = d := ⟨_, rfl⟩
              rw [hd] at CD
              have HD := Lib.hid hd
              clear hT hd hlen
              go_wp2_with fail
              refine (CD.out wr (Below.refl _ _)).mono ?_
              rintro e w9 ⟨rfl, hb9⟩
              have HT9 := Lib.hid (HTT.out.below hb9)
              have HB9 := Lib.hid hb9
              clear hb9
              by_cases hd0 : d = 0
              · have hOT := HOT2.out (by simp) (by rw [HD.out]; exact hd0)
                have HOT := Lib.hid hOT
                have hbb9 := HB0.out.below HT9.out.bel
                obtain ⟨b0', o0', he, hcell9⟩ := hbb9.at1 (by simp)
                have hc9 : w9.cell? ⟨b0, o0, none⟩ = some (.int .u8 k) := by
                  simp only [Option.some.injEq, Addr.mk.injEq] at he
                  obtain ⟨rfl, rfl, -⟩ := he
                  have := hcell9 0 h rfl
                  unfold bv at this
                  rw [HKH.out] at this
                  exact this
                match ts, HLN.out with
                | [t0, t1, t2], _ =>
                have hn9 := HT9.out.nums
                rw [HXS.out] at hn9
                obtain ⟨x0, hx0⟩ : ∃ v, opXs c n 0 = v := ⟨_, rfl⟩
                obtain ⟨x1, hx1⟩ : ∃ v, opXs c n 1 = v := ⟨_, rfl⟩
                obtain ⟨x2, hx2⟩ : ∃ v, opXs c n 2 = v := ⟨_, rfl⟩
                rw [hx0, hx1, hx2] at hn9
                have HXO : Hid (opOf k c n m = ⟨k, x0, x1, x2, opYs c n m 0, opYs c n m 1, opYs c n m 2⟩) := by show _ = _; unfold opOf; rw [hx0, hx1, hx2]
                obtain ⟨an, cn, bn, on, hvn, -, -, hixn, hltn, hcn, -⟩ := hn9.gs.open_n layI elOI 3 rfl
                obtain ⟨ap, cp, bp, op', hvp, -, -, hixp, hltp, hcp, -⟩ := HT9.out.parts.gs.open_n layB elOB 3 rfl
                have n0 : w9.cell? ⟨bn, on 0, none⟩ = some (.int .i64 x0) := hcn 0 x0 rfl 0 _ rfl
                have n1 : w9.cell? ⟨bn, on 1, none⟩ = some (.int .i64 x1) := hcn 1 x1 rfl 0 _ rfl
                have n2 : w9.cell? ⟨bn, on 2, none⟩ = some (.int .i64 x2) := hcn 2 x2 rfl 0 _ rfl
                have p0 : w9.cell? ⟨bp, op' 0, none⟩ = some t0.v := hcp 0 t0 rfl 0 _ rfl
                have p1 : w9.cell? ⟨bp, op' 1, none⟩ = some t1.v := hcp 1 t1 rfl 0 _ rfl
                have p2 : w9.cell? ⟨bp, op' 2, none⟩ = some t2.v := hcp 2 t2 rfl 0 _ rfl
                have jn0 : ∀ V : World, (Instr.indexAt 98 (.slice an 3 cn) (.int .i64 0)).run Try.prog V = .ok (.pointer (some ⟨bn, on 0, none⟩)) V := fun V => hixn V 0 (by omega)
                have jn1 : ∀ V : World, (Instr.indexAt 98 (.slice an 3 cn) (.int .i64 1)).run Try.prog V = .ok (.pointer (some ⟨bn, on 1, none⟩)) V := fun V => hixn V 1 (by omega)
                have jn2 : ∀ V : World, (Instr.indexAt 98 (.slice an 3 cn) (.int .i64 2)).run Try.prog V = .ok (.pointer (some ⟨bn, on 2, none⟩)) V := fun V => hixn V 2 (by omega)
                have jp0 : ∀ V : World, (Instr.indexAt 107 (.slice ap 3 cp) (.int .i64 0)).run Try.prog V = .ok (.pointer (some ⟨bp, op' 0, none⟩)) V := fun V => hixp V 0 (by omega)
                have jp1 : ∀ V : World, (Instr.indexAt 107 (.slice ap 3 cp) (.int .i64 1)).run Try.prog V = .ok (.pointer (some ⟨bp, op' 1, none⟩)) V := fun V => hixp V 1 (by omega)
                have jp2 : ∀ V : World, (Instr.indexAt 107 (.slice ap 3 cp) (.int .i64 2)).run Try.prog V = .ok (.pointer (some ⟨bp, op' 2, none⟩)) V := fun V => hixp V 2 (by omega)
                have HNB := Lib.hid (hltn 0 (by omega))
                obtain ⟨a0, l0, c0⟩ := t0
                obtain ⟨a1, l1, c1⟩ := t1
                obtain ⟨a2, l2, c2⟩ := t2
                unfold Tri.v at p0 p1 p2
                simp only at p0 p1 p2
                subst hvn hvp hd0
                clear hn9 hx0 hx1 hx2 hixn hixp hltn hltp hcn hcp hbb9 hcell9 he hOT
                have jb0 : ∀ V : World, (Instr.indexAt 24 (.slice (some ⟨b0, o0, none⟩) N ca) (.int .i64 0)).run Try.prog V = .ok (.pointer (some ⟨b0, o0, none⟩)) V := fun V => by
                  have hT := elB.1
                  have hu : Try.prog.elem 24 = 5 := by simp [Program.elem, hT]
                  rw [run_indexAt_slice V 24 _ N ca .i64 0 (by rw [hu]; exact hT), if_pos ⟨by omega, by omega⟩, hu, elB.sizeOf]
                  simp [Result.andThen, Addr.add_lit]
                have hkw2 : IntKind.i64.wrap k = k := by rw [IntWalk.i64_left]; exact hkw
                obtain ⟨W10, hW10⟩ : ∃ V, (w9.alloc (.cells #[.int .i64 k, .int .i64 0, .int .i64 0, .int .i64 0, .slice a0 l0 c0, .slice a1 l1 c1, .slice a2 l2 c2] 44)).drew = V := ⟨_, rfl⟩
                have hb10 : Below w9.heap.size w9 W10 := by rw [← hW10]; exact ((Below.refl _ _).alloc (Nat.le_refl _) _).drew
                have hr10 : W10.heap[w9.heap.size]? = some (.cells #[.int .i64 k, .int .i64 0, .int .i64 0, .int .i64 0, .slice a0 l0 c0, .slice a1 l1 c1, .slice a2 l2 c2] 44 (0, 0)) := by rw [← hW10]; exact heap_alloc_new _ _
                have HT10 := Lib.hid (HT9.out.below hb10)
                have m0 : W10.cell? ⟨bn, on 0, none⟩ = some (.int .i64 x0) := (hb10.cell (by exact HNB.out)).trans n0
                have m1 : W10.cell? ⟨bn, on 1, none⟩ = some (.int .i64 x1) := (hb10.cell (by exact HNB.out)).trans n1
                have m2 : W10.cell? ⟨bn, on 2, none⟩ = some (.int .i64 x2) := (hb10.cell (by exact HNB.out)).trans n2
                have HW10 := Lib.hid hW10
                have HR10 := Lib.hid hr10
                have HM := Lib.hid (And.intro m0 (And.intro m1 m2))
                obtain ⟨q, hq⟩ : ∃ q, w9.heap.size = q := ⟨_, rfl⟩
                have HQ := Lib.hid hq
                rw [hq] at HR10
                clear hW10 hb10 hr10 m0 m1 m2 n0 n1 n2 hq
                go_upto_region 25 with fail
                go_region_held3 (fun X => X.cell? ⟨b0, o0, none⟩ = some (.int .u8 k) ∧ X.cell? ⟨bp, op' 0, none⟩ = some (.slice a0 l0 c0) ∧ X.cell? ⟨bp, op' 1, none⟩ = some (.slice a1 l1 c1) ∧ X.cell? ⟨bp, op' 2, none⟩ = some (.slice a2 l2 c2))
                  (first | with_reducible exact ⟨hc9, p0, p1, p2⟩ | go_keep) (fail)
                all_goals
                  rw [HW10.out, HQ.out]
                  clear hc9 p0 p1 p2
                  obtain ⟨m0, m1, m2⟩ := HM.out
                  obtain ⟨s0, s1, s2, s3, s4, s5, s6⟩ := op_cellsV HR10.out
                  obtain ⟨f0, f1, f2, f3, f4, f5, f6⟩ := op_frees HR10.out
                  go_upto_region 26 with fail
                  go_still_tail 11, (by kernel_rfl)
                  change wpList _ _ _ _ _ W10.drew
                  obtain ⟨D, hD⟩ : ∃ V, W10.drew = V := ⟨_, rfl⟩
                  rw [hD]
                  have hrD : D.heap[q]? = some (.cells #[.int .i64 k, .int .i64 0, .int .i64 0, .int .i64 0, .slice a0 l0 c0, .slice a1 l1 c1, .slice a2 l2 c2] 44 (0, 0)) := by rw [← hD]; exact HR10.out
                  have htd := HT10.out.below (Below.refl _ _).drew
                  rw [hD] at htd
                  have HTD := Lib.hid htd
                  clear htd
                  clear hD s0 s1 s2 s3 s4 s5 s6 f0 f1 f2 f3 f4 f5 f6 m0 m1 m2
                  obtain ⟨s0, s1, s2, s3, s4, s5, s6⟩ := op_cellsV hrD
                  obtain ⟨f0, f1, f2, f3, f4, f5, f6⟩ := op_frees hrD
                  have hr1 : (D.setCell ⟨q, 1, none⟩ (.int .i64 x0)).heap[q]? = some (.cells #[.int .i64 k, .int .i64 x0, .int .i64 0, .int .i64 0, .slice a0 l0 c0, .slice a1 l1 c1, .slice a2 l2 c2] 44 (0, 0)) := row_setCell hrD 1 _
                  have hr2 : ((D.setCell ⟨q, 1, none⟩ (.int .i64 x0)).setCell ⟨q, 2, none⟩ (.int .i64 x1)).heap[q]? = some (.cells #[.int .i64 k, .int .i64 x0, .int .i64 x1, .int .i64 0, .slice a0 l0 c0, .slice a1 l1 c1, .slice a2 l2 c2] 44 (0, 0)) := row_setCell hr1 2 _
                  have hr3 : (((D.setCell ⟨q, 1, none⟩ (.int .i64 x0)).setCell ⟨q, 2, none⟩ (.int .i64 x1)).setCell ⟨q, 3, none⟩ (.int .i64 x2)).heap[q]? = some (.cells #[.int .i64 k, .int .i64 x0, .int .i64 x1, .int .i64 x2, .slice a0 l0 c0, .slice a1 l1 c1, .slice a2 l2 c2] 44 (0, 0)) := row_setCell hr2 3 _
                  have hoD : Only (fun x => x = q) D (((D.setCell ⟨q, 1, none⟩ (.int .i64 x0)).setCell ⟨q, 2, none⟩ (.int .i64 x1)).setCell ⟨q, 3, none⟩ (.int .i64 x2)) := ((set_only D q 1 _).trans (set_only _ q 2 _)).trans (set_only _ q 3 _)
                  obtain ⟨Z1, hZ1⟩ : ∃ V, (((D.setCell ⟨q, 1, none⟩ (.int .i64 x0)).setCell ⟨q, 2, none⟩ (.int .i64 x1)).setCell ⟨q, 3, none⟩ (.int .i64 x2)) = V := ⟨_, rfl⟩
                  rw [hZ1] at hr3 hoD
                  have hqr : r ≠ q := by have h1 := heap_lt HT9.out.res; have h2 := HQ.out; omega
                  have hresZ := (hoD.block r (heap_lt HTD.out.res) hqr).trans HTD.out.res
                  have hqw : w.heap.size ≤ q := by have h1 := HT9.out.bel.size; have h2 := HQ.out; omega
                  have hbZ : Below w.heap.size w Z1 := HTD.out.bel.trans (hoD.below (fun x hx => by omega) HTD.out.bel.size)
                  have hownZ : ∀ j (t : Tri), ([(a0, l0, c0), (a1, l1, c1), (a2, l2, c2)] : List Tri)[j]? = some t → Ob Z1 w.heap.size 5 t.v (opYs c n m j) := fun j t ht => by
                    have ho := HTD.out.own j t ht
                    exact ho.only hoD fun x hx e => ho.ne hrD (by decide) (by rw [hx, e])
                  have HZR := Lib.hid hr3
                  have HZ1 := Lib.hid hZ1
                  have HOZ := Lib.hid hownZ
                  have HBZ := Lib.hid hbZ
                  have hrw : Z1.heap[w.heap.size]? = some (.cells #[.int .i64 0, .int .i64 0, .int .i64 0, .int .i64 0, .slice none 0 0, .slice none 0 0, .slice none 0 0] 44 (0, 0)) := by rw [HRR.out]; exact hresZ
                  have HRW := Lib.hid hrw
                  clear hr1 hr2 hr3 hoD hZ1 hqr hresZ hqw hbZ hownZ hrD HTD hrw
                  go_upto_region 27 with fail
                  rw [HZ1.out]
                  clear s0 s1 s2 s3 s4 s5 s6 f0 f1 f2 f3 f4 f5 f6
                  obtain ⟨s0, s1, s2, s3, s4, s5, s6⟩ := op_cellsV HZR.out
                  obtain ⟨c0', c1', c2', c3', c4', c5', c6'⟩ := op_cellsV HRW.out
                  obtain ⟨f0, f1, f2, f3, f4, f5, f6⟩ := op_frees HRW.out
                  obtain ⟨hz1, hz2⟩ := op_chain HRW.out (.int .i64 k) (.int .i64 x0) (.int .i64 x1) (.int .i64 x2) (.slice a0 l0 c0) (.slice a1 l1 c1) (.slice a2 l2 c2)
                  have hZb : Below w.heap.size w (opChain Z1 w.heap.size (.int .i64 k) (.int .i64 x0) (.int .i64 x1) (.int .i64 x2) (.slice a0 l0 c0) (.slice a1 l1 c1) (.slice a2 l2 c2)) := HBZ.out.trans (hz2.below (fun x hx => by omega) HBZ.out.size)
                  have HZ2 := Lib.hid hz2
                  have HZ3 := Lib.hid hz1
                  have HZb := Lib.hid hZb
                  clear hz1 hz2 hZb
                  go_wp2
                  obtain ⟨Z, hZ⟩ : ∃ Z, opChain Z1 w.heap.size (.int .i64 k) (.int .i64 x0) (.int .i64 x1) (.int .i64 x2) (.slice a0 l0 c0) (.slice a1 l1 c1) (.slice a2 l2 c2) = Z := ⟨_, rfl⟩
                  rw [hZ] at HZ3 HZb HZ2
                  unfold opChain at hZ
                  rw [hZ]
                  obtain ⟨d0, d1, d2, d3, d4, d5, d6⟩ := op_cellsV HZ3.out
                  have hne : ∀ j (t : Tri), ([(a0, l0, c0), (a1, l1, c1), (a2, l2, c2)] : List Tri)[j]? = some t → Bs Z t.v (opYs c n m j) := fun j t ht => by
                    have ho := HOZ.out j t ht
                    exact (ho.only HZ2.out fun x hx e => ho.ne HRW.out (by decide) (by rw [hx, e])).bs
                  refine bodyPost_ret (v := .tuple #[(opOf k c n m).agg (.slice a0 l0 c0) (.slice a1 l1 c1) (.slice a2 l2 c2), .int .i64 0]) ?_ rfl ⟨.slice a0 l0 c0, .slice a1 l1 c1, .slice a2 l2 c2, by rw [HOT.out]; rfl, by rw [HOT.out]; exact ⟨hne 0 _ rfl, hne 1 _ rfl, hne 2 _ rfl⟩, HZb.out⟩
                  rw [HXO.out]
                  simp [results, Try.results34, go_sem, d0, d1, d2, d3, d4, d5, d6, OpD.agg]
              · have hdn : ((d : Int) != 0) = true := by simp; omega
                have hOT := HOT3.out (by simp) (by rw [HD.out]; exact hd0)
                rw [HD.out] at hOT
                have HOT := Lib.hid hOT
                clear hd0 hOT
                go_wp2_with fail
                refine (CD.out w9 HB9.out).mono ?_
                rintro e w10 ⟨rfl, hb10⟩
                have HT10 := Lib.hid (HT9.out.below hb10)
                clear hb10 hdn
                have hrw : w10.heap[w.heap.size]? = some (.cells #[.int .i64 0, .int .i64 0, .int .i64 0, .int .i64 0, .slice none 0 0, .slice none 0 0, .slice none 0 0] 44 (0, 0)) := by rw [HRR.out]; exact HT10.out.res
                obtain ⟨c0, c1, c2, c3, c4, c5, c6⟩ := op_cellsV hrw
                obtain ⟨f0, f1, f2, f3, f4, f5, f6⟩ := op_frees hrw
                obtain ⟨hz1, hz2⟩ := op_chain hrw (.int .i64 0) (.int .i64 0) (.int .i64 0) (.int .i64 0) (.slice none 0 0) (.slice none 0 0) (.slice none 0 0)
                have hZb : Below w.heap.size w (opChain w10 w.heap.size (.int .i64 0) (.int .i64 0) (.int .i64 0) (.int .i64 0) (.slice none 0 0) (.slice none 0 0) (.slice none 0 0)) := HT10.out.bel.trans (hz2.below (fun x hx => by omega) HT10.out.bel.size)
                have HZ1 := Lib.hid hz1
                have HZb := Lib.hid hZb
                clear hz1 hz2 hZb hrw
                go_wp2
                obtain ⟨Z, hZ⟩ : ∃ Z, opChain w10 w.heap.size (.int .i64 0) (.int .i64 0) (.int .i64 0) (.int .i64 0) (.slice none 0 0) (.slice none 0 0) (.slice none 0 0) = Z := ⟨_, rfl⟩
                rw [hZ] at HZ1 HZb
                unfold opChain at hZ
                rw [hZ]
                obtain ⟨d0, d1, d2, d3, d4, d5, d6⟩ := op_cellsV HZ1.out
                refine bodyPost_ret (v := .tuple #[opZero.agg (.slice none 0 0) (.slice none 0 0) (.slice none 0 0), .int .i64 (d : Int)]) ?_ rfl ⟨.slice none 0 0, .slice none 0 0, .slice none 0 0, by rw [HOT.out], by rw [HOT.out]; exact ⟨Rd.nil _ _, Rd.nil _ _, Rd.nil _ _⟩, HZb.out⟩
                simp [results, Try.results34, go_sem, d0, d1, d2, d3, d4, d5, d6, OpD.agg, opZero]

end Go.Proofs.Yticpmkdlnjnfgaa
