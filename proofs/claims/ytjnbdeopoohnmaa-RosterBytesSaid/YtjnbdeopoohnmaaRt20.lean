/- Layer 56 (roster): Set's closure. -/
import Derived.Test.YtjnbdeopoohnmaaRt18
import Derived.Test.YtjnbdeopoohnmaaRt19
import Derived.Lib.SliceRun
import Derived.Deep.RegionLaw
import Derived.Deep.DeepCutAuto
import Derived.Deep.CutBlock
import Derived.Lib.QuietBelow
set_option linter.unusedSimpArgs false
namespace Go.Proofs.Ytjnbdeopoohnmaa
open Go.RowKit Go.Sort

def setE (f c : Int) (a : AcD) : Int := if 32 < (sset a.sp f c).length then 3 else 0
def setF (f c : Int) (a : AcD) : AcD := ⟨a.id, a.bl, sset a.sp f c⟩

set_option maxRecDepth 100000 in
set_option maxHeartbeats 1600000 in
theorem rtS1_any (G cap i gf gc C : Nat) (M : List AcX) (x : AcX) (f c : Int) (w : World) (hrow : Row 3 csA w 43 G cap M) (hx : M[i]? = some x) (hone : aone x.1 = true) (hg : Gw 2 csS w C 49 (Sl3.v x.2) x.1.sp) (hGC : G < C) (hC : C ≤ w.heap.size) (hf : w.cell? ⟨gf, 0, none⟩ = some (.int .i64 f)) (hc : w.cell? ⟨gc, 0, none⟩ = some (.int .i64 c)) (hgf : gf < G) (hgc : gc < G) :
    Calls Try.prog 49 #[.pointer (some ⟨G, i * 3, none⟩), .pointer (some ⟨gf, 0, none⟩), .pointer (some ⟨gc, 0, none⟩)] w fun e w' => ∃ y : AcX, e = .returned (.int .i64 (setE f c x.1)) ∧ y.1 = setF f c x.1 ∧ y.1.id = x.1.id ∧ Row 3 csA w' 43 G cap (M.set i y) ∧ Gs 2 csS w' (Sl3.v y.2) y.1.sp ∧ ∀ N, N ≤ G → Below N w w' := by
  have hsl : x.1.sp.length ≤ 32 := (aone_wf hone).2.2.2.2.2.1
  have hup := aone_up hone
  have c2 := hrow.cell layA hx (j := 2) rfl
  have C1 := Lib.hid (sDel_any (Sl3.v x.2) x.1.sp f gf C w hg (by omega) hf (by omega) hC)
  have HROW := Lib.hid hrow
  have HX := Lib.hid hx
  have HUP := Lib.hid hup
  have HC := Lib.hid hC
  have KF := Lib.hid (fun (V : World) (hV : Below C w V) => And.intro ((hV.cell (by exact (show gf < C by omega))).trans hf) ((hV.cell (by exact (show gc < C by omega))).trans hc))
  have HGC := Lib.hid hGC
  obtain ⟨⟨xid, bl, sp⟩, ⟨xa, xn, xc⟩⟩ := x
  unfold Sl3.v at c2 C1
  simp only at c2 C1
  have hDl : (vnot sp f).length ≤ 32 := Nat.le_trans (List.length_filter_le _ _) hsl
  have HDL := Lib.hid hDl
  have HSPL : Hid ((sput sp f c).length ≤ 100000) := by
    show _ ≤ _
    have h3 : sp.length ≤ 32 := hsl
    unfold sput
    rw [List.length_append, List.length_cons]
    exact Nat.le_trans (Nat.add_le_add (List.length_filter_le _ _) (Nat.succ_le_succ (List.length_filter_le _ _))) (by omega)
  have KROW := Lib.hid (fun (V : World) (hV : Below C w V) => (show Row 3 csA V 43 G cap M from by
    obtain ⟨cur, g1, g2, g3⟩ := hrow.row
    exact ⟨hrow.le, hrow.mx, cur, (hV.block G (by omega)).trans g1, g2, g3⟩))
  clear hrow hx hone hg hC hf hc hup hsl hDl
  go_enter Try.func49, Try.ntmps49
  go_wp2_with fail
  refine C1.out.mono ?_
  rintro e w2 ⟨v2, rfl, hg2, hb2⟩
  have HB2 := Lib.hid hb2
  have HG2 := Lib.hid hg2
  obtain ⟨n, hn⟩ : ∃ n, (vnot sp f).length = n := ⟨_, rfl⟩
  have HN := Lib.hid hn
  obtain ⟨a, cc, b, o, rfl, h1, h2, hix, hlt', hcell, -⟩ := hg2.gs.open_n layS elS n hn
  have HCL := Lib.hid hcell
  have HLT := Lib.hid hlt'
  have HIX := Lib.hid hix
  obtain ⟨kf, kc⟩ := KF.out w2 hb2
  have HKF := Lib.hid kf
  clear hg2 hb2 hn hcell hlt' hix c2 kf kc
  have CI : Hid (∀ (X : World) (vb k : Nat), Below w2.heap.size w2 X → X.heap[vb]? = some (.cells #[.int .i64 f, .int .i64 c] 49 (0, 0)) → w2.heap.size ≤ vb → k ≤ n → (∀ (j : Nat) (y : SpT), j < k → (vnot sp f)[j]? = some y → y.1 < f) → (∀ y, (vnot sp f)[k]? = some y → f ≤ y.1) → Calls Try.prog 52 #[.slice a n cc, .int .i64 (k : Int), .slice (some ⟨vb, 0, none⟩) 1 1] X fun e w' => ∃ v', e = .returned v' ∧ Gw 2 csS w' C 49 v' (sput sp f c) ∧ Below C w w') := fun X vb k hX hv hvb hk hlo hhi => by
    have hCX : Below C w X := HB2.out.trans (hX.mono (Nat.le_trans HC.out HB2.out.size))
    refine (sInsert_any (.slice a n cc) (vnot sp f) k C vb (f, c) X (HG2.out.below hX) (Nat.le_trans HC.out hCX.size) hv (fun t ht => by have := (HG2.out.lt t ht).2; omega) (by have := HDL.out; omega) (by rw [HN.out]; exact hk)).mono ?_
    rintro e w' ⟨v', rfl, hg', hb'⟩
    refine ⟨v', rfl, ?_, hCX.trans hb'⟩
    rw [← sput_at HUP.out hlo (fun y hy => Int.not_lt.2 (hhi y hy))]
    exact hg'
  go_wp2_with fail
  go_loopw [6] (fun vi wr => ∃ k : Nat, k ≤ n ∧ vi = .int .i64 k ∧ Hid (∀ (j : Nat) (y : SpT), j < k → (vnot sp f)[j]? = some y → y.1 < f) ∧ Hid (Below w2.heap.size w2 wr)) (fun vi _ => n - (intOf vi).toNat)
  case atStart => exact ⟨0, by omega, rfl, fun j y hj => absurd hj (by omega), Below.refl _ _⟩
  case round =>
    obtain ⟨k, hk, rfl, HLO, HB⟩ := hrel
    have HBC := Lib.hid (HB2.out.trans (HB.out.mono (Nat.le_trans HC.out HB2.out.size)))
    obtain ⟨kf, kc⟩ := KF.out wr HBC.out
    by_cases hlt : k < n
    · have e2 : (k : Int) < n := by omega
      obtain ⟨y, hy⟩ : ∃ s, (vnot sp f)[k]? = some s := ⟨_, List.getElem?_eq_getElem (by have := HN.out; omega)⟩
      have c0 := HCL.out k y hy 0 _ rfl
      rw [Nat.add_zero] at c0
      have hbl := HLT.out k hlt
      rw [← HB.out.cell (by exact hbl)] at c0
      have hixk := fun W => HIX.out W k hlt
      have HY := Lib.hid hy
      have HLTK := Lib.hid hlt
      obtain ⟨yt, yu⟩ := y
      simp only at c0
      clear hy hbl
      go_upto_region 4 with fail
      go_region_held3 (fun W => W.cell? ⟨b, o k, none⟩ = some (.int .i64 yt) ∧ W.cell? ⟨gf, 0, none⟩ = some (.int .i64 f)) (first | with_reducible exact ⟨c0, kf⟩ | go_keep) (fail)
      by_cases hlo : yt < f
      · have hf : Hid (∀ (j : Nat) (y : SpT), j < k + 1 → (vnot sp f)[j]? = some y → y.1 < f) := fun j y hj hy => by
          by_cases hjk : j < k
          · exact HLO.out j y hjk hy
          · obtain rfl : j = k := by omega
            rw [HY.out] at hy
            cases hy
            exact hlo
        have hb : Hid (Below w2.heap.size w2 wr.drew) := HB.out.drew
        go_wp2
        go_roundw
        case rel => exact ⟨k + 1, by have := HLTK.out; omega, by go_num, hf, hb⟩
        case measure => simp [intOf]; have := HLTK.out; omega
      · have HHI : Hid (∀ y, (vnot sp f)[k]? = some y → f ≤ y.1) := fun y hy => by
          rw [HY.out] at hy
          cases hy
          exact Int.not_lt.1 hlo
        clear c0 hixk
        have CI2 := Lib.hid (CI.out (wr.alloc (.cells #[.int .i64 f, .int .i64 c] 49)).drew wr.heap.size k (bw_dr (HB.out.alloc HB.out.size _)) (heap_alloc_new wr _) HB.out.size hk HLO.out HHI.out)
        obtain ⟨kf2, kc2⟩ := KF.out wr.drew HBC.out.drew
        clear kf kc
        go_wp2_with fail
        refine CI2.out.mono ?_
        rintro e w6 ⟨v6, rfl, hg6, hb6⟩
        have HB6 := Lib.hid hb6
        have C7 := Lib.hid (sComp_any v6 (sput sp f c) C w6 hg6 HSPL.out (Nat.le_trans HC.out hb6.size))
        clear hg6 hb6 kf2 kc2 CI CI2
        go_wp2_with fail
        refine C7.out.mono ?_
        rintro e w8 ⟨v8, rfl, hg8, hb8⟩
        have hb9 := HB6.out.trans hb8
        have hr8 := KROW.out w8 hb9
        obtain ⟨a8, c8, rfl⟩ := hg8.gs.shape
        obtain ⟨m8, hm8⟩ : ∃ m, (scomp (sput sp f c)).length = m := ⟨_, rfl⟩
        rw [hm8] at hg8 ⊢
        have HM8 := Lib.hid hm8
        have f2 := hr8.free (i * 3 + 2)
        have c2 := hr8.cell layA HX.out (j := 2) rfl
        obtain ⟨k1, k2⟩ := hr8.pokeG layA (y := ((⟨xid, bl, sset sp f c⟩, (a8, m8, c8)) : AcX)) (u := .slice a8 m8 c8) HX.out (by omega : 2 < 3) rfl
        have HK1 := Lib.hid k1
        have HK2 := Lib.hid k2
        have HB9 := Lib.hid hb9
        have HG8 := Lib.hid hg8
        have c2n := k1.cell layA (x := ((⟨xid, bl, sset sp f c⟩, (a8, m8, c8)) : AcX)) (i := i) (by rw [List.getElem?_set_self (List.getElem?_eq_some_iff.1 HX.out).1]) (j := 2) rfl
        unfold Sl3.v at c2 c2n
        simp only at c2 c2n
        clear hg8 hb8 hb9 hr8 k1 k2 hm8 C7
        have HFG : Hid (Gs 2 csS (w8.setCell ⟨G, i * 3 + 2, none⟩ (.slice a8 m8 c8)) (.slice a8 m8 c8) (sset sp f c)) := (HG8.out.onlyR HK2.out (fun k hk hf => by have := (HG8.out.lt k hk).1; have := HGC.out; omega)).gs
        have HFO : Hid (∀ N, N ≤ G → Below N w (w8.setCell ⟨G, i * 3 + 2, none⟩ (.slice a8 m8 c8))) := fun N hN => (HB9.out.mono (by have := HGC.out; omega)).trans (HK2.out.below (fun t ht => by omega) (Nat.le_trans (show N ≤ w.heap.size by have := HGC.out; have := HC.out; omega) HB9.out.size))
        by_cases h32 : 32 < m8
        · have e9 : (32 : Int) < m8 := by omega
          have HE : Hid (setE f c ⟨xid, bl, sp⟩ = 3) := by show (if 32 < (scomp (sput sp f c)).length then (3 : Int) else 0) = 3; rw [HM8.out, if_pos h32]
          go_wp2
          go_ret
          exact ⟨((⟨xid, bl, sset sp f c⟩, (a8, m8, c8)) : AcX), by rw [HE.out]; rfl, rfl, rfl, HK1.out, HFG.out, HFO.out⟩
        · have e9 : ¬ (32 : Int) < m8 := by omega
          have HE : Hid (setE f c ⟨xid, bl, sp⟩ = 0) := by show (if 32 < (scomp (sput sp f c)).length then (3 : Int) else 0) = 0; rw [HM8.out, if_neg h32]
          go_wp2
          go_ret
          exact ⟨((⟨xid, bl, sset sp f c⟩, (a8, m8, c8)) : AcX), by rw [HE.out]; rfl, rfl, rfl, HK1.out, HFG.out, HFO.out⟩
    · have HHI : Hid (∀ y, (vnot sp f)[k]? = some y → f ≤ y.1) := fun y hy => by
        have := (List.getElem?_eq_some_iff.1 hy).1
        have := HN.out
        omega
      obtain rfl : k = n := by omega
      have e2 : ¬ (k : Int) < k := by omega
      go_upto_region 4 with fail
      go_quiet (fail)
      have hbq := below_drewN HB.out nq
      have CI2 := Lib.hid (CI.out ((wr.drewN nq).alloc (.cells #[.int .i64 f, .int .i64 c] 49)) wr.heap.size k (hbq.alloc hbq.size _) (heap_alloc_new (wr.drewN nq) _) HB.out.size (Nat.le_refl _) HLO.out HHI.out)
      obtain ⟨kf2, kc2⟩ := KF.out (wr.drewN nq) (HB2.out.trans (hbq.mono (Nat.le_trans HC.out HB2.out.size)))
      clear kf kc
      go_wp2_with fail
      refine CI2.out.mono ?_
      rintro e w6 ⟨v6, rfl, hg6, hb6⟩
      have HB6 := Lib.hid hb6
      have C7 := Lib.hid (sComp_any v6 (sput sp f c) C w6 hg6 HSPL.out (Nat.le_trans HC.out hb6.size))
      clear hg6 hb6 kf2 kc2 CI CI2
      go_wp2_with fail
      refine C7.out.mono ?_
      rintro e w8 ⟨v8, rfl, hg8, hb8⟩
      have hb9 := HB6.out.trans hb8
      have hr8 := KROW.out w8 hb9
      obtain ⟨a8, c8, rfl⟩ := hg8.gs.shape
      obtain ⟨m8, hm8⟩ : ∃ m, (scomp (sput sp f c)).length = m := ⟨_, rfl⟩
      rw [hm8] at hg8 ⊢
      have HM8 := Lib.hid hm8
      have f2 := hr8.free (i * 3 + 2)
      have c2 := hr8.cell layA HX.out (j := 2) rfl
      obtain ⟨k1, k2⟩ := hr8.pokeG layA (y := ((⟨xid, bl, sset sp f c⟩, (a8, m8, c8)) : AcX)) (u := .slice a8 m8 c8) HX.out (by omega : 2 < 3) rfl
      have HK1 := Lib.hid k1
      have HK2 := Lib.hid k2
      have HB9 := Lib.hid hb9
      have HG8 := Lib.hid hg8
      have c2n := k1.cell layA (x := ((⟨xid, bl, sset sp f c⟩, (a8, m8, c8)) : AcX)) (i := i) (by rw [List.getElem?_set_self (List.getElem?_eq_some_iff.1 HX.out).1]) (j := 2) rfl
      unfold Sl3.v at c2 c2n
      simp only at c2 c2n
      clear hg8 hb8 hb9 hr8 k1 k2 hm8 C7
      have HFG : Hid (Gs 2 csS (w8.setCell ⟨G, i * 3 + 2, none⟩ (.slice a8 m8 c8)) (.slice a8 m8 c8) (sset sp f c)) := (HG8.out.onlyR HK2.out (fun k hk hf => by have := (HG8.out.lt k hk).1; have := HGC.out; omega)).gs
      have HFO : Hid (∀ N, N ≤ G → Below N w (w8.setCell ⟨G, i * 3 + 2, none⟩ (.slice a8 m8 c8))) := fun N hN => (HB9.out.mono (by have := HGC.out; omega)).trans (HK2.out.below (fun t ht => by omega) (Nat.le_trans (show N ≤ w.heap.size by have := HGC.out; have := HC.out; omega) HB9.out.size))
      by_cases h32 : 32 < m8
      · have e9 : (32 : Int) < m8 := by omega
        have HE : Hid (setE f c ⟨xid, bl, sp⟩ = 3) := by show (if 32 < (scomp (sput sp f c)).length then (3 : Int) else 0) = 3; rw [HM8.out, if_pos h32]
        go_wp2
        go_ret
        exact ⟨((⟨xid, bl, sset sp f c⟩, (a8, m8, c8)) : AcX), by rw [HE.out]; rfl, rfl, rfl, HK1.out, HFG.out, HFO.out⟩
      · have e9 : ¬ (32 : Int) < m8 := by omega
        have HE : Hid (setE f c ⟨xid, bl, sp⟩ = 0) := by show (if 32 < (scomp (sput sp f c)).length then (3 : Int) else 0) = 0; rw [HM8.out, if_neg h32]
        go_wp2
        go_ret
        exact ⟨((⟨xid, bl, sset sp f c⟩, (a8, m8, c8)) : AcX), by rw [HE.out]; rfl, rfl, rfl, HK1.out, HFG.out, HFO.out⟩
end Go.Proofs.Ytjnbdeopoohnmaa
