/- Layer 56 (roster): RosterBytes: rosters as bytes, and bytes as rosters. -/
import Derived.Test.YtjnbdeopoohnmaaRt24
import Derived.Test.YtjnbdeopoohnmaaRt31
import Derived.Test.YtjnbdeopoohnmaaRt32
import Derived.Test.YtjnbdeopoohnmaaRt35
import Derived.Deep.DeepCutAuto
import Derived.Deep.CutBlock
import Derived.Lib.QuietBelow
set_option linter.unusedSimpArgs false
namespace Go.Proofs.Ytjnbdeopoohnmaa
open Go.RowKit Go.Sort

set_option maxRecDepth 100000 in
set_option maxHeartbeats 1600000 in
theorem rosterbytes_walk (v : Value) (l : List AcX) (y : Value) (b : List UInt8) (w : World) (h : Acs w v l) (hy : Bs w y b) :
    Calls Try.prog 8 #[v, y] w fun e w' => e = .returned (.bool true) ∧ Below w.heap.size w w' := by
  have HH := Lib.hid h
  have HY := Lib.hid hy
  obtain ⟨a, c, rfl⟩ := h.1.shape
  obtain ⟨n, hn⟩ : ∃ n, l.length = n := ⟨_, rfl⟩
  obtain ⟨ya, yc, rfl⟩ := hy.shape
  obtain ⟨m, hm⟩ : ∃ n, b.length = n := ⟨_, rfl⟩
  rw [hn] at HH ⊢
  rw [hm] at HY ⊢
  have CA := Lib.hid (rtAwake_any w)
  have CF := Lib.hid (fun V (hV : Below w.heap.size w V) => rtFew_any (.slice a n c) l V (HH.out.below hV))
  have CP := Lib.hid (fun V (hV : Below w.heap.size w V) => rtPut_any (.slice a n c) l V (HH.out.below hV))
  have CR := Lib.hid (fun V (hV : Below w.heap.size w V) => rrtRight_any (.slice a n c) l V (HH.out.below hV))
  have CT := Lib.hid (fun (u : Value) (x : List UInt8) V (h : Bs V u x) => rtTake_any u x V h)
  have CT2 := Lib.hid (fun V (hV : Below w.heap.size w V) => rtTake_any (.slice ya m yc) b V (HY.out.below hV))
  have CT3 := Lib.hid (fun V (hV : Below w.heap.size w V) => rrtTake_any (.slice ya m yc) b V (HY.out.below hV))
  unfold FewPost at CF
  unfold RPutPost at CP
  unfold RosPost at CT CT2 CT3
  have TR : Hid (∀ {V1 V2 V3 : World}, Below V1.heap.size V1 V2 → Below V2.heap.size V2 V3 → Below V1.heap.size V1 V3) := fun h1 h2 => h1.trans (h2.mono h1.size)
  have HN := Lib.hid hn
  obtain ⟨E, hE⟩ : ∃ E : Nat, rtE b = E := ⟨_, rfl⟩
  rw [hE] at CT2 CT3
  clear h hy hn hm hE
  go_enter Try.func8, Try.ntmps8
  go_wp2_with fail
  refine CA.out.mono ?_
  rintro e w1 ⟨rfl, hb1⟩
  have HB1 := Lib.hid hb1
  clear hb1 CA
  go_wp2_with fail
  refine (CF.out w1 HB1.out).mono ?_
  rintro e w2 ⟨fb, rfl, hfb, hb2⟩
  have HB2 := Lib.hid (TR.out HB1.out hb2)
  have HFB := Lib.hid hfb
  clear hb2 CF hfb
  cases fb with
  | false =>
    go_wp2
    go_ret
    exact ⟨rfl, HB2.out⟩
  | true =>
  have hfew := HFB.out.1 rfl
  have HN30 : Hid (n ≤ 30) := by show _ ≤ _; rw [← HN.out]; exact hfew.2
  clear hfew HFB
  by_cases hm : 2000 < m
  · have e1 : (2000 : Int) < m := by omega
    clear hm
    go_wp2
    go_ret
    exact ⟨rfl, HB2.out⟩
  have e1 : ¬ (2000 : Int) < m := by omega
  clear hm
  -- the second half, the same behind both ways
  have FIN : Hid (∀ V, Below w.heap.size w V → True) := fun _ _ => trivial
  obtain ⟨R, hR⟩ : ∃ R, aright (accD l) = R := ⟨_, rfl⟩
  rw [hR] at CP CR
  have HRR := Lib.hid hR
  clear hR
  have CPP : Calls Try.prog 35 #[.slice a n c] w2 fun e w' => ∃ v1 E1, e = .returned (.tuple #[v1, .int .i64 E1]) ∧ (R = true → E1 = 0 ∧ Bs w' v1 (rosB (accD l))) ∧ (R = false → v1 = .slice none 0 0 ∧ E1 = 2) ∧ Below w2.heap.size w2 w' := by
    refine (CP.out w2 HB2.out).mono ?_
    intro e w' hp
    cases R with
    | true =>
      rw [if_pos rfl] at hp
      obtain ⟨v1, rfl, h1, h2⟩ := hp
      exact ⟨v1, 0, rfl, (fun _ => ⟨rfl, h1⟩), (fun h => by cases h), h2⟩
    | false =>
      rw [if_neg (by decide)] at hp
      obtain ⟨rfl, h2⟩ := hp
      exact ⟨_, 2, rfl, (fun h => by cases h), (fun _ => ⟨rfl, rfl⟩), h2⟩
  have CPH := Lib.hid CPP
  clear CP CPP FIN
  go_wp2_with fail
  refine CPH.out.mono ?_
  rintro e w3 ⟨v1, E1, rfl, ht, hf, hb3⟩
  have HT := Lib.hid ht
  have HF := Lib.hid hf
  have HB3 := Lib.hid (TR.out HB2.out hb3)
  clear ht hf hb3 CPH
  go_wp2_with fail
  refine (CR.out w3 HB3.out).mono ?_
  rintro e w4 ⟨rfl, hb4⟩
  have HB4 := Lib.hid (TR.out HB3.out hb4)
  have HB34 := Lib.hid hb4
  clear hb4 CR
  go_upto_if 30 with fail
  go_cut [] (fun wx => Hid (Below w.heap.size w wx))
  case first =>
    cases R with
    | false =>
      obtain ⟨h1, h2⟩ := HF.out rfl
      subst h1 h2
      go_wp2
      go_meet
      case rel => exact HB4
    | true =>
      obtain ⟨h1, h2⟩ := HT.out rfl
      subst h1
      obtain ⟨a1, c1, hs1⟩ := h2.shape
      obtain ⟨n1, hn1⟩ : ∃ n, (rosB (accD l)).length = n := ⟨_, rfl⟩
      rw [hn1] at hs1
      subst hs1
      have HX := Lib.hid (h2.below HB34.out)
      have CTT := Lib.hid (CT.out _ _ w4 HX.out)
      obtain ⟨hk1, hk2⟩ := rtk_back HRR.out
      rw [hk1, hk2] at CTT
      clear h2 hn1 hk1 hk2
      go_wp2_with fail
      refine CTT.out.mono ?_
      rintro e w5 ⟨v5, M5, rfl, hM5, hD5, hb5⟩
      have HX5 := Lib.hid (HX.out.below hb5)
      have HM5 := Lib.hid hM5
      have HD5 := Lib.hid hD5
      have HB5 := Lib.hid (TR.out HB4.out hb5)
      have CQ := Lib.hid (rrtPut_any (.slice a n c) l w5 (HH.out.below HB5.out) HRR.out)
      clear hM5 hD5 hb5 CTT
      go_wp2_with fail
      refine CQ.out.mono ?_
      rintro e w6 ⟨v6, rfl, hx6, hb6⟩
      have CS := Lib.hid (same_any (.slice a1 n1 c1) v6 (rosB (accD l)) (rosB (accD l)) w6 (HX5.out.below hb6) hx6)
      have HB6 := Lib.hid (TR.out HB5.out hb6)
      have HM6 := Lib.hid (HM5.out.below hb6)
      rw [show (rosB (accD l) == rosB (accD l)) = true by simp] at CS
      clear hx6 hb6 CQ
      go_wp2_with fail
      refine CS.out.mono ?_
      rintro e w7 ⟨rfl, hb7⟩
      have HB7 := Lib.hid (TR.out HB6.out hb7)
      have CS2 := Lib.hid (rrtSame_yes (.slice a n c) v5 l M5 w7 (HH.out.below HB7.out) (HM6.out.below hb7) HD5.out.symm)
      clear hb7 CS
      go_wp2_with fail
      refine CS2.out.mono ?_
      rintro e w8 ⟨rfl, hb8⟩
      have HB8 := Lib.hid (TR.out HB7.out hb8)
      clear hb8 CS2
      go_wp2
      go_meet
      case rel => exact HB8
  case rest =>
    obtain ⟨W2, rfl⟩ : ∃ W, W = wc := ⟨_, rfl⟩
    have HBC : Hid (Below w.heap.size w W2) := hcut
    have C1 := Lib.hid (CT2.out W2 HBC.out)
    go_wp2_with fail
    refine C1.out.mono ?_
    rintro e w7 ⟨v7, M7, rfl, hM7, hD7, hb7⟩
    have HM7 := Lib.hid hM7
    have HD7 := Lib.hid hD7
    have HB7 := Lib.hid (TR.out HBC.out hb7)
    clear hM7 hD7 hb7 C1 hcut
    have C2 := Lib.hid (CT3.out w7 HB7.out)
    go_wp2_with fail
    refine C2.out.mono ?_
    rintro e w8 ⟨v8, M8, rfl, hM8, hD8, hb8⟩
    have HB8 := Lib.hid (TR.out HB7.out hb8)
    have C3 := Lib.hid (rrtSame_yes v7 v8 M7 M8 w8 (HM7.out.below hb8) hM8 (HD7.out.trans hD8.symm))
    have e2 : ((E : Int) == (E : Int)) = true := by simp
    clear hM8 hD8 hb8 C2
    go_wp2_with fail
    refine C3.out.mono ?_
    rintro e w9 ⟨rfl, hb9⟩
    have HB9 := Lib.hid (TR.out HB8.out hb9)
    clear hb9
    go_wp2
    go_ret
    exact ⟨rfl, HB9.out⟩
end Go.Proofs.Ytjnbdeopoohnmaa
