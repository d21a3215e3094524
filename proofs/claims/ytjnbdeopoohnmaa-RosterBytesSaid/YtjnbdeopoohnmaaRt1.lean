/- Layer 56 (roster): spells and accounts that are read; one. -/
import Derived.Test.YtjnbdeopoohnmaaRt0
import Derived.Test.YtjnbdeopoohnmaaVarint
import Derived.Test.YtjnbdeopoohnmaaRset2
import Derived.Deep.RegionLaw
import Derived.Deep.DeepCutAuto
import Derived.Deep.CutBlock
import Derived.Lib.QuietBelow
set_option linter.unusedSimpArgs false
namespace Go.Proofs.Ytjnbdeopoohnmaa
open Go.RowKit Go.Sort

def csS (s : SpT) : List Value := [.int .i64 s.1, .int .i64 s.2]
theorem layS : Lay 2 csS := ⟨fun _ => rfl, fun a u h => by simp only [csS, List.mem_cons, List.not_mem_nil, or_false] at h; rcases h with rfl | rfl <;> rfl, by decide⟩
theorem info_spell : (Try.prog.info? 49).map (fun i => (i.zero, i.size, i.bytes)) = some (some (.agg #[.int .i64 0, .int .i64 0]), 2, 16) := by kernel_rfl
theorem elS : ElTy Try.prog 41 49 (.agg #[.int .i64 0, .int .i64 0]) 2 16 := ⟨Try.underlying41, info_parts info_spell, rfl, by decide⟩

abbrev Sl3 := Option Addr × Nat × Nat
def Sl3.v (t : Sl3) : Value := .slice t.1 t.2.1 t.2.2
/-- an account, and where its spells lie -/
abbrev AcX := AcD × Sl3
def csA (x : AcX) : List Value := [.int .i64 x.1.id, .int .i64 x.1.bl, Sl3.v x.2]
theorem layA : Lay 3 csA := ⟨fun _ => rfl, fun a u h => by simp only [csA, List.mem_cons, List.not_mem_nil, or_false] at h; rcases h with rfl | rfl | rfl <;> rfl, by decide⟩
theorem info_acct : (Try.prog.info? 43).map (fun i => (i.zero, i.size, i.bytes)) = some (some (.agg #[.int .i64 0, .int .i64 0, .slice none 0 0]), 3, 40) := by kernel_rfl
theorem elA : ElTy Try.prog 38 43 (.agg #[.int .i64 0, .int .i64 0, .slice none 0 0]) 3 40 := ⟨Try.underlying38, info_parts info_acct, rfl, by decide⟩
def AcX.agg (x : AcX) : Value := .agg #[.int .i64 x.1.id, .int .i64 x.1.bl, Sl3.v x.2]

def IW (n : Int) : Prop := -9223372036854775808 ≤ n ∧ n ≤ 9223372036854775807
/-- an account that is read -/
def AcV (w : World) (x : AcX) : Prop := Gs 2 csS w (Sl3.v x.2) x.1.sp ∧ IW x.1.id ∧ IW x.1.bl ∧ ∀ s ∈ x.1.sp, IW s.1 ∧ IW s.2
theorem AcV.below {w w' : World} {x : AcX} (h : AcV w x) (hb : Below w.heap.size w w') : AcV w' x := ⟨h.1.below hb, h.2⟩
def Acs (w : World) (v : Value) (l : List AcX) : Prop := Gs 3 csA w v l ∧ ∀ x ∈ l, AcV w x
theorem Acs.below {w w' : World} {v : Value} {l : List AcX} (h : Acs w v l) (hb : Below w.heap.size w w') : Acs w' v l := ⟨h.1.below hb, fun x hx => (h.2 x hx).below hb⟩
theorem acct_cells {w : World} {q : Nat} {a b c : Value} (h : w.heap[q]? = some (.cells #[a, b, c] 43 (0, 0))) : w.cell? ⟨q, 0, none⟩ = some a ∧ w.cell? ⟨q, 1, none⟩ = some b ∧ w.cell? ⟨q, 2, none⟩ = some c :=
  ⟨cell_of_row w _ _ _ _ _ h, cell_of_row w _ _ _ _ _ h, cell_of_row w _ _ _ _ _ h⟩
theorem spell_cells {w : World} {q : Nat} {a b : Value} (h : w.heap[q]? = some (.cells #[a, b] 49 (0, 0))) : w.cell? ⟨q, 0, none⟩ = some a ∧ w.cell? ⟨q, 1, none⟩ = some b :=
  ⟨cell_of_row w _ _ _ _ _ h, cell_of_row w _ _ _ _ _ h⟩

theorem within_any (n lo hi : Int) (w : World) : Calls Try.prog 47 #[.int .i64 n, .int .i64 lo, .int .i64 hi] w fun e w' => e = .returned (.bool (decide (lo ≤ n ∧ n ≤ hi))) ∧ w = w' := by
  go_enter Try.func47, Try.ntmps47
  by_cases h1 : lo ≤ n
  · by_cases h2 : n ≤ hi
    · go_wp2
      go_ret
      exact ⟨by rw [decide_eq_true ⟨h1, h2⟩]; simp, rfl⟩
    · go_wp2
      go_ret
      exact ⟨by rw [decide_eq_false (by omega)]; simp, rfl⟩
  · go_wp2
    go_ret
    exact ⟨by rw [decide_eq_false (by omega)]; simp, rfl⟩
theorem from_any (n lo hi : Int) (w : World) : Calls Try.prog 61 #[.int .i64 n, .int .i64 lo, .int .i64 hi] w fun e w' => e = .returned (.bool (decide (lo ≤ n ∧ n ≤ hi))) ∧ w = w' := by
  go_enter Try.func61, Try.ntmps61
  by_cases h1 : lo ≤ n
  · by_cases h2 : n ≤ hi
    · go_wp2
      go_ret
      exact ⟨by rw [decide_eq_true ⟨h1, h2⟩]; simp, rfl⟩
    · go_wp2
      go_ret
      exact ⟨by rw [decide_eq_false (by omega)]; simp, rfl⟩
  · go_wp2
    go_ret
    exact ⟨by rw [decide_eq_false (by omega)]; simp, rfl⟩

set_option maxRecDepth 100000 in
set_option maxHeartbeats 1600000 in
theorem rtOne_any (x : AcX) (w : World) (h : AcV w x) : Calls Try.prog 46 #[x.agg] w fun e w' => e = .returned (.bool (aone x.1)) ∧ Below w.heap.size w w' := by
  obtain ⟨⟨id, bl, sp⟩, t⟩ := x
  obtain ⟨hg, hi1, hi2, hi3⟩ := h
  simp only at hg hi1 hi2 hi3 ⊢
  obtain ⟨n, hn⟩ : ∃ n, sp.length = n := ⟨_, rfl⟩
  obtain ⟨a, c, b, o, he, h1, h2, hix, hlt', hcell, -⟩ := hg.open_n layS elS n hn
  obtain ⟨ta, tn, tc⟩ := t
  unfold AcX.agg
  unfold Sl3.v at *
  simp only [Value.slice.injEq] at he ⊢
  obtain ⟨rfl, rfl, rfl⟩ := he
  have hal : Below w.heap.size w (w.alloc (.cells #[.int .i64 id, .int .i64 bl, .slice ta tn tc] 43)) := (Below.refl _ _).alloc (Nat.le_refl _) _
  have hr : (w.alloc (.cells #[.int .i64 id, .int .i64 bl, .slice ta tn tc] 43)).heap[w.heap.size]? = some (.cells #[.int .i64 id, .int .i64 bl, .slice ta tn tc] 43 (0, 0)) := heap_alloc_new _ _
  obtain ⟨q, hq⟩ : ∃ q, w.heap.size = q := ⟨_, rfl⟩
  obtain ⟨W, hW⟩ : ∃ V, w.alloc (.cells #[.int .i64 id, .int .i64 bl, .slice ta tn tc] 43) = V := ⟨_, rfl⟩
  rw [hW] at hal hr
  rw [hq] at hr
  obtain ⟨R, hR⟩ : ∃ R, aone ⟨id, bl, sp⟩ = R := ⟨_, rfl⟩
  have HV : Hid (R = (decide (1 ≤ id ∧ id ≤ 2147483648) && (decide (-1 ≤ bl ∧ bl ≤ 1099511627776) && (decide (1 ≤ tn ∧ tn ≤ 32) && (afirst sp && spTo sp tn))))) := by show _ = _; rw [← hR, ← hn]; rfl
  rw [hR]
  have HC := Lib.hid hcell
  have HN := Lib.hid hn
  have HLT := Lib.hid hlt'
  have HIW := Lib.hid hi3
  have HB := Lib.hid hal
  have HQX := Lib.hid (fun (V : World) (hV : Below W.heap.size W V) => acct_cells ((hV.block q (heap_lt hr)).trans hr))
  have cs0 := HQX.out W (Below.refl _ _)
  obtain ⟨s0, s1, s2⟩ := cs0
  clear hg hn hcell hlt' hi3 hR hal hr
  have hn63 : tn ≤ 9223372036854775807 := by omega
  go_enter Try.func46, Try.ntmps46
  obtain ⟨b1, hb1⟩ : ∃ b, decide (1 ≤ id ∧ id ≤ 2147483648) = b := ⟨_, rfl⟩
  obtain ⟨b2, hb2⟩ : ∃ b, decide (-1 ≤ bl ∧ bl ≤ 1099511627776) = b := ⟨_, rfl⟩
  obtain ⟨b3, hb3⟩ : ∃ b, decide ((1 : Int) ≤ (tn : Int) ∧ (tn : Int) ≤ 32) = b := ⟨_, rfl⟩
  have hb3' : decide (1 ≤ tn ∧ tn ≤ 32) = b3 := by rw [← hb3]; congr 1; apply propext; omega
  have W1 := Lib.hid (fun V => within_any id 1 2147483648 V)
  have W2 := Lib.hid (fun V => within_any bl (-1) 1099511627776 V)
  have W3 := Lib.hid (fun V => within_any tn 1 32 V)
  rw [hb1] at W1
  rw [hb2] at W2
  rw [hb3] at W3
  rw [hb1, hb2, hb3'] at HV
  have HB3 := Lib.hid hb3'
  clear hb1 hb2 hb3 hb3'
  have HQ := Lib.hid hq
  have HW := Lib.hid hW
  go_upto_region 1 with fail
  clear hq hW
  cases b1 with
  | false =>
    have HF : Hid (R = false) := HV.out
    go_wp2_with (go_at_call 47; refine (W1.out _).mono ?_; rintro e w' ⟨rfl, rfl⟩)
    go_ret
    exact ⟨by rw [HF.out]; rfl, HB.out⟩
  | true =>
  cases b2 with
  | false =>
    have HF : Hid (R = false) := HV.out
    go_wp2_with (go_at_call 47; first | ((with_reducible refine (W1.out _).mono ?_); rintro e w' ⟨rfl, rfl⟩) | ((with_reducible refine (W2.out _).mono ?_); rintro e w' ⟨rfl, rfl⟩))
    go_ret
    exact ⟨by rw [HF.out]; rfl, HB.out⟩
  | true =>
  cases b3 with
  | false =>
    have HF : Hid (R = false) := HV.out
    go_wp2_with (go_at_call 47; first | ((with_reducible refine (W1.out _).mono ?_); rintro e w' ⟨rfl, rfl⟩) | ((with_reducible refine (W2.out _).mono ?_); rintro e w' ⟨rfl, rfl⟩) | ((with_reducible refine (W3.out _).mono ?_); rintro e w' ⟨rfl, rfl⟩))
    go_ret
    exact ⟨by rw [HF.out]; rfl, HB.out⟩
  | true =>
  have h32 : 1 ≤ tn ∧ tn ≤ 32 := of_decide_eq_true HB3.out
  obtain ⟨y, hy⟩ : ∃ y, sp[0]? = some y := ⟨_, List.getElem?_eq_getElem (by rw [HN.out]; omega)⟩
  have hix0 := fun W => hix W 0 h32.1
  have y0 := HC.out 0 y hy 0 _ rfl
  rw [Nat.add_zero, ← HB.out.cell (by exact HLT.out 0 h32.1)] at y0
  rw [show ((0 : Nat) : Int) = 0 from rfl] at hix0
  have hfirst : afirst sp = decide (y.1 = 0) := by
    cases sp with
    | nil => simp at hy
    | cons s L => simp at hy; subst hy; rfl
  have HV2 : Hid (R = (afirst sp && spTo sp tn)) := HV.out
  have HFI := Lib.hid hfirst
  have H32 := Lib.hid h32
  clear hfirst hy HV
  by_cases hz : y.1 = 0
  case neg =>
    have ez : (y.1 != 0) = true := by simpa using hz
    have HF : Hid (R = false) := by show _ = _; rw [HV2.out, HFI.out, decide_eq_false hz]; rfl
    clear hz
    go_wp2_with (go_at_call 47; first | ((with_reducible refine (W1.out _).mono ?_); rintro e w' ⟨rfl, rfl⟩) | ((with_reducible refine (W2.out _).mono ?_); rintro e w' ⟨rfl, rfl⟩) | ((with_reducible refine (W3.out _).mono ?_); rintro e w' ⟨rfl, rfl⟩))
    go_ret
    exact ⟨by rw [HF.out]; rfl, HB.out⟩
  have ez : (y.1 != 0) = false := by simpa using hz
  have HV3 : Hid (R = spTo sp tn) := by show _ = _; rw [HV2.out, HFI.out, decide_eq_true hz]; rfl
  clear hz HV2
  go_wp2_with (go_at_call 47; first | ((with_reducible refine (W1.out _).mono ?_); rintro e w' ⟨rfl, rfl⟩) | ((with_reducible refine (W2.out _).mono ?_); rintro e w' ⟨rfl, rfl⟩) | ((with_reducible refine (W3.out _).mono ?_); rintro e w' ⟨rfl, rfl⟩))
  go_loopw [33] (fun vi wr => ∃ k : Nat, k ≤ tn ∧ vi = .int .i64 k ∧ Hid (spTo sp k = true) ∧ Hid (Below W.heap.size W wr)) (fun vi _ => tn - (intOf vi).toNat)
  case atStart => exact ⟨0, by omega, rfl, rfl, Below.refl _ _⟩
  case round =>
    obtain ⟨k, hk, rfl, HP, HBR⟩ := hrel
    have h32 : 1 ≤ tn ∧ tn ≤ 32 := H32.out
    by_cases hlt : k < tn
    · have e2 : (k : Int) < tn := by omega
      obtain ⟨s, hs⟩ : ∃ s, sp[k]? = some s := ⟨_, List.getElem?_eq_getElem (by have := HN.out; omega)⟩
      have hBw : Below w.heap.size w wr := HB.out.trans (HBR.out.mono HB.out.size)
      have m0 := HC.out k s hs 0 _ rfl
      have m1 := HC.out k s hs 1 _ rfl
      rw [Nat.add_zero] at m0
      have hbl := HLT.out k hlt
      rw [← hBw.cell (by exact hbl)] at m0 m1
      have hixk := fun W => hix W k hlt
      have hiw := HIW.out s (List.mem_of_getElem? hs)
      have hnext := spTo_next sp k
      rw [HP.out, Bool.true_and] at hnext
      have HNO : Hid (spAt sp k = false → R = false) := fun h => by rw [HV3.out]; exact spTo_no h hlt
      obtain ⟨f, c⟩ := s
      simp only at m0 m1 hiw
      obtain ⟨g, hg⟩ : ∃ g, wr.heap.size = g := ⟨_, rfl⟩
      obtain ⟨W4, hW4⟩ : ∃ V, wr.alloc (.cells #[.int .i64 f, .int .i64 c] 49) = V := ⟨_, rfl⟩
      have hr4 : W4.heap[g]? = some (.cells #[.int .i64 f, .int .i64 c] 49 (0, 0)) := by rw [← hW4, ← hg]; exact heap_alloc_new _ _
      have hb4 : Below W.heap.size W W4 := by rw [← hW4]; exact bw_al HBR.out _
      have HB4 := Lib.hid hb4
      obtain ⟨g0, g1⟩ := spell_cells hr4
      obtain ⟨b4, hb4'⟩ : ∃ b, decide (0 ≤ f ∧ f ≤ 1099511627776) = b := ⟨_, rfl⟩
      obtain ⟨b5, hb5'⟩ : ∃ b, decide (0 ≤ c ∧ c ≤ 15) = b := ⟨_, rfl⟩
      have hspw : spW (f, c) = (b4 && b5) := by unfold spW; simp only; rw [hb4', hb5']
      have W4' := Lib.hid (fun V => within_any f 0 1099511627776 V)
      have W5' := Lib.hid (fun V => within_any c 0 15 V)
      rw [hb4'] at W4'
      rw [hb5'] at W5'
      have HS := Lib.hid hs
      have HSPW := Lib.hid hspw
      have HNX := Lib.hid hnext
      have HLT2 := Lib.hid hlt
      have hz0 : Hid (k = 0 → spAt sp k = (b4 && b5)) := fun h => by subst h; rw [spAt0 hs, hspw]
      clear hs hBw hbl hb4 hr4 hb4' hb5' hspw hnext hlt
      have hwbad : Hid ((b4 && b5) = false → R = false) := fun h => by
        refine HNO.out ?_
        by_cases h0 : k = 0
        · rw [hz0.out h0, h]
        · obtain ⟨p, hp⟩ : ∃ p, sp[k - 1]? = some p := ⟨_, List.getElem?_eq_getElem (by have := HN.out; have := HLT2.out; omega)⟩
          rw [spAtS (by omega) HS.out hp, HSPW.out, h]
          rfl
      cases b4 with
      | false =>
        have HF : Hid (R = false) := hwbad.out rfl
        go_wp2_with (go_at_call 47; first | ((with_reducible refine (W4'.out _).mono ?_); rintro e w' ⟨rfl, rfl⟩) | ((with_reducible refine (W5'.out _).mono ?_); rintro e w' ⟨rfl, rfl⟩))
        go_ret
        exact ⟨by rw [HF.out]; rfl, HB.out.trans (HB4.out.mono HB.out.size)⟩
      | true =>
      cases b5 with
      | false =>
        have HF : Hid (R = false) := hwbad.out rfl
        go_wp2_with (go_at_call 47; first | ((with_reducible refine (W4'.out _).mono ?_); rintro e w' ⟨rfl, rfl⟩) | ((with_reducible refine (W5'.out _).mono ?_); rintro e w' ⟨rfl, rfl⟩))
        go_ret
        exact ⟨by rw [HF.out]; rfl, HB.out.trans (HB4.out.mono HB.out.size)⟩
      | true =>
      clear hwbad
      go_wp2_with (go_at_call 47; first | ((with_reducible refine (W4'.out _).mono ?_); rintro e w' ⟨rfl, rfl⟩) | ((with_reducible refine (W5'.out _).mono ?_); rintro e w' ⟨rfl, rfl⟩))
      have HBW4 : Hid (Below w.heap.size w W4) := HB.out.trans (HB4.out.mono HB.out.size)
      have cq := HQX.out W4 HB4.out
      obtain ⟨-, -, z2⟩ := cq
      clear m0 m1
      by_cases hk0 : 0 < k
      case neg =>
        have hnx : Hid (spTo sp (k + 1) = true) := by show _ = _; rw [HNX.out, hz0.out (by omega)]; rfl
        clear hz0 HNX
        go_quiet (fail)
        have hbq : Hid (Below W.heap.size W (W4.drewN nq)) := below_drewN HB4.out nq
        go_wp2
        go_roundw
        case rel => exact ⟨k + 1, by have := HLT2.out; omega, by go_num, hnx, hbq⟩
        case measure => simp [intOf]; have := HLT2.out; omega
      obtain ⟨p, hp⟩ : ∃ p, sp[k - 1]? = some p := ⟨_, List.getElem?_eq_getElem (by have := HN.out; have := HLT2.out; omega)⟩
      have hat := spAtS hk0 HS.out hp
      rw [HSPW.out] at hat
      have n0 := HC.out (k - 1) p hp 0 _ rfl
      have n1 := HC.out (k - 1) p hp 1 _ rfl
      rw [Nat.add_zero] at n0
      have hbl := HLT.out (k - 1) (by have := HLT2.out; omega)
      rw [← HBW4.out.cell (by exact hbl)] at n0 n1
      have hixp := fun W => hix W (k - 1) (by have := HLT2.out; omega)
      rw [show ((k - 1 : Nat) : Int) = (k : Int) - 1 by omega] at hixp
      obtain ⟨pf, pc⟩ := p
      simp only at n0 n1 hat
      have HAT := Lib.hid hat
      clear hp hat hbl hz0
      by_cases e5 : f ≤ pf
      · have HF : Hid (R = false) := HNO.out (by rw [HAT.out, decide_eq_false (by omega : ¬ pf < f)]; rfl)
        go_quiet (fail)
        have hbq : Hid (Below w.heap.size w (W4.drewN nq)) := below_drewN HBW4.out nq
        go_wp2
        go_ret
        exact ⟨by rw [HF.out]; rfl, hbq.out⟩
      · by_cases e6 : c = pc
        · have HF : Hid (R = false) := HNO.out (by rw [HAT.out, decide_eq_true e6]; simp)
          have e7 : (c == pc) = true := by simpa using e6
          clear e6
          go_quiet (fail)
          have hbq : Hid (Below w.heap.size w (W4.drewN nq)) := below_drewN HBW4.out nq
          go_wp2
          go_ret
          exact ⟨by rw [HF.out]; rfl, hbq.out⟩
        · have hnx : Hid (spTo sp (k + 1) = true) := by show _ = _; rw [HNX.out, HAT.out, decide_eq_true (by omega : pf < f), decide_eq_false e6]; rfl
          have e7 : (c == pc) = false := by simpa using e6
          clear e6 HNX
          go_quiet (fail)
          have hbq : Hid (Below W.heap.size W (W4.drewN nq)) := below_drewN HB4.out nq
          go_wp2
          go_roundw
          case rel => exact ⟨k + 1, by have := HLT2.out; omega, by go_num, hnx, hbq⟩
          case measure => simp [intOf]; have := HLT2.out; omega
    · obtain rfl : k = tn := by omega
      have e2 : ¬ (k : Int) < k := by omega
      have HF : Hid (R = true) := by show _ = _; rw [HV3.out]; exact HP.out
      go_wp2
      go_ret
      exact ⟨by rw [HF.out]; rfl, HB.out.trans (HBR.out.mono HB.out.size)⟩
end Go.Proofs.Ytjnbdeopoohnmaa
