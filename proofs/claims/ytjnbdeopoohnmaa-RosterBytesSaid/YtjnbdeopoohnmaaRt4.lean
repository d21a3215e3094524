/- Layer 56 (roster): place; Find of both sides. -/
import Derived.Test.YtjnbdeopoohnmaaRt3
import Derived.Deep.RegionLaw
import Derived.Deep.DeepCutAuto
import Derived.Deep.CutBlock
import Derived.Lib.QuietBelow
import Derived.Lib.SliceRun
set_option linter.unusedSimpArgs false
namespace Go.Proofs.Ytjnbdeopoohnmaa
open Go.RowKit Go.Sort

/-- where an account is, or would be -/
structure PlaceIs (l : List AcX) (id : Int) (i : Nat) : Prop where
  le : i ≤ l.length
  lo : ∀ (j : Nat) (y : AcX), j < i → l[j]? = some y → y.1.id < id
  hi : ∀ y : AcX, l[i]? = some y → ¬ y.1.id < id
def phas (l : List AcX) (id : Int) (i : Nat) : Bool := match l[i]? with
  | none => false
  | some x => decide (x.1.id = id)
def PlacePost (w : World) (l : List AcX) (id : Int) (e : Ending) (w' : World) : Prop := ∃ i, PlaceIs l id i ∧ e = .returned (.tuple #[.int .i64 (i : Nat), .bool (phas l id i)]) ∧ Below w.heap.size w w'
set_option maxRecDepth 100000 in
set_option maxHeartbeats 1600000 in
theorem rtPlace_any (v : Value) (l : List AcX) (id : Int) (w : World) (h : Gs 3 csA w v l) : Calls Try.prog 58 #[v, .int .i64 id] w (PlacePost w l id) := by
  obtain ⟨n, hn⟩ : ∃ n, l.length = n := ⟨_, rfl⟩
  obtain ⟨a, c, b, o, rfl, h1, h2, hix, hlt', hcell, -⟩ := h.open_n layA elA n hn
  have HC := Lib.hid hcell
  have HN := Lib.hid hn
  have HLT := Lib.hid hlt'
  clear h hn hcell hlt'
  have hn63 : n ≤ 9223372036854775807 := by omega
  go_enter Try.func58, Try.ntmps58
  go_wp2_with fail
  go_loopw [6] (fun vi wr => ∃ k : Nat, k ≤ n ∧ vi = .int .i64 k ∧ Hid (∀ (j : Nat) (y : AcX), j < k → l[j]? = some y → y.1.id < id) ∧ wr = w) (fun vi _ => n - (intOf vi).toNat)
  case atStart => exact ⟨0, by omega, rfl, fun j y hj => absurd hj (by omega), rfl⟩
  case round =>
    obtain ⟨k, hk, rfl, HP, rfl⟩ := hrel
    by_cases hlt : k < n
    · have e2 : (k : Int) < n := by omega
      obtain ⟨x, hs⟩ : ∃ s, l[k]? = some s := ⟨_, List.getElem?_eq_getElem (by have := HN.out; omega)⟩
      have m0 := HC.out k x hs 0 _ rfl
      rw [Nat.add_zero] at m0
      have hixk := fun W => hix W k hlt
      have HS := Lib.hid hs
      have HLT2 := Lib.hid hlt
      clear hs hlt
      by_cases e3 : x.1.id < id
      · have HP2 : Hid (∀ (j : Nat) (y : AcX), j < k + 1 → l[j]? = some y → y.1.id < id) := fun j y hj hy => by
          by_cases hjk : j < k
          · exact HP.out j y hjk hy
          · obtain rfl : j = k := by omega
            rw [HS.out] at hy; cases hy; exact e3
        go_wp2
        go_roundw
        case rel => exact ⟨k + 1, by have := HLT2.out; omega, by go_num, HP2, by trivial⟩
        case measure => simp [intOf]; have := HLT2.out; omega
      · have hpl : PlaceIs l id k := ⟨by rw [HN.out]; exact hk, HP.out, fun y hy => by rw [HS.out] at hy; cases hy; exact e3⟩
        have HPL := Lib.hid hpl
        have hph : phas l id k = decide (x.1.id = id) := by unfold phas; rw [HS.out]
        have HPH := Lib.hid hph
        obtain ⟨ph, hph2⟩ : ∃ b, decide (x.1.id = id) = b := ⟨_, rfl⟩
        have hbe : (x.1.id == id) = ph := by rw [← hph2]; by_cases h : x.1.id = id <;> simp [h]
        have HP3 := Lib.hid hph2
        clear hpl hph hph2
        go_wp2_with fail
        go_quiet (fail)
        have hbq : Hid (Below wr.heap.size wr (wr.drewN nq)) := below_drewN (Below.refl _ _) nq
        go_wp2
        go_ret2
        exact ⟨k, HPL.out, by rw [HPH.out, HP3.out]; rfl, hbq.out⟩
    · obtain rfl : k = n := by omega
      have e2 : ¬ (k : Int) < k := by omega
      have hpl : PlaceIs l id k := ⟨by rw [HN.out]; exact Nat.le_refl _, HP.out, fun y hy => by have := (List.getElem?_eq_some_iff.1 hy).1; have := HN.out; omega⟩
      have HPL := Lib.hid hpl
      have HPH : Hid (phas l id k = false) := by show _ = _; unfold phas; rw [List.getElem?_eq_none (by rw [HN.out]; exact Nat.le_refl _)]
      clear hpl
      go_wp2_with fail
      go_quiet (fail)
      have hbq : Hid (Below wr.heap.size wr (wr.drewN nq)) := below_drewN (Below.refl _ _) nq
      go_wp2
      go_ret2
      exact ⟨k, HPL.out, by rw [HPH.out]; rfl, hbq.out⟩

/-- the first account of a number -/
def ANo (l : List AcX) (id : Int) (k : Nat) : Prop := ∀ (j : Nat) (y : AcX), j < k → l[j]? = some y → y.1.id ≠ id
def AIdx (l : List AcX) (id : Int) (r : Option Nat) : Prop := match r with
  | some k => (∃ x, l[k]? = some x ∧ x.1.id = id) ∧ ANo l id k
  | none => ANo l id l.length
theorem AIdx.uniq {l : List AcX} {id : Int} {r s : Option Nat} (h1 : AIdx l id r) (h2 : AIdx l id s) : r = s := by
  cases r with
  | none =>
    cases s with
    | none => rfl
    | some k =>
      obtain ⟨⟨x, hx, he⟩, _⟩ := h2
      exact absurd he (h1 k x (List.getElem?_eq_some_iff.1 hx).1 hx)
  | some j =>
    cases s with
    | none =>
      obtain ⟨⟨x, hx, he⟩, _⟩ := h1
      exact absurd he (h2 j x (List.getElem?_eq_some_iff.1 hx).1 hx)
    | some k =>
      obtain ⟨⟨x, hx, he⟩, h3⟩ := h1
      obtain ⟨⟨y, hy, he'⟩, h4⟩ := h2
      have : j = k := by
        by_cases hjk : j < k
        · exact absurd he (h4 j x hjk hx)
        · by_cases hkj : k < j
          · exact absurd he' (h3 k y hkj hy)
          · omega
      rw [this]
def aiV : Option Nat → Int
  | some k => (k : Nat)
  | none => -1

set_option maxRecDepth 100000 in
theorem rrtFind_any (v : Value) (l : List AcX) (id : Int) (w : World) (h : Gs 3 csA w v l) : Calls Try.prog 33 #[v, .int .i64 id] w fun e w' => ∃ r, AIdx l id r ∧ e = .returned (.int .i64 (aiV r)) ∧ w = w' := by
  obtain ⟨n, hn⟩ : ∃ n, l.length = n := ⟨_, rfl⟩
  obtain ⟨a, c, b, o, rfl, h1, h2, hix, hlt', hcell, -⟩ := h.open_n layA elA n hn
  have HC := Lib.hid hcell
  have HN := Lib.hid hn
  clear h hn hcell hlt'
  have hn63 : n ≤ 9223372036854775807 := by omega
  go_enter Try.func33, Try.ntmps33
  go_wp2_with fail
  go_loopw [5] (fun vi wr => ∃ k : Nat, k ≤ n ∧ vi = .int .i64 k ∧ Hid (ANo l id k) ∧ wr = w) (fun vi _ => n - (intOf vi).toNat)
  case atStart => exact ⟨0, by omega, rfl, fun j y hj => absurd hj (by omega), rfl⟩
  case round =>
    obtain ⟨k, hk, rfl, HP, rfl⟩ := hrel
    by_cases hlt : k < n
    · have e2 : (k : Int) < n := by omega
      obtain ⟨x, hs⟩ : ∃ s, l[k]? = some s := ⟨_, List.getElem?_eq_getElem (by have := HN.out; omega)⟩
      have m0 := HC.out k x hs 0 _ rfl
      rw [Nat.add_zero] at m0
      have hixk := fun W => hix W k hlt
      have HS := Lib.hid hs
      have HLT2 := Lib.hid hlt
      clear hs hlt
      by_cases e3 : x.1.id = id
      · have e4 : (x.1.id == id) = true := by simpa using e3
        have HA : Hid (AIdx l id (some k)) := ⟨⟨x, HS.out, e3⟩, HP.out⟩
        clear e3
        go_wp2
        go_ret
        exact ⟨some k, HA.out, rfl, rfl⟩
      · have e4 : (x.1.id == id) = false := by simpa using e3
        have HP2 : Hid (ANo l id (k + 1)) := fun j y hj hy => by
          by_cases hjk : j < k
          · exact HP.out j y hjk hy
          · obtain rfl : j = k := by omega
            rw [HS.out] at hy; cases hy; exact e3
        clear e3
        go_wp2
        go_roundw
        case rel => exact ⟨k + 1, by have := HLT2.out; omega, by go_num, HP2, by trivial⟩
        case measure => simp [intOf]; have := HLT2.out; omega
    · obtain rfl : k = n := by omega
      have e2 : ¬ (k : Int) < k := by omega
      have HA : Hid (AIdx l id none) := by show ANo l id l.length; rw [HN.out]; exact HP.out
      go_wp2
      go_ret
      exact ⟨none, HA.out, rfl, rfl⟩

theorem rtFind1_any (x : AcX) (z : Int) (g : Nat) (w : World) (hc : w.cell? ⟨g, 0, none⟩ = some (.int .i64 z)) : Calls Try.prog 56 #[x.agg, .pointer (some ⟨g, 0, none⟩)] w fun e w' => e = .returned (.bool (decide (x.1.id = z))) ∧ Below w.heap.size w w' := by
  obtain ⟨⟨id, bl, sp⟩, ⟨xa, xn, xc⟩⟩ := x
  unfold AcX.agg Sl3.v
  simp only
  have HB := Lib.hid ((Below.refl w.heap.size w).alloc (Nat.le_refl _) (.cells #[.int .i64 id, .int .i64 bl, .slice xa xn xc] 43))
  have hlt : g < w.heap.size := by have := World.block_lt_of_cell? w _ hc; simpa using this
  have hc2 : (w.alloc (.cells #[.int .i64 id, .int .i64 bl, .slice xa xn xc] 43)).cell? ⟨g, 0, none⟩ = some (.int .i64 z) := by rw [HB.out.cell hlt]; exact hc
  have hbe : (id == z) = decide (id = z) := by by_cases h : id = z <;> simp [h]
  have HBE := Lib.hid hbe
  clear hlt hbe
  go_enter Try.func56, Try.ntmps56
  go_wp2
  go_ret
  exact ⟨by rw [← HBE.out]; rfl, HB.out⟩

set_option maxRecDepth 100000 in
theorem rtIdx_any (v : Value) (l : List AcX) (z : Int) (g : Nat) (w : World) (h : Gs 3 csA w v l) (hc : w.cell? ⟨g, 0, none⟩ = some (.int .i64 z)) :
    Calls Try.prog 55 #[v, .func (Fn.func 56) #[] #[.pointer (some ⟨g, 0, none⟩)]] w fun e w' => ∃ r, AIdx l z r ∧ e = .returned (.int .i64 (aiV r)) ∧ Below w.heap.size w w' := by
  obtain ⟨n, hn⟩ : ∃ n, l.length = n := ⟨_, rfl⟩
  obtain ⟨a, c, b, o, rfl, h1, h2, hix, hlt', hcell, -⟩ := h.open_n layA elA n hn
  have HC := Lib.hid hcell
  have HN := Lib.hid hn
  have HLT := Lib.hid hlt'
  have hlt : g < w.heap.size := by have := World.block_lt_of_cell? w _ hc; simpa using this
  have HCZ := Lib.hid (fun (V : World) (hV : Below w.heap.size w V) => (hV.cell hlt).trans hc)
  clear h hn hcell hlt' hc hlt
  go_enter Try.func55, Try.ntmps55
  go_wp2_with fail
  go_loopw [8, 5] (fun vi v5 wr => ∃ k : Nat, k ≤ n ∧ vi = .int .i64 k ∧ Hid (ANo l z k) ∧ Hid (Below w.heap.size w wr)) (fun vi _ _ => n - (intOf vi).toNat)
  case atStart => exact ⟨0, by omega, rfl, fun j y hj => absurd hj (by omega), Below.refl _ _⟩
  case round =>
    obtain ⟨k, hk, rfl, HP, HB⟩ := hrel
    by_cases hlt : k < n
    · have e1 : (k : Int) < n := by omega
      obtain ⟨x, hs⟩ : ∃ s, l[k]? = some s := ⟨_, List.getElem?_eq_getElem (by have := HN.out; omega)⟩
      have c0 := HC.out k x hs 0 _ rfl
      have c1 := HC.out k x hs 1 _ rfl
      have c2 := HC.out k x hs 2 _ rfl
      rw [Nat.add_zero] at c0
      have hbl := HLT.out k hlt
      rw [← HB.out.cell (by exact hbl)] at c0 c1 c2
      have hixk := fun W => hix W k hlt
      have CG := Lib.hid (rtFind1_any x z g wr (HCZ.out wr HB.out))
      have HS := Lib.hid hs
      have HLT2 := Lib.hid hlt
      obtain ⟨⟨id, bl, sp⟩, ⟨xa, xn, xc⟩⟩ := x
      unfold Sl3.v at c2
      unfold AcX.agg Sl3.v at CG
      simp only at c0 c1 c2 CG
      obtain ⟨lo, hlo⟩ : ∃ d, decide (id = z) = d := ⟨_, rfl⟩
      rw [hlo] at CG
      have HLO := Lib.hid hlo
      clear hs hbl hlo hlt
      go_wp2_with fail
      refine CG.out.mono ?_
      rintro e w2 ⟨rfl, hb2⟩
      have HB2 := Lib.hid (HB.out.trans (hb2.mono HB.out.size))
      clear hb2 c0 c1 c2
      cases lo with
      | false =>
        have hf : Hid (ANo l z (k + 1)) := fun j y hj hy => by
          by_cases hjk : j < k
          · exact HP.out j y hjk hy
          · obtain rfl : j = k := by omega
            rw [HS.out] at hy
            cases hy
            exact of_decide_eq_false HLO.out
        go_wp2
        go_roundw
        case rel => exact ⟨k + 1, by have := HLT2.out; omega, by go_num, hf, HB2⟩
        case measure => simp [intOf]; have := HLT2.out; omega
      | true =>
        have HA : Hid (AIdx l z (some k)) := ⟨⟨_, HS.out, of_decide_eq_true HLO.out⟩, HP.out⟩
        go_wp2
        go_ret
        exact ⟨some k, HA.out, rfl, HB2.out⟩
    · obtain rfl : k = n := by omega
      have e1 : ¬ (k : Int) < k := by omega
      have HA : Hid (AIdx l z none) := by show ANo l z l.length; rw [HN.out]; exact HP.out
      go_wp2
      go_ret
      exact ⟨none, HA.out, rfl, HB.out⟩
end Go.Proofs.Ytjnbdeopoohnmaa
