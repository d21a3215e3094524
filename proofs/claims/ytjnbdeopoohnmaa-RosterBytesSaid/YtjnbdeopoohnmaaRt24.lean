/- Layer 56 (roster): the statements' example. -/
import Derived.Test.YtjnbdeopoohnmaaRt23
import Derived.Deep.RegionLaw
import Derived.Deep.DeepCutAuto
import Derived.Deep.CutBlock
import Derived.Lib.QuietBelow
import Derived.Lib.SliceRun
set_option linter.unusedSimpArgs false
namespace Go.Proofs.Ytjnbdeopoohnmaa
open Go.RowKit Go.Sort

theorem find_one {w w' : World} {M : List AcX} {id : Int} {a : AcD} {e : Ending} (hD : accD M = [a]) (ha : a.id = id) (h : FindPost w M id e w') : ∃ y : AcX, e = .returned (.tuple #[AcX.agg y, .bool true]) ∧ y.1 = a ∧ AcV w' y ∧ Below w.heap.size w w' := by
  obtain ⟨x, rfl⟩ : ∃ x, M = [x] := by
    match M, hD with
    | [x], _ => exact ⟨x, rfl⟩
  have hx : x.1 = a := by simpa [accD] using hD
  obtain ⟨r, y, ok, h1, h2, h3, h4, h5⟩ := h
  cases ok with
  | false =>
    obtain ⟨rfl, -⟩ := h4 rfl
    exact absurd (by rw [hx]; exact ha) (h1 0 x (by simp) rfl)
  | true =>
    obtain ⟨k, z, rfl, h6, h7, h8⟩ := h5 rfl
    have hk : k = 0 := by have := (List.getElem?_eq_some_iff.1 h6).1; simp at this; omega
    subst hk
    obtain rfl : x = z := by simpa using h6
    exact ⟨y, h2, h7.trans hx, h8, h3⟩

set_option maxRecDepth 100000 in
set_option maxHeartbeats 1600000 in
theorem rtAwake_any (w : World) : Calls Try.prog 20 #[] w fun e w' => e = .returned (.bool true) ∧ Below w.heap.size w w' := by
  have C1 := Lib.hid (rtEnter_any (.slice none 0 0) [] 7 0 w (acs_nil w) (by unfold IW; omega) (by unfold IW; omega))
  rw [show entL (accD []) 7 0 = [⟨7, -1, [(0, 0)]⟩] by kernel_rfl, show entE (accD []) 7 0 = 0 by decide +kernel] at C1
  have h1 : ∀ M : List AcX, accD M = [⟨7, -1, [(0, 0)]⟩] → ∀ x ∈ M, x.1.sp.length ≤ 100000 := fun M hM x hx => by
    have : x.1 ∈ accD M := by unfold accD; exact List.mem_map_of_mem hx
    rw [hM] at this
    rw [List.mem_singleton.1 this]
    decide
  have h2 : ∀ M : List AcX, accD M = [⟨7, -1, [(0, 0), (50, 2)]⟩] → ∀ x ∈ M, x.1.sp.length ≤ 100000 := fun M hM x hx => by
    have : x.1 ∈ accD M := by unfold accD; exact List.mem_map_of_mem hx
    rw [hM] at this
    rw [List.mem_singleton.1 this]
    decide
  have C2 := Lib.hid (fun (v : Value) (M : List AcX) (V : World) (hM : Acs V v M) (hD : accD M = [⟨7, -1, [(0, 0)]⟩]) => rtSet_any v M 7 50 2 V hM (h1 M hD) (by unfold IW; omega) (by unfold IW; omega))
  have hs1 : setL [⟨7, -1, [(0, 0)]⟩] 7 50 2 = [⟨7, -1, [(0, 0), (50, 2)]⟩] := by kernel_rfl
  have hs2 : setR [⟨7, -1, [(0, 0)]⟩] 7 50 2 = 0 := by decide +kernel
  have HS1 := Lib.hid hs1
  have HS2 := Lib.hid hs2
  have C3 := Lib.hid (fun (v : Value) (M : List AcX) (V : World) (hM : Acs V v M) (hD : accD M = [⟨7, -1, [(0, 0), (50, 2)]⟩]) => (rtFind_any v M 7 V hM (h2 M hD)).mono (fun e w' hp => find_one hD rfl hp))
  have C4 := Lib.hid (fun (y : AcX) t V (h : AcV V y) => rtClass_any y t V h)
  have hc1 : classV ⟨7, -1, [(0, 0), (50, 2)]⟩ 49 = 0 := by decide +kernel
  have hc2 : classE ⟨7, -1, [(0, 0), (50, 2)]⟩ 49 = 0 := by decide +kernel
  have hc3 : classV ⟨7, -1, [(0, 0), (50, 2)]⟩ 50 = 2 := by decide +kernel
  have hc4 : classE ⟨7, -1, [(0, 0), (50, 2)]⟩ 50 = 0 := by decide +kernel
  have HC1 := Lib.hid hc1
  have HC2 := Lib.hid hc2
  have HC3 := Lib.hid hc3
  have HC4 := Lib.hid hc4
  clear h1 h2 hs1 hs2 hc1 hc2 hc3 hc4
  go_enter Try.func20, Try.ntmps20
  go_wp2_with fail
  refine C1.out.mono ?_
  rintro e w1 ⟨v1, M1, rfl, hM1, hD1, hb1⟩
  have CC2 := C2.out v1 M1 w1 hM1 hD1
  rw [hD1, HS1.out, HS2.out] at CC2
  have CS := Lib.hid CC2
  have HB1 := Lib.hid hb1
  clear hM1 hD1 hb1 CC2 C1 C2
  go_wp2_with fail
  refine CS.out.mono ?_
  rintro e w2 ⟨v2, M2, rfl, hM2, hD2, hb2⟩
  have CF := Lib.hid (C3.out v2 M2 w2 hM2 hD2)
  have HB2 := Lib.hid (HB1.out.trans (hb2.mono HB1.out.size))
  clear hM2 hD2 hb2 C3 CS
  go_wp2_with fail
  refine CF.out.mono ?_
  rintro e w3 ⟨y, rfl, hy1, hyv, hb3⟩
  have HB3 := Lib.hid (HB2.out.trans (hb3.mono HB2.out.size))
  obtain ⟨⟨yid, ybl, ysp⟩, ⟨ya, yn, yc⟩⟩ := y
  simp only at hy1
  cases hy1
  obtain ⟨p, hp⟩ : ∃ p, w3.heap.size = p := ⟨_, rfl⟩
  have hal : Below w3.heap.size w3 (w3.alloc (.cells #[.int .i64 7, .int .i64 (-1), .slice ya yn yc] 43)) := (Below.refl _ _).alloc (Nat.le_refl _) _
  have hr4 : (w3.alloc (.cells #[.int .i64 7, .int .i64 (-1), .slice ya yn yc] 43)).heap[w3.heap.size]? = some (.cells #[.int .i64 7, .int .i64 (-1), .slice ya yn yc] 43 (0, 0)) := heap_alloc_new _ _
  obtain ⟨W, hW⟩ : ∃ W, w3.alloc (.cells #[.int .i64 7, .int .i64 (-1), .slice ya yn yc] 43) = W := ⟨_, rfl⟩
  rw [hW] at hal hr4
  rw [hp] at hr4
  have HYV := Lib.hid (fun V (hV : Below W.heap.size W V) => hyv.below (hal.trans (hV.mono hal.size)))
  have HQX := Lib.hid (fun (V : World) (hV : Below W.heap.size W V) => acct_cells ((hV.block p (heap_lt hr4)).trans hr4))
  have HAL := Lib.hid (HB3.out.trans (hal.mono HB3.out.size))
  have CA := Lib.hid (fun V (hV : Below W.heap.size W V) => C4.out (⟨7, -1, [(0, 0), (50, 2)]⟩, (ya, yn, yc)) 49 V (HYV.out V hV))
  have CB := Lib.hid (fun V (hV : Below W.heap.size W V) => C4.out (⟨7, -1, [(0, 0), (50, 2)]⟩, (ya, yn, yc)) 50 V (HYV.out V hV))
  rw [HC1.out, HC2.out] at CA
  rw [HC3.out, HC4.out] at CB
  unfold AcX.agg at CA CB ⊢
  unfold Sl3.v at CA CB ⊢
  simp only at CA CB
  obtain ⟨z0, z1, z2⟩ := HQX.out W (Below.refl _ _)
  clear hyv hb3 hal hr4 C4 CF HYV
  go_wp2_with fail
  refine (CA.out W (Below.refl _ _)).mono ?_
  rintro e w4 ⟨rfl, hb4⟩
  have HB4 := Lib.hid hb4
  clear hb4 z0 z1 z2
  obtain ⟨z0, z1, z2⟩ := HQX.out w4 HB4.out
  go_wp2_with fail
  refine (CB.out w4 HB4.out).mono ?_
  rintro e w5 ⟨rfl, hb5⟩
  have HB5 := Lib.hid (HAL.out.trans ((HB4.out.trans (hb5.mono HB4.out.size)).mono HAL.out.size))
  clear hb5 z0 z1 z2
  go_wp2
  go_ret
  exact ⟨rfl, HB5.out⟩
end Go.Proofs.Ytjnbdeopoohnmaa
