/- Layer 48 (device): Answer; DeviceAsks: what a device uploads, and answers. -/
import Derived.Test.YtjnbdeopoohnmaaGreatDoorDv5
import Derived.Test.YtjnbdeopoohnmaaGreatDoorOp4
import Derived.Deep.RegionLaw
import Derived.Deep.RegionHeld3
import Derived.Deep.DeepCutAuto
import Derived.Deep.CutBlock
import Derived.Lib.QuietBelow
import Derived.Lib.SliceRun
set_option linter.unusedSimpArgs false
set_option linter.unusedVariables false
namespace Go.Proofs.YtjnbdeopoohnmaaGreatDoor
open Go.RowKit Go.Sort

noncomputable def ansE (d : DvD) (q : List UInt8) (now : Int) : Int := if pB (DRight d) = true ∧ cmay q now = true then 0 else 2
noncomputable def ansB (d : DvD) (q : List UInt8) (now : Int) : List UInt8 := if pB (DRight d) = true ∧ cmay q now = true then cans d.ky q now else []
def AnsPost (d : DvD) (q : List UInt8) (now : Int) (w : World) (e : Ending) (w' : World) : Prop :=
  ∃ v, e = .returned (.tuple #[v, .int .i64 (ansE d q now)]) ∧ Bs w' v (ansB d q now) ∧ Below w.heap.size w w'

set_option maxRecDepth 100000 in
set_option maxHeartbeats 1600000 in
theorem dvanswer_any (vt vk vs : Value) (d : DvD) (vq : Value) (q : List UInt8) (now : Int) (w : World) (h : Dv w vt vk vs d) (hl : d.tk.length ≤ 1048576) (hq : Bs w vq q) (hT : Tabbed w) :
    Calls Tryz.prog 11 #[.agg #[vt, vk, vs], vq, .int .i64 now] w (AnsPost d q now w) := by
  unfold AnsPost
  obtain ⟨g, hg⟩ : ∃ q, w.heap.size = q := ⟨_, rfl⟩
  obtain ⟨W, hW⟩ : ∃ W, w.alloc (.cells #[vt, vk, vs] 28) = W := ⟨_, rfl⟩
  have hb0 : Below w.heap.size w W := by rw [← hW]; exact (Below.refl _ _).alloc (Nat.le_refl _) _
  have hr0 : W.heap[g]? = some (.cells #[vt, vk, vs] 28 (0, 0)) := by rw [← hW, ← hg]; exact heap_alloc_new _ _
  have HQX := Lib.hid (fun (V : World) (hV : Below W.heap.size W V) => three_at ((hV.block g (heap_lt hr0)).trans hr0))
  have CR := Lib.hid (dvright_any vt vk vs d W (h.below hb0) hl)
  have HB0 := Lib.hid hb0
  obtain ⟨R, hR⟩ : ∃ R, pB (DRight d) = R := ⟨_, rfl⟩
  obtain ⟨M, hM⟩ : ∃ R, cmay q now = R := ⟨_, rfl⟩
  rw [hR] at CR
  have HRR := Lib.hid hR
  have C1 : Hid (M = false → ∀ V, Below w.heap.size w V → Calls Tryz.prog 32 #[vk, vq, .int .i64 now] V fun e w' => e = .returned (.tuple #[.slice none 0 0, .int .i64 2]) ∧ Below V.heap.size V w') := fun hm V hV => chanswer_bad vk vq q now V (hM.trans hm) (hq.below hV)
  have C2 : Hid (M = true → R = true → ∀ V, Below w.heap.size w V → Calls Tryz.prog 32 #[vk, vq, .int .i64 now] V fun e w' => ∃ v, e = .returned (.tuple #[v, .int .i64 0]) ∧ Ob w' V.heap.size 5 v (cans d.ky q now) ∧ Below V.heap.size V w') := fun hm hr V hV => chanswer_ok vk vq d.ky q now V (hM.trans hm) (h.ky.below hV) (hq.below hV) (by have := (pB_iff.1 (hR.trans hr)).2.1; omega) (hT.below hV)
  have HE : Hid (ansE d q now = if R = true ∧ M = true then 0 else 2) := by show _ = _; rw [← hR, ← hM]; rfl
  have HA : Hid (ansB d q now = if R = true ∧ M = true then cans d.ky q now else []) := by show _ = _; rw [← hR, ← hM]; rfl
  obtain ⟨E, hE⟩ : ∃ E, ansE d q now = E := ⟨_, rfl⟩
  obtain ⟨A, hA⟩ : ∃ E, ansB d q now = E := ⟨_, rfl⟩
  rw [hE] at HE ⊢
  rw [hA] at HA ⊢
  obtain ⟨ta, tc, rfl⟩ := h.tk.shape
  obtain ⟨ka, kc, rfl⟩ := h.ky.shape
  obtain ⟨sa, sc, rfl⟩ := h.sm.shape
  obtain ⟨qa, qc, rfl⟩ := hq.shape
  obtain ⟨tn, htn⟩ : ∃ n, d.tk.length = n := ⟨_, rfl⟩
  obtain ⟨kn, hkn⟩ : ∃ n, d.ky.length = n := ⟨_, rfl⟩
  obtain ⟨sn, hsn⟩ : ∃ n, d.sm.length = n := ⟨_, rfl⟩
  obtain ⟨qn, hqn⟩ : ∃ n, q.length = n := ⟨_, rfl⟩
  rw [htn, hkn, hsn] at HQX CR hW
  rw [hkn, hqn] at C1 C2
  rw [htn, hkn, hsn, hqn]
  obtain ⟨z0, z1, z2⟩ := HQX.out W (Below.refl _ _)
  clear h hl hq hT hb0 hr0 hR hM hE hA htn hkn hsn hqn
  go_enter Tryz.func11, Tryz.ntmps11
  go_wp2_with fail
  refine CR.out.mono ?_
  rintro e w1 ⟨rfl, hb1⟩
  have HBW1 := Lib.hid hb1
  have HB1 := Lib.hid (HB0.out.trans (hb1.mono HB0.out.size))
  clear hb1 CR z0 z1 z2
  cases R with
  | false =>
    have HE2 : Hid (E = 2) := by show _ = _; rw [HE.out]; rfl
    have HA2 : Hid (A = []) := by show _ = _; rw [HA.out]; rfl
    go_wp2
    go_ret2
    exact ⟨.slice none 0 0, by rw [HE2.out]; rfl, by rw [HA2.out]; exact Rd.nil _ _, HB1.out⟩
  | true =>
  obtain ⟨z0, z1, z2⟩ := HQX.out w1 HBW1.out
  cases M with
  | false =>
    have HE2 : Hid (E = 2) := by show _ = _; rw [HE.out]; rfl
    have HA2 : Hid (A = []) := by show _ = _; rw [HA.out]; rfl
    go_wp2_with fail
    refine (C1.out (by first | rfl | trivial) w1 HB1.out).mono ?_
    rintro e w2 ⟨rfl, hb2⟩
    have HB2 := Lib.hid (HB1.out.trans (hb2.mono HB1.out.size))
    clear hb2
    go_wp2
    go_ret2
    exact ⟨.slice none 0 0, by rw [HE2.out]; rfl, by rw [HA2.out]; exact Rd.nil _ _, HB2.out⟩
  | true =>
    have HE2 : Hid (E = 0) := by show _ = _; rw [HE.out]; rfl
    have HA2 : Hid (A = cans d.ky q now) := by show _ = _; rw [HA.out]; rfl
    go_wp2_with fail
    refine (C2.out (by first | rfl | trivial) (by first | rfl | trivial) w1 HB1.out).mono ?_
    rintro e w2 ⟨v2, rfl, ho2, hb2⟩
    have HB2 := Lib.hid (HB1.out.trans (hb2.mono HB1.out.size))
    have HV2 := Lib.hid ho2.bs
    clear ho2 hb2
    go_wp2
    go_ret2
    exact ⟨v2, by rw [HE2.out]; rfl, by rw [HA2.out]; exact HV2.out, HB2.out⟩
end Go.Proofs.YtjnbdeopoohnmaaGreatDoor
