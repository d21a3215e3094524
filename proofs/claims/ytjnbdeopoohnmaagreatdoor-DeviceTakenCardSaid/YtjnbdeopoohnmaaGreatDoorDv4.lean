/- Dv4: Dv3, Dv4 as one text. -/
import Derived.Test.YtjnbdeopoohnmaaGreatDoorDv2
import Derived.Test.YtjnbdeopoohnmaaGreatDoorOp4
import Derived.Deep.RegionLaw
import Derived.Deep.RegionHeld3
import Derived.Deep.DeepCutAuto
import Derived.Deep.CutBlock
import Derived.Lib.QuietBelow
/- Layer 48 (device): New, Upload. -/
set_option linter.unusedSimpArgs false
namespace Go.Proofs.YtjnbdeopoohnmaaGreatDoor
open Go.RowKit Go.Sort

/-- three cells stored one by one -/
def chain3 (W : World) (r : Nat) (v0 v1 v2 : Value) : World := ((W.setCell ⟨r, 0, none⟩ v0).setCell ⟨r, 1, none⟩ v1).setCell ⟨r, 2, none⟩ v2
theorem chain3_row {W : World} {r T : Nat} {u0 u1 u2 : Value} (h : W.heap[r]? = some (.cells #[u0, u1, u2] T (0, 0))) (v0 v1 v2 : Value) :
    (chain3 W r v0 v1 v2).heap[r]? = some (.cells #[v0, v1, v2] T (0, 0)) ∧ Only (fun k => k = r) W (chain3 W r v0 v1 v2) := by
  have h0 : (W.setCell ⟨r, 0, none⟩ v0).heap[r]? = some (.cells #[v0, u1, u2] T (0, 0)) := row_setCell h 0 v0
  have h1 : ((W.setCell ⟨r, 0, none⟩ v0).setCell ⟨r, 1, none⟩ v1).heap[r]? = some (.cells #[v0, v1, u2] T (0, 0)) := row_setCell h0 1 v1
  have h2 : (((W.setCell ⟨r, 0, none⟩ v0).setCell ⟨r, 1, none⟩ v1).setCell ⟨r, 2, none⟩ v2).heap[r]? = some (.cells #[v0, v1, v2] T (0, 0)) := row_setCell h1 2 v2
  exact ⟨h2, ((set_only W r 0 v0).trans (set_only _ r 1 v1)).trans (set_only _ r 2 v2)⟩
theorem frees3 {W : World} {r T : Nat} {A : Array Value} (h : W.heap[r]? = some (.cells A T (0, 0))) : W.frozen? ⟨r, 0, none⟩ = false ∧ W.frozen? ⟨r, 1, none⟩ = false ∧ W.frozen? ⟨r, 2, none⟩ = false := ⟨row_free h 0, row_free h 1, row_free h 2⟩

def newD (l : List RK) (b : List UInt8) : DvD := if (cdev l b).2 = 0 then ⟨b, (cdev l b).1, []⟩ else dvz
def DvNewPost (l : List RK) (b : List UInt8) (w : World) (e : Ending) (w' : World) : Prop :=
  ∃ vt vk vs, e = .returned (.tuple #[.agg #[vt, vk, vs], .int .i64 ((cdev l b).2 : Nat)]) ∧ Dv w' vt vk vs (newD l b) ∧ Below w.heap.size w w'
theorem Bs.ne_dev {w : World} {v : Value} {l : List UInt8} {g T : Nat} {a1 a2 a3 : Option Addr} {n1 n2 n3 c1 c2 c3 : Nat} (h : Bs w v l) (hg : w.heap[g]? = some (.cells #[.slice a1 n1 c1, .slice a2 n2 c2, .slice a3 n3 c3] T (0, 0))) (hl : l ≠ []) : v.ownBlock ≠ some g := by
  obtain ⟨h1, a, c, rfl, h2, h3, h4, h5⟩ := h
  rcases h5 with h5 | ⟨b, off, rfl, hlt, h6⟩
  · exact absurd (List.eq_nil_of_length_eq_zero h5) hl
  · intro e
    simp only [Value.ownBlock, Option.some.injEq] at e
    subst e
    obtain ⟨x, r, rfl⟩ : ∃ x r, l = x :: r := by cases l with | nil => exact absurd rfl hl | cons x r => exact ⟨x, r, rfl⟩
    have h7 := h6 0 (bv x) (by simp)
    simp only [World.cell?, hg] at h7
    unfold bv at h7
    rcases (show off + 0 = 0 ∨ off + 0 = 1 ∨ off + 0 = 2 ∨ 3 ≤ off + 0 by omega) with e | e | e | e
    all_goals simp_all
theorem two_at {w : World} {q : Nat} {a b : Value} {T : Nat} (h : w.heap[q]? = some (.cells #[a, b] T (0, 0))) : w.cell? ⟨q, 0, none⟩ = some a ∧ w.cell? ⟨q, 1, none⟩ = some b :=
  ⟨cell_of_row w _ _ _ _ _ h, cell_of_row w _ _ _ _ _ h⟩
theorem al2 (w : World) (o1 o2 : Obj) : Below w.heap.size w ((w.alloc o1).alloc o2) ∧ ((w.alloc o1).alloc o2).heap[w.heap.size]? = some o1 ∧ ((w.alloc o1).alloc o2).heap[w.heap.size + 1]? = some o2 :=
  ⟨((Below.refl _ _).alloc (Nat.le_refl _) _).alloc (by simp) _, by rw [alloc_get, if_neg (by simp), alloc_get, if_pos rfl], by rw [alloc_get, if_pos (by simp)]⟩

set_option maxRecDepth 100000 in
set_option maxHeartbeats 1600000 in
theorem dvnew_anyL (keep : Int) (v : Value) (l : List RK) (y : Value) (b : List UInt8) (w : World) (h : Ks w v l) (hy : Bs w y b) (hl : b.length ≤ 1048576) (hsm : ∀ k ∈ l, k.b.length ≤ 140737488351232) (hT : Tabbed w) :
    Calls Tryz.prog 7 #[.agg #[.int .i64 keep, v], y] w (DvNewPost l b w) := by
  unfold DvNewPost
  obtain ⟨a, c, hvs⟩ := h.g.shape
  obtain ⟨n, hn⟩ : ∃ n, l.length = n := ⟨_, rfl⟩
  rw [hn] at hvs
  subst hvs
  obtain ⟨q, hq⟩ : ∃ q, w.heap.size = q := ⟨_, rfl⟩
  obtain ⟨hb0, hrA, hrB⟩ := al2 w (.cells #[.int .i64 keep, .slice a n c] 24) (.cells #[.slice none 0 0, .slice none 0 0, .slice none 0 0] 28)
  obtain ⟨W, hW⟩ : ∃ W, (w.alloc (.cells #[.int .i64 keep, .slice a n c] 24)).alloc (.cells #[.slice none 0 0, .slice none 0 0, .slice none 0 0] 28) = W := ⟨_, rfl⟩
  rw [hW] at hb0 hrA hrB
  rw [hq] at hrA hrB
  have CD := Lib.hid (chdevice_anyL keep (.slice a n c) l y b W (h.below hb0) (hy.below hb0) hl hsm (hT.below hb0))
  unfold DevPost at CD
  have CC := Lib.hid (fun V (hV : Below w.heap.size w V) => clone_any y b V (hy.below hV) (by omega))
  have HB0 := Lib.hid hb0
  have HRB := Lib.hid (fun (V : World) (hV : Below W.heap.size W V) => (hV.block (q + 1) (heap_lt hrB)).trans hrB)
  obtain ⟨z0, z1⟩ := two_at hrA
  have HND : Hid (newD l b = if (cdev l b).2 = 0 then ⟨b, (cdev l b).1, []⟩ else dvz) := rfl
  obtain ⟨⟨ky, e0⟩, hce⟩ : ∃ x, cdev l b = x := ⟨_, rfl⟩
  rw [hce] at CD HND ⊢
  simp only at CD HND ⊢
  obtain ⟨D, hD⟩ : ∃ D, newD l b = D := ⟨_, rfl⟩
  rw [hD] at HND ⊢
  have HQ := Lib.hid hq
  obtain ⟨ya, yc, hys⟩ := hy.shape
  obtain ⟨yn, hyn⟩ : ∃ n, b.length = n := ⟨_, rfl⟩
  rw [hyn] at hys
  subst hys
  clear h hy hl hsm hT hb0 hrA hrB hn hce hD hyn
  go_enter Tryz.func7, Tryz.ntmps7
  go_wp2_with fail
  refine CD.out.mono ?_
  rintro e w1 ⟨v1, rfl, hv1, hb1⟩
  have HV1 := Lib.hid hv1
  have HBW1 := Lib.hid hb1
  have HB1 := Lib.hid (HB0.out.trans (hb1.mono HB0.out.size))
  obtain ⟨ka, kc, rfl⟩ := hv1.shape
  obtain ⟨kn, hkn⟩ : ∃ n, ky.length = n := ⟨_, rfl⟩
  rw [hkn] at HV1 ⊢
  clear hv1 hb1 hkn CD z0 z1
  by_cases he : e0 = 0
  · subst he
    have HDD : Hid (D = ⟨b, ky, []⟩) := by show _ = _; rw [HND.out, if_pos rfl]
    go_wp2_with fail
    refine (CC.out w1 HB1.out).mono ?_
    rintro e w2 ⟨v2, rfl, ho2, hb2⟩
    obtain ⟨ta, tc, rfl⟩ := ho2.shape
    obtain ⟨tn, htn⟩ : ∃ n, b.length = n := ⟨_, rfl⟩
    rw [htn] at ho2 ⊢
    have hrow := HRB.out w2 (HBW1.out.trans (hb2.mono HBW1.out.size))
    obtain ⟨c0, c1, c2⟩ := three_at hrow
    obtain ⟨f0, f1, f2⟩ := frees3 hrow
    obtain ⟨hz1, hz2⟩ := chain3_row hrow (.slice ta tn tc) (.slice ka kn kc) (.slice none 0 0)
    have hbz := (HB1.out.trans (hb2.mono HB1.out.size)).trans (hz2.below (B := w.heap.size) (fun k hk => by have := HQ.out; omega) (Nat.le_trans HB1.out.size hb2.size))
    have hdv : Dv (chain3 w2 (q + 1) (.slice ta tn tc) (.slice ka kn kc) (.slice none 0 0)) (.slice ta tn tc) (.slice ka kn kc) (.slice none 0 0) D := by
      rw [HDD.out]
      exact ⟨(ho2.bs.only' hz2 fun hl k hk e => Bs.ne_dev ho2.bs hrow hl (by rw [hk, e])), ((HV1.out.below hb2).only' hz2 fun hl k hk e => Bs.ne_dev (HV1.out.below hb2) hrow hl (by rw [hk, e])), Rd.nil _ _⟩
    have HZ1 := Lib.hid hz1
    have HBZ := Lib.hid hbz
    have HDV := Lib.hid hdv
    clear ho2 hb2 hrow hz1 hz2 hbz hdv htn CC
    go_wp2
    obtain ⟨Z, hZ⟩ : ∃ Z, chain3 w2 (q + 1) (.slice ta tn tc) (.slice ka kn kc) (.slice none 0 0) = Z := ⟨_, rfl⟩
    rw [hZ] at HZ1 HBZ HDV
    unfold chain3 at hZ
    rw [hZ]
    obtain ⟨d0, d1, d2⟩ := three_at HZ1.out
    refine bodyPost_ret (v := .tuple #[.agg #[.slice ta tn tc, .slice ka kn kc, .slice none 0 0], .int .i64 0]) ?_ rfl ⟨_, _, _, rfl, HDV.out, HBZ.out⟩
    simp [results, Tryz.results7, go_sem, d0, d1, d2]
  · have hen : ((e0 : Int) != 0) = true := by simp; omega
    have HDD : Hid (D = dvz) := by show _ = _; rw [HND.out, if_neg he]
    have hrow := HRB.out w1 HBW1.out
    obtain ⟨c0, c1, c2⟩ := three_at hrow
    obtain ⟨f0, f1, f2⟩ := frees3 hrow
    obtain ⟨hz1, hz2⟩ := chain3_row hrow (.slice none 0 0) (.slice none 0 0) (.slice none 0 0)
    have hbz := HB1.out.trans (hz2.below (B := w.heap.size) (fun k hk => by have := HQ.out; omega) HB1.out.size)
    have HZ1 := Lib.hid hz1
    have HBZ := Lib.hid hbz
    clear hrow hz1 hz2 hbz he CC
    go_wp2
    obtain ⟨Z, hZ⟩ : ∃ Z, chain3 w1 (q + 1) (.slice none 0 0) (.slice none 0 0) (.slice none 0 0) = Z := ⟨_, rfl⟩
    rw [hZ] at HZ1 HBZ
    unfold chain3 at hZ
    rw [hZ]
    obtain ⟨d0, d1, d2⟩ := three_at HZ1.out
    refine bodyPost_ret (v := .tuple #[.agg #[.slice none 0 0, .slice none 0 0, .slice none 0 0], .int .i64 (e0 : Nat)]) ?_ rfl ⟨_, _, _, rfl, by rw [HDD.out]; exact dv_zero _, HBZ.out⟩
    simp [results, Tryz.results7, go_sem, d0, d1, d2]

theorem dvnew_any (keep : Int) (v : Value) (l : List RK) (y : Value) (b : List UInt8) (w : World) (h : Ks w v l) (hy : Bs w y b) (hl : b.length ≤ 1048576) (hsm : ∀ k ∈ l, k.b.length ≤ 1000000) (hT : Tabbed w) :
    Calls Tryz.prog 7 #[.agg #[.int .i64 keep, v], y] w (DvNewPost l b w) :=
  dvnew_anyL keep v l y b w h hy hl (fun k hk => Nat.le_trans (hsm k hk) (by decide)) hT

end Go.Proofs.YtjnbdeopoohnmaaGreatDoor
/- Layer 48 (device): Upload. -/
set_option linter.unusedSimpArgs false
namespace Go.Proofs.YtjnbdeopoohnmaaGreatDoor
open Go.RowKit Go.Sort

theorem seven_at {w : World} {q T : Nat} {a0 a1 a2 a3 a4 a5 a6 : Value} (h : w.heap[q]? = some (.cells #[a0, a1, a2, a3, a4, a5, a6] T (0, 0))) :
    w.cell? ⟨q, 0, none⟩ = some a0 ∧ w.cell? ⟨q, 1, none⟩ = some a1 ∧ w.cell? ⟨q, 2, none⟩ = some a2 ∧ w.cell? ⟨q, 3, none⟩ = some a3 ∧ w.cell? ⟨q, 4, none⟩ = some a4 ∧ w.cell? ⟨q, 5, none⟩ = some a5 ∧ w.cell? ⟨q, 6, none⟩ = some a6 :=
  ⟨cell_of_row w _ _ _ _ _ h, cell_of_row w _ _ _ _ _ h, cell_of_row w _ _ _ _ _ h, cell_of_row w _ _ _ _ _ h, cell_of_row w _ _ _ _ _ h, cell_of_row w _ _ _ _ _ h, cell_of_row w _ _ _ _ _ h⟩
theorem seven_free {W : World} {r T : Nat} {A : Array Value} (h : W.heap[r]? = some (.cells A T (0, 0))) :
    W.frozen? ⟨r, 0, none⟩ = false ∧ W.frozen? ⟨r, 1, none⟩ = false ∧ W.frozen? ⟨r, 2, none⟩ = false ∧ W.frozen? ⟨r, 3, none⟩ = false ∧ W.frozen? ⟨r, 4, none⟩ = false ∧ W.frozen? ⟨r, 5, none⟩ = false ∧ W.frozen? ⟨r, 6, none⟩ = false :=
  ⟨row_free h 0, row_free h 1, row_free h 2, row_free h 3, row_free h 4, row_free h 5, row_free h 6⟩
def chain7 (W : World) (r : Nat) (v0 v1 v2 v3 v4 v5 v6 : Value) : World :=
  ((((((W.setCell ⟨r, 0, none⟩ v0).setCell ⟨r, 1, none⟩ v1).setCell ⟨r, 2, none⟩ v2).setCell ⟨r, 3, none⟩ v3).setCell ⟨r, 4, none⟩ v4).setCell ⟨r, 5, none⟩ v5).setCell ⟨r, 6, none⟩ v6
theorem chain7_row {W : World} {r T : Nat} {u0 u1 u2 u3 u4 u5 u6 : Value} (h : W.heap[r]? = some (.cells #[u0, u1, u2, u3, u4, u5, u6] T (0, 0))) (v0 v1 v2 v3 v4 v5 v6 : Value) :
    (chain7 W r v0 v1 v2 v3 v4 v5 v6).heap[r]? = some (.cells #[v0, v1, v2, v3, v4, v5, v6] T (0, 0)) ∧ Only (fun k => k = r) W (chain7 W r v0 v1 v2 v3 v4 v5 v6) := by
  have h0 : (W.setCell ⟨r, 0, none⟩ v0).heap[r]? = some (.cells #[v0, u1, u2, u3, u4, u5, u6] T (0, 0)) := row_setCell h 0 v0
  have h1 : ((W.setCell ⟨r, 0, none⟩ v0).setCell ⟨r, 1, none⟩ v1).heap[r]? = some (.cells #[v0, v1, u2, u3, u4, u5, u6] T (0, 0)) := row_setCell h0 1 v1
  have h2 : (((W.setCell ⟨r, 0, none⟩ v0).setCell ⟨r, 1, none⟩ v1).setCell ⟨r, 2, none⟩ v2).heap[r]? = some (.cells #[v0, v1, v2, u3, u4, u5, u6] T (0, 0)) := row_setCell h1 2 v2
  have h3 : ((((W.setCell ⟨r, 0, none⟩ v0).setCell ⟨r, 1, none⟩ v1).setCell ⟨r, 2, none⟩ v2).setCell ⟨r, 3, none⟩ v3).heap[r]? = some (.cells #[v0, v1, v2, v3, u4, u5, u6] T (0, 0)) := row_setCell h2 3 v3
  have h4 : (((((W.setCell ⟨r, 0, none⟩ v0).setCell ⟨r, 1, none⟩ v1).setCell ⟨r, 2, none⟩ v2).setCell ⟨r, 3, none⟩ v3).setCell ⟨r, 4, none⟩ v4).heap[r]? = some (.cells #[v0, v1, v2, v3, v4, u5, u6] T (0, 0)) := row_setCell h3 4 v4
  have h5 : ((((((W.setCell ⟨r, 0, none⟩ v0).setCell ⟨r, 1, none⟩ v1).setCell ⟨r, 2, none⟩ v2).setCell ⟨r, 3, none⟩ v3).setCell ⟨r, 4, none⟩ v4).setCell ⟨r, 5, none⟩ v5).heap[r]? = some (.cells #[v0, v1, v2, v3, v4, v5, u6] T (0, 0)) := row_setCell h4 5 v5
  have h6 : (((((((W.setCell ⟨r, 0, none⟩ v0).setCell ⟨r, 1, none⟩ v1).setCell ⟨r, 2, none⟩ v2).setCell ⟨r, 3, none⟩ v3).setCell ⟨r, 4, none⟩ v4).setCell ⟨r, 5, none⟩ v5).setCell ⟨r, 6, none⟩ v6).heap[r]? = some (.cells #[v0, v1, v2, v3, v4, v5, v6] T (0, 0)) := row_setCell h5 6 v6
  exact ⟨h6, ((((((set_only W r 0 v0).trans (set_only _ r 1 v1)).trans (set_only _ r 2 v2)).trans (set_only _ r 3 v3)).trans (set_only _ r 4 v4)).trans (set_only _ r 5 v5)).trans (set_only _ r 6 v6)⟩
theorem Bs.ne_op {w : World} {v : Value} {l : List UInt8} {g T : Nat} {k0 k1 k2 k3 : Int} {a1 a2 a3 : Option Addr} {n1 n2 n3 c1 c2 c3 : Nat} (h : Bs w v l) (hg : w.heap[g]? = some (.cells #[.int .i64 k0, .int .i64 k1, .int .i64 k2, .int .i64 k3, .slice a1 n1 c1, .slice a2 n2 c2, .slice a3 n3 c3] T (0, 0))) (hl : l ≠ []) : v.ownBlock ≠ some g := by
  obtain ⟨h1, a, c, rfl, h2, h3, h4, h5⟩ := h
  rcases h5 with h5 | ⟨b, off, rfl, hlt, h6⟩
  · exact absurd (List.eq_nil_of_length_eq_zero h5) hl
  · intro e
    simp only [Value.ownBlock, Option.some.injEq] at e
    subst e
    obtain ⟨x, r, rfl⟩ : ∃ x r, l = x :: r := by cases l with | nil => exact absurd rfl hl | cons x r => exact ⟨x, r, rfl⟩
    have h7 := h6 0 (bv x) (by simp)
    simp only [World.cell?, hg] at h7
    unfold bv at h7
    rcases (show off + 0 = 0 ∨ off + 0 = 1 ∨ off + 0 = 2 ∨ off + 0 = 3 ∨ off + 0 = 4 ∨ off + 0 = 5 ∨ off + 0 = 6 ∨ 7 ≤ off + 0 by omega) with e | e | e | e | e | e | e | e
    all_goals simp_all

noncomputable def upE (d : DvD) : Int := if pB (DRight d) = true then 0 else 2
noncomputable def upO (d : DvD) : OpD := if pB (DRight d) = true then ⟨3, 0, 0, 0, d.tk, tbytes d.sm, []⟩ else ⟨0, 0, 0, 0, [], [], []⟩
def UpPost (d : DvD) (w : World) (e : Ending) (w' : World) : Prop :=
  ∃ va vb vc, e = .returned (.tuple #[(upO d).agg va vb vc, .int .i64 (upE d)]) ∧ (Bs w' va (upO d).a ∧ Bs w' vb (upO d).b ∧ Bs w' vc (upO d).c) ∧ Below w.heap.size w w'

set_option maxRecDepth 100000 in
set_option maxHeartbeats 1600000 in
theorem dvupload_any (vt vk vs : Value) (d : DvD) (w : World) (h : Dv w vt vk vs d) (hl : d.tk.length ≤ 1048576) :
    Calls Tryz.prog 10 #[.agg #[vt, vk, vs]] w (UpPost d w) := by
  unfold UpPost
  obtain ⟨q, hq⟩ : ∃ q, w.heap.size = q := ⟨_, rfl⟩
  obtain ⟨hb0, hrA, hrB⟩ := al2 w (.cells #[vt, vk, vs] 28) (.cells #[.int .i64 0, .int .i64 0, .int .i64 0, .int .i64 0, .slice none 0 0, .slice none 0 0, .slice none 0 0] 43)
  obtain ⟨W, hW⟩ : ∃ W, (w.alloc (.cells #[vt, vk, vs] 28)).alloc (.cells #[.int .i64 0, .int .i64 0, .int .i64 0, .int .i64 0, .slice none 0 0, .slice none 0 0, .slice none 0 0] 43) = W := ⟨_, rfl⟩
  rw [hW] at hb0 hrA hrB
  rw [hq] at hrA hrB
  have CR := Lib.hid (dvright_any vt vk vs d W (h.below hb0) hl)
  have CP := Lib.hid (fun V (hV : Below w.heap.size w V) => tput_any vs d.sm V (h.sm.below hV))
  unfold TPutPost at CP
  have CC := Lib.hid (fun V (hV : Below w.heap.size w V) => clone_any vt d.tk V (h.tk.below hV) (by omega))
  have HB0 := Lib.hid hb0
  have HQA := Lib.hid (fun (V : World) (hV : Below W.heap.size W V) => three_at ((hV.block q (heap_lt hrA)).trans hrA))
  have HRB := Lib.hid (fun (V : World) (hV : Below W.heap.size W V) => (hV.block (q + 1) (heap_lt hrB)).trans hrB)
  have HQ := Lib.hid hq
  obtain ⟨z0, z1, z2⟩ := HQA.out W (Below.refl _ _)
  have HUO : Hid (upO d = if pB (DRight d) = true then ⟨3, 0, 0, 0, d.tk, tbytes d.sm, []⟩ else ⟨0, 0, 0, 0, [], [], []⟩) := rfl
  have HUE : Hid (upE d = if pB (DRight d) = true then 0 else 2) := rfl
  obtain ⟨R, hR⟩ : ∃ R, pB (DRight d) = R := ⟨_, rfl⟩
  rw [hR] at CR HUO HUE
  have HRR := Lib.hid hR
  obtain ⟨O, hO⟩ : ∃ O, upO d = O := ⟨_, rfl⟩
  obtain ⟨E, hE⟩ : ∃ E, upE d = E := ⟨_, rfl⟩
  rw [hO] at HUO ⊢
  rw [hE] at HUE ⊢
  obtain ⟨ta, tc, hts⟩ := h.tk.shape
  obtain ⟨ka, kc, hks⟩ := h.ky.shape
  obtain ⟨sa, sc, hss⟩ := h.sm.shape
  obtain ⟨tn, htn⟩ : ∃ n, d.tk.length = n := ⟨_, rfl⟩
  obtain ⟨kn, hkn⟩ : ∃ n, d.ky.length = n := ⟨_, rfl⟩
  obtain ⟨sn, hsn⟩ : ∃ n, d.sm.length = n := ⟨_, rfl⟩
  rw [htn] at hts
  rw [hkn] at hks
  rw [hsn] at hss
  subst hts hks hss
  have HSN := Lib.hid hsn
  have HTN := Lib.hid htn
  rw [hsn] at CP
  clear h hl hb0 hrA hrB hR hO hE htn hkn hsn
  go_enter Tryz.func10, Tryz.ntmps10
  go_wp2_with fail
  refine CR.out.mono ?_
  rintro e w1 ⟨rfl, hb1⟩
  have HBW1 := Lib.hid hb1
  have HB1 := Lib.hid (HB0.out.trans (hb1.mono HB0.out.size))
  clear hb1 CR z0 z1 z2
  cases R with
  | false =>
    have HUO2 : Hid (O = ⟨0, 0, 0, 0, [], [], []⟩) := HUO.out
    have HUE2 : Hid (E = 2) := HUE.out
    have hrow := HRB.out w1 HBW1.out
    obtain ⟨c0, c1, c2, c3, c4, c5, c6⟩ := seven_at hrow
    obtain ⟨f0, f1, f2, f3, f4, f5, f6⟩ := seven_free hrow
    obtain ⟨hz1, hz2⟩ := chain7_row hrow (.int .i64 0) (.int .i64 0) (.int .i64 0) (.int .i64 0) (.slice none 0 0) (.slice none 0 0) (.slice none 0 0)
    have hbz := HB1.out.trans (hz2.below (B := w.heap.size) (fun k hk => by have := HQ.out; omega) HB1.out.size)
    have HZ1 := Lib.hid hz1
    have HBZ := Lib.hid hbz
    clear hrow hz1 hz2 hbz CC CP
    go_wp2
    obtain ⟨Z, hZ⟩ : ∃ Z, chain7 w1 (q + 1) (.int .i64 0) (.int .i64 0) (.int .i64 0) (.int .i64 0) (.slice none 0 0) (.slice none 0 0) (.slice none 0 0) = Z := ⟨_, rfl⟩
    rw [hZ] at HZ1 HBZ
    unfold chain7 at hZ
    rw [hZ]
    obtain ⟨d0, d1, d2, d3, d4, d5, d6⟩ := seven_at HZ1.out
    refine bodyPost_ret (v := .tuple #[(⟨0, 0, 0, 0, [], [], []⟩ : OpD).agg (.slice none 0 0) (.slice none 0 0) (.slice none 0 0), .int .i64 2]) ?_ rfl ⟨.slice none 0 0, .slice none 0 0, .slice none 0 0, by rw [HUO2.out, HUE2.out], by rw [HUO2.out]; exact ⟨Rd.nil _ _, Rd.nil _ _, Rd.nil _ _⟩, HBZ.out⟩
    simp [results, Tryz.results10, go_sem, d0, d1, d2, d3, d4, d5, d6, OpD.agg]
  | true =>
    have HUO2 : Hid (O = ⟨3, 0, 0, 0, d.tk, tbytes d.sm, []⟩) := HUO.out
    have HUE2 : Hid (E = 0) := HUE.out
    obtain ⟨z0, z1, z2⟩ := HQA.out w1 HBW1.out
    have hdr := pB_iff.1 HRR.out
    have CPP : Hid (Calls Tryz.prog 31 #[.slice sa sn sc] w1 fun e w' => ∃ v, e = .returned (.tuple #[v, .int .i64 0]) ∧ Ob w' w1.heap.size 5 v (tbytes d.sm) ∧ Below w1.heap.size w1 w') := by
      refine (CP.out w1 HB1.out).mono fun e w' hp => ?_
      rw [if_neg (by have := hdr.2.2.2; have := HSN.out; omega)] at hp
      rcases hp with ⟨-, hp⟩ | ⟨hn, -⟩
      · exact hp
      · exact absurd hdr.2.2.1 hn
    clear CP hdr
    go_wp2_with fail
    refine CPP.out.mono ?_
    rintro e w2 ⟨v2, rfl, ho2, hb2⟩
    have HBW2 := Lib.hid (HBW1.out.trans (hb2.mono HBW1.out.size))
    have HB2 := Lib.hid (HB1.out.trans (hb2.mono HB1.out.size))
    have HV2 := Lib.hid ho2.bs
    obtain ⟨ba, bc, rfl⟩ := ho2.shape
    obtain ⟨bn, hbn⟩ : ∃ n, (tbytes d.sm).length = n := ⟨_, rfl⟩
    rw [hbn] at HV2 ⊢
    clear ho2 hb2 hbn CPP z0 z1 z2
    obtain ⟨z0, z1, z2⟩ := HQA.out w2 HBW2.out
    go_wp2_with fail
    refine (CC.out w2 HB2.out).mono ?_
    rintro e w3 ⟨v3, rfl, ho3, hb3⟩
    have HBW3 := Lib.hid (HBW2.out.trans (hb3.mono HBW2.out.size))
    have HB3 := Lib.hid (HB2.out.trans (hb3.mono HB2.out.size))
    have HV3 := Lib.hid ho3.bs
    have HV2' := Lib.hid (HV2.out.below hb3)
    obtain ⟨aa, ac, rfl⟩ := ho3.shape
    obtain ⟨an, han⟩ : ∃ n, d.tk.length = n := ⟨_, rfl⟩
    rw [han] at HV3 ⊢
    clear ho3 hb3 han CC z0 z1 z2
    have hrow := HRB.out w3 HBW3.out
    obtain ⟨c0, c1, c2, c3, c4, c5, c6⟩ := seven_at hrow
    obtain ⟨f0, f1, f2, f3, f4, f5, f6⟩ := seven_free hrow
    obtain ⟨hz1, hz2⟩ := chain7_row hrow (.int .i64 3) (.int .i64 0) (.int .i64 0) (.int .i64 0) (.slice aa an ac) (.slice ba bn bc) (.slice none 0 0)
    have hbz := HB3.out.trans (hz2.below (B := w.heap.size) (fun k hk => by have := HQ.out; omega) HB3.out.size)
    have HZ1 := Lib.hid hz1
    have HBZ := Lib.hid hbz
    have HZA := Lib.hid (HV3.out.only' hz2 fun hl k hk e => Bs.ne_op HV3.out hrow hl (by rw [hk, e]))
    have HZB := Lib.hid (HV2'.out.only' hz2 fun hl k hk e => Bs.ne_op HV2'.out hrow hl (by rw [hk, e]))
    clear hrow hz1 hz2 hbz
    go_wp2
    obtain ⟨Z, hZ⟩ : ∃ Z, chain7 w3 (q + 1) (.int .i64 3) (.int .i64 0) (.int .i64 0) (.int .i64 0) (.slice aa an ac) (.slice ba bn bc) (.slice none 0 0) = Z := ⟨_, rfl⟩
    rw [hZ] at HZ1 HBZ HZA HZB
    unfold chain7 at hZ
    rw [hZ]
    obtain ⟨d0, d1, d2, d3, d4, d5, d6⟩ := seven_at HZ1.out
    refine bodyPost_ret (v := .tuple #[(⟨3, 0, 0, 0, d.tk, tbytes d.sm, []⟩ : OpD).agg (.slice aa an ac) (.slice ba bn bc) (.slice none 0 0), .int .i64 0]) ?_ rfl ⟨.slice aa an ac, .slice ba bn bc, .slice none 0 0, by rw [HUO2.out, HUE2.out], by rw [HUO2.out]; exact ⟨HZA.out, HZB.out, Rd.nil _ _⟩, HBZ.out⟩
    simp [results, Tryz.results10, go_sem, d0, d1, d2, d3, d4, d5, d6, OpD.agg]
end Go.Proofs.YtjnbdeopoohnmaaGreatDoor
