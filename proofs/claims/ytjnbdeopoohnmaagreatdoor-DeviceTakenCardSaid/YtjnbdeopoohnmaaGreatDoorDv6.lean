/- Dv6: Dv6, Dv7 as one text. -/
import Derived.Test.YtjnbdeopoohnmaaGreatDoorDv4
import Derived.Deep.RegionLaw
import Derived.Deep.RegionHeld3
import Derived.Deep.DeepCutAuto
import Derived.Deep.CutBlock
import Derived.Lib.QuietBelow
import Derived.Lib.SliceRun
/- Layer 48 (device): Record. -/
set_option linter.unusedSimpArgs false
namespace Go.Proofs.YtjnbdeopoohnmaaGreatDoor
open Go.RowKit Go.Sort

theorem layM : Lay 3 Smp.cells := ⟨fun _ => rfl, fun s u hu => scells_one [s] u (by simpa [scells] using hu), by decide⟩
theorem gw_madeM (w : World) : Gw 3 Smp.cells (w.alloc (.cells #[] 55)) w.heap.size 55 (.slice (some ⟨w.heap.size, 0, none⟩) 0 0) ([] : List Smp) := gw_lit layM w 55 #[] [] 0 rfl (by decide) rfl
theorem lit_smp (w : World) (s : Smp) : Gs 3 Smp.cells (w.alloc (.cells #[.int .i64 s.t, .int .i64 s.x, .int .i64 s.y] 55)) (.slice (some ⟨w.heap.size, 0, none⟩) 1 1) [s] := (gw_lit layM w 55 #[.int .i64 s.t, .int .i64 s.x, .int .i64 s.y] [s] 1 rfl (by decide) rfl).gs

section
variable {P : Program} {ops : Array Oper} {o : Oper} {a : Act} {Q : Exit → Act → World → Prop} {w : World} {t e : TypeId} {z : Value} {s bytes base : Nat} {α : Type} {cs : α → List Value} {v : Value} {l : List α}
/-- 'append' in a region that draws: what it made, and what of the old it changed -/
theorem step_append_gd {K : Act → World → Prop} {F : Prop} (L : Lay s cs) (hown : Gw s cs w base e v l) {y : Value} {m : List α} (hrd : Gs s cs w y m) (E : ElTy P t e z s bytes) (h63 : (l.length + m.length) * bytes ≤ 140737488355328) (hmx : l.length + m.length ≤ 9223372036854775807) (hbase : base ≤ w.heap.size)
    (h : ∀ v' w', Gw s cs w' base e v' (l ++ m) → Below base w w' → w.grownBy w' v.ownBlock → K (a.put o.dst v') w')
    (so xo : Operand) (hgd : Region.wanted o (yielded ops a.tmps) = true) (ho : o.op = .call { callee := .builtin .append, args := #[so, xo], argTypes := #[t, t] })
    (hs : a.eval so = v) (hx : a.eval xo = y) : if Region.wanted o (yielded ops a.tmps) = true then Oper.wp P o a w K Q else F := by
  rw [if_pos hgd]
  refine wp_append_mv so xo t ho E base v l.length (gcells cs l) y m.length (gcells cs m) hs hown hx hrd (gcells_one L m) (by simpa [maxLen] using hmx) h63 hbase ?_
  intro v' w' h1 h2 h3
  refine h v' w' ?_ ((Below.refl _ _).grown h2 hbase fun k hk => (World.ownsRow.lt hown k hk).1) h2
  unfold Gw
  rw [gcells_append, List.length_append]
  exact h1
end

set_option maxRecDepth 100000 in
theorem dvclone_any (y : Value) (m : List Smp) (w : World) (hy : Gs 3 Smp.cells w y m) (hm : m.length ≤ 1000000) :
    Calls Tryz.prog 41 #[y] w fun e w' => ∃ v, e = .returned v ∧ Gw 3 Smp.cells w' w.heap.size 55 v m ∧ Below w.heap.size w w' := by
  obtain ⟨a, c, hs⟩ := hy.shape
  subst hs
  cases a with
  | none =>
    have hm0 : m = [] ∧ c = 0 := by
      obtain ⟨_, a', c', he, h2, h3, h4, h5⟩ := hy
      simp only [Value.slice.injEq] at he
      obtain ⟨rfl, _, rfl⟩ := he
      have := h4 rfl
      exact ⟨List.eq_nil_of_length_eq_zero (by omega), this⟩
    obtain ⟨rfl, rfl⟩ := hm0
    have hq := fun W => Lib.run_eql_slice_nil (P := Tryz.prog) W 26 55 none 0 0 0 0 Tryz.underlying26
    rw [show (([] : List Smp).length) = 0 from rfl]
    go_enter Tryz.func41, Tryz.ntmps41
    go_wp2
    go_ret
    exact ⟨_, rfl, Gw.nil _ _ _, Below.refl _ _⟩
  | some ad =>
    have hq := fun W => Lib.run_eql_slice_nil (P := Tryz.prog) W 26 55 (some ad) m.length c 0 0 Tryz.underlying26
    have HY := Lib.hid (hy.below ((Below.refl _ _).alloc (Nat.le_refl _) (Obj.cells #[] 55)))
    have HM : Hid (Gw 3 Smp.cells (w.alloc (.cells #[] 55)) w.heap.size 55 (.slice (some ⟨w.heap.size, 0, none⟩) 0 0) []) := gw_madeM w
    clear hy
    go_enter Tryz.func41, Tryz.ntmps41
    go_wp2_with (at_builtin; go_must (refine wpList_append_gs layM HM.out HY.out elS (by simp; omega) (by simp; omega) (by simp) ?_ _ _ rfl rfl rfl rfl; intro v3 w3 ho3 hg3 hb3 _; have HO3 := Lib.hid ho3; have HB3 := Lib.hid hb3; clear ho3 hg3 hb3))
    go_ret
    exact ⟨_, rfl, HO3.out, ((Below.refl _ _).alloc (Nat.le_refl _) _).trans HB3.out⟩

/-- does s not follow the samples -/
def slate (l : List Smp) (s : Smp) : Bool := match l.getLast? with
  | none => false
  | some p => decide (s.t ≤ p.t)
noncomputable def recE (d : DvD) (s : Smp) : Int := if pB (DRight d) = false ∨ mayB s = false then 2 else if d.sm.length = 2048 then 3 else if slate d.sm s = true then 22 else 0
noncomputable def recD (d : DvD) (s : Smp) : DvD := if recE d s = 0 then ⟨d.tk, d.ky, d.sm ++ [s]⟩ else dvz
def RecPost (d : DvD) (s : Smp) (w : World) (e : Ending) (w' : World) : Prop :=
  ∃ vt vk vs, e = .returned (.tuple #[.agg #[vt, vk, vs], .int .i64 (recE d s)]) ∧ Dv w' vt vk vs (recD d s) ∧ Below w.heap.size w w'

set_option maxRecDepth 100000 in
set_option maxHeartbeats 3200000 in
theorem dvrecord_any (vt vk vs : Value) (d : DvD) (s : Smp) (w : World) (h : Dv w vt vk vs d) (hl : d.tk.length ≤ 1048576) :
    Calls Tryz.prog 18 #[.agg #[vt, vk, vs], .agg #[.int .i64 s.t, .int .i64 s.x, .int .i64 s.y]] w (RecPost d s w) := by
  unfold RecPost
  obtain ⟨q, hq⟩ : ∃ q, w.heap.size = q := ⟨_, rfl⟩
  obtain ⟨hbA, hrA0, hrB0⟩ := al2 w (.cells #[vt, vk, vs] 28) (.cells #[.int .i64 s.t, .int .i64 s.x, .int .i64 s.y] 55)
  obtain ⟨V, hV⟩ : ∃ W, (w.alloc (.cells #[vt, vk, vs] 28)).alloc (.cells #[.int .i64 s.t, .int .i64 s.x, .int .i64 s.y] 55) = W := ⟨_, rfl⟩
  have hVs : V.heap.size = q + 2 := by rw [← hV]; simp [hq]
  rw [hV] at hbA hrA0 hrB0
  obtain ⟨W, hW⟩ : ∃ W, V.alloc (.cells #[.slice none 0 0, .slice none 0 0, .slice none 0 0] 28) = W := ⟨_, rfl⟩
  have hbV : Below V.heap.size V W := by rw [← hW]; exact (Below.refl _ _).alloc (Nat.le_refl _) _
  have hb0 : Below w.heap.size w W := hbA.trans (hbV.mono hbA.size)
  have hrA : W.heap[q]? = some (.cells #[vt, vk, vs] 28 (0, 0)) := by rw [← hq]; exact (hbV.block _ (heap_lt hrA0)).trans hrA0
  have hrB : W.heap[q + 1]? = some (.cells #[.int .i64 s.t, .int .i64 s.x, .int .i64 s.y] 55 (0, 0)) := by rw [← hq]; exact (hbV.block _ (heap_lt hrB0)).trans hrB0
  have hrC : W.heap[q + 2]? = some (.cells #[.slice none 0 0, .slice none 0 0, .slice none 0 0] 28 (0, 0)) := by rw [← hVs, ← hW]; exact heap_alloc_new _ _
  have CR := Lib.hid (dvright_any vt vk vs d W (h.below hb0) hl)
  have CM := Lib.hid (fun V => smay_any s V)
  obtain ⟨mb, hmb⟩ : ∃ b, mayB s = b := ⟨_, rfl⟩
  rw [hmb] at CM
  have HB0 := Lib.hid hb0
  have HQA := Lib.hid (fun (V : World) (hV : Below W.heap.size W V) => three_at ((hV.block q (heap_lt hrA)).trans hrA))
  have HQB := Lib.hid (fun (V : World) (hV : Below W.heap.size W V) => three_at ((hV.block (q + 1) (heap_lt hrB)).trans hrB))
  have HRC := Lib.hid (fun (V : World) (hV : Below W.heap.size W V) => (hV.block (q + 2) (heap_lt hrC)).trans hrC)
  have HQ := Lib.hid hq
  have HH := Lib.hid h
  obtain ⟨R, hR⟩ : ∃ R, pB (DRight d) = R := ⟨_, rfl⟩
  rw [hR] at CR
  have HRR := Lib.hid hR
  have HRE : Hid (recE d s = if R = false ∨ mb = false then 2 else if d.sm.length = 2048 then 3 else if slate d.sm s = true then 22 else 0) := by show _ = _; rw [← hR, ← hmb]; rfl
  have HRD : Hid (recD d s = if recE d s = 0 then ⟨d.tk, d.ky, d.sm ++ [s]⟩ else dvz) := rfl
  obtain ⟨E, hE⟩ : ∃ E, recE d s = E := ⟨_, rfl⟩
  obtain ⟨D, hD⟩ : ∃ E, recD d s = E := ⟨_, rfl⟩
  rw [hE] at HRE
  rw [hE, hD] at HRD
  rw [hE, hD]
  obtain ⟨ta, tc, hts⟩ := h.tk.shape
  obtain ⟨ka, kc, hks⟩ := h.ky.shape
  obtain ⟨sa, sc, hss⟩ := h.sm.shape
  obtain ⟨tn, htn⟩ : ∃ n, d.tk.length = n := ⟨_, rfl⟩
  obtain ⟨kn, hkn⟩ : ∃ n, d.ky.length = n := ⟨_, rfl⟩
  obtain ⟨sn, hsn⟩ : ∃ n, d.sm.length = n := ⟨_, rfl⟩
  rw [htn] at hts
  rw [hkn] at hks
  rw [hsn] at hss HRE
  subst hts hks hss
  have HSN := Lib.hid hsn
  obtain ⟨z0, z1, z2⟩ := HQA.out W (Below.refl _ _)
  obtain ⟨y0, y1, y2⟩ := HQB.out W (Below.refl _ _)
  -- the result variable at an end that refuses
  have HBAD : Hid (∀ w3, Below W.heap.size W w3 → E ≠ 0 → ∀ Z, chain3 w3 (q + 2) (.slice none 0 0) (.slice none 0 0) (.slice none 0 0) = Z → (Z.cell? ⟨q + 2, 0, none⟩ = some (.slice none 0 0) ∧ Z.cell? ⟨q + 2, 1, none⟩ = some (.slice none 0 0) ∧ Z.cell? ⟨q + 2, 2, none⟩ = some (.slice none 0 0)) ∧ Dv Z (.slice none 0 0) (.slice none 0 0) (.slice none 0 0) D ∧ Below w.heap.size w Z) := by
    intro w3 hw3 hE0 Z hZ
    have hrow := HRC.out w3 hw3
    obtain ⟨hz1, hz2⟩ := chain3_row hrow (.slice none 0 0) (.slice none 0 0) (.slice none 0 0)
    rw [hZ] at hz1 hz2
    have hb3 := HB0.out.trans (hw3.mono HB0.out.size)
    exact ⟨three_at hz1, by rw [HRD.out, if_neg hE0]; exact dv_zero _, hb3.trans (hz2.below (fun k hk => by have := HQ.out; omega) hb3.size)⟩
  have HCF : Hid (∀ w3, Below W.heap.size W w3 → (w3.cell? ⟨q + 2, 0, none⟩ = some (.slice none 0 0) ∧ w3.cell? ⟨q + 2, 1, none⟩ = some (.slice none 0 0) ∧ w3.cell? ⟨q + 2, 2, none⟩ = some (.slice none 0 0)) ∧ w3.frozen? ⟨q + 2, 0, none⟩ = false ∧ w3.frozen? ⟨q + 2, 1, none⟩ = false ∧ w3.frozen? ⟨q + 2, 2, none⟩ = false) := fun w3 hw3 => ⟨three_at (HRC.out w3 hw3), frees3 (HRC.out w3 hw3)⟩
  clear h hl hb0 hbA hrA0 hrB0 hbV hrA hrB hrC hR hmb hE hD htn hkn hsn
  go_enter Tryz.func18, Tryz.ntmps18
  go_wp2_with fail
  refine CR.out.mono ?_
  rintro e w1 ⟨rfl, hb1⟩
  have HB1 := Lib.hid hb1
  clear hb1 CR z0 z1 z2 y0 y1 y2
  cases R with
  | false =>
    have HEE : Hid (E = 2) := by show _ = _; rw [HRE.out, if_pos (.inl rfl)]
    obtain ⟨⟨c0, c1, c2⟩, f0, f1, f2⟩ := HCF.out w1 HB1.out
    go_wp2
    obtain ⟨Z, hZ⟩ : ∃ Z, chain3 w1 (q + 2) (.slice none 0 0) (.slice none 0 0) (.slice none 0 0) = Z := ⟨_, rfl⟩
    obtain ⟨⟨d0, d1, d2⟩, hdv, hbf⟩ := HBAD.out w1 HB1.out (by rw [HEE.out]; decide) Z hZ
    unfold chain3 at hZ
    rw [hZ]
    refine bodyPost_ret (v := .tuple #[.agg #[.slice none 0 0, .slice none 0 0, .slice none 0 0], .int .i64 2]) ?_ rfl ⟨_, _, _, by rw [HEE.out], hdv, hbf⟩
    simp [results, Tryz.results18, go_sem, d0, d1, d2]
  | true =>
  obtain ⟨y0, y1, y2⟩ := HQB.out w1 HB1.out
  go_wp2_with fail
  refine (CM.out w1).mono ?_
  rintro e w2 ⟨rfl, hb2⟩
  have HB2 := Lib.hid (HB1.out.trans (hb2.mono HB1.out.size))
  clear hb2 CM y0 y1 y2
  cases mb with
  | false =>
    have HEE : Hid (E = 2) := by show _ = _; rw [HRE.out, if_pos (.inr rfl)]
    obtain ⟨⟨c0, c1, c2⟩, f0, f1, f2⟩ := HCF.out w2 HB2.out
    go_wp2
    obtain ⟨Z, hZ⟩ : ∃ Z, chain3 w2 (q + 2) (.slice none 0 0) (.slice none 0 0) (.slice none 0 0) = Z := ⟨_, rfl⟩
    obtain ⟨⟨d0, d1, d2⟩, hdv, hbf⟩ := HBAD.out w2 HB2.out (by rw [HEE.out]; decide) Z hZ
    unfold chain3 at hZ
    rw [hZ]
    refine bodyPost_ret (v := .tuple #[.agg #[.slice none 0 0, .slice none 0 0, .slice none 0 0], .int .i64 2]) ?_ rfl ⟨_, _, _, by rw [HEE.out], hdv, hbf⟩
    simp [results, Tryz.results18, go_sem, d0, d1, d2]
  | true =>
  have HRE2 : Hid (E = if sn = 2048 then 3 else if slate d.sm s = true then 22 else 0) := by show _ = _; rw [HRE.out]; simp
  have hs48 : sn ≤ 2048 := by have := (pB_iff.1 HRR.out).2.2.2; rw [HSN.out] at this; exact this
  by_cases hfull : sn = 2048
  · have e1 : ((sn : Int) == 2048) = true := by simp; omega
    have HEE : Hid (E = 3) := by show _ = _; rw [HRE2.out, if_pos hfull]
    obtain ⟨⟨c0, c1, c2⟩, f0, f1, f2⟩ := HCF.out w2 HB2.out
    clear hfull hs48
    go_wp2
    obtain ⟨Z, hZ⟩ : ∃ Z, chain3 w2 (q + 2) (.slice none 0 0) (.slice none 0 0) (.slice none 0 0) = Z := ⟨_, rfl⟩
    obtain ⟨⟨d0, d1, d2⟩, hdv, hbf⟩ := HBAD.out w2 HB2.out (by rw [HEE.out]; decide) Z hZ
    unfold chain3 at hZ
    rw [hZ]
    refine bodyPost_ret (v := .tuple #[.agg #[.slice none 0 0, .slice none 0 0, .slice none 0 0], .int .i64 3]) ?_ rfl ⟨_, _, _, by rw [HEE.out], hdv, hbf⟩
    simp [results, Tryz.results18, go_sem, d0, d1, d2]
  have e1 : ((sn : Int) == 2048) = false := by simp; omega
  have HRE3 : Hid (E = if slate d.sm s = true then 22 else 0) := by show _ = _; rw [HRE2.out, if_neg hfull]
  obtain ⟨lt, hlt⟩ : ∃ b, slate d.sm s = b := ⟨_, rfl⟩
  rw [hlt] at HRE3
  have HLT := Lib.hid hlt
  clear hlt hfull HRE HRE2
  go_upto_region 6 with fail
  go_cut [24] (fun c wx => c = .bool lt ∧ Hid (Below W.heap.size W wx))
  case first =>
    obtain ⟨z0, z1, z2⟩ := HQA.out w2 HB2.out
    obtain ⟨y0, y1, y2⟩ := HQB.out w2 HB2.out
    have HBQ : Hid (∀ nq, Below W.heap.size W (w2.drewN nq)) := fun nq => below_drewN HB2.out nq
    by_cases hs0 : 0 < sn
    · have e2 : (0 : Int) < sn := by omega
      obtain ⟨pp, hpp⟩ : ∃ p, d.sm[sn - 1]? = some p := ⟨_, List.getElem?_eq_getElem (by rw [HSN.out]; omega)⟩
      have hlast : d.sm.getLast? = some pp := by rw [List.getLast?_eq_getElem?, HSN.out]; exact hpp
      have hlv : decide (s.t ≤ pp.t) = lt := by rw [← HLT.out]; unfold slate; rw [hlast]
      obtain ⟨a', c', b1, o1, hse, -, -, hix, hlb, hcell⟩ := Ss.open_n elS HH.out.sm sn HSN.out
      simp only [Value.slice.injEq] at hse
      obtain ⟨rfl, -, rfl⟩ := hse
      obtain ⟨d0, -, -⟩ := hcell (sn - 1) pp hpp
      have hbw : Below w.heap.size w w2 := HB0.out.trans (HB2.out.mono HB0.out.size)
      rw [← hbw.cell (by exact hlb (sn - 1) (by omega))] at d0
      have hixp := fun W => hix W ((sn : Int) - 1) (by omega) (by omega)
      rw [show ((sn : Int) - 1).toNat = sn - 1 by omega] at hixp
      clear hpp hlast hcell hix hlb hbw
      cases lt with
      | true =>
        have e3 : s.t ≤ pp.t := of_decide_eq_true hlv
        clear hlv
        go_quiet (fail)
        have hbq := HBQ.out nq
        go_wp2
        go_meet
        case rel => exact ⟨rfl, hbq⟩
      | false =>
        have e3 : ¬ s.t ≤ pp.t := of_decide_eq_false hlv
        clear hlv
        go_quiet (fail)
        have hbq := HBQ.out nq
        go_wp2
        go_meet
        case rel => exact ⟨rfl, hbq⟩
    · have e2 : ¬ (0 : Int) < sn := by omega
      have hl0 : d.sm = [] := List.eq_nil_of_length_eq_zero (by rw [HSN.out]; omega)
      have hlv : lt = false := by rw [← HLT.out, hl0]; rfl
      subst hlv
      clear hl0
      go_quiet (fail)
      have hbq := HBQ.out nq
      go_wp2
      go_meet
      case rel => exact ⟨rfl, hbq⟩
  case rest =>
  obtain ⟨rfl, HB3⟩ := hcut
  obtain ⟨W3, hW3⟩ : ∃ X, X = wc := ⟨_, rfl⟩
  subst hW3
  cases lt with
  | true =>
    have HEE : Hid (E = 22) := HRE3.out
    obtain ⟨⟨c0, c1, c2⟩, f0, f1, f2⟩ := HCF.out W3 HB3.out
    go_wp2
    obtain ⟨Z, hZ⟩ : ∃ Z, chain3 W3 (q + 2) (.slice none 0 0) (.slice none 0 0) (.slice none 0 0) = Z := ⟨_, rfl⟩
    obtain ⟨⟨d0, d1, d2⟩, hdv, hbf⟩ := HBAD.out W3 HB3.out (by rw [HEE.out]; decide) Z hZ
    unfold chain3 at hZ
    rw [hZ]
    refine bodyPost_ret (v := .tuple #[.agg #[.slice none 0 0, .slice none 0 0, .slice none 0 0], .int .i64 22]) ?_ rfl ⟨_, _, _, by rw [HEE.out], hdv, by rw [← HQ.out]; exact hbf⟩
    simp [results, Tryz.results18, go_sem, d0, d1, d2]
  | false =>
    have HEE : Hid (E = 0) := HRE3.out
    have HDD : Hid (D = ⟨d.tk, d.ky, d.sm ++ [s]⟩) := by show _ = _; rw [HRD.out, if_pos HEE.out]
    have HBW3 : Hid (Below w.heap.size w W3) := HB0.out.trans (HB3.out.mono HB0.out.size)
    have HSM : Hid (∀ V : World, Below W3.heap.size W3 V → Gs 3 Smp.cells V (.slice sa sn sc) d.sm) := fun V hV => HH.out.sm.below (HBW3.out.trans (hV.mono HBW3.out.size))
    have TR : Hid (∀ {V1 V2 V3 : World}, Below V1.heap.size V1 V2 → Below V2.heap.size V2 V3 → Below V1.heap.size V1 V3) := fun h1 h2 => h1.trans (h2.mono h1.size)
    obtain ⟨ob, hob⟩ : ∃ o, Obj.cells #[.int .i64 s.t, .int .i64 s.x, .int .i64 s.y] 55 = o := ⟨_, rfl⟩
    have C1 := Lib.hid (dvclone_any (.slice sa sn sc) d.sm W3.drew (HSM.out _ (by exact (Below.refl _ _).drew)) (by rw [HSN.out]; omega))
    have C2 := Lib.hid (dvclone_any (.slice sa sn sc) d.sm (W3.alloc ob).drew (HSM.out _ (by exact (bel_al (Below.refl _ _) _).drew)) (by rw [HSN.out]; omega))
    rw [← hob] at C2
    clear hob
    have HS : Hid (∀ V : World, Below W3.heap.size W3 V → (V.cell? ⟨q, 0, none⟩ = some (.slice ta tn tc) ∧ V.cell? ⟨q, 1, none⟩ = some (.slice ka kn kc) ∧ V.cell? ⟨q, 2, none⟩ = some (.slice sa sn sc)) ∧ V.cell? ⟨q + 1, 0, none⟩ = some (.int .i64 s.t) ∧ V.cell? ⟨q + 1, 1, none⟩ = some (.int .i64 s.x) ∧ V.cell? ⟨q + 1, 2, none⟩ = some (.int .i64 s.y)) := fun V hV => ⟨HQA.out V (TR.out HB3.out hV), HQB.out V (TR.out HB3.out hV)⟩
    have HSO : Hid (∀ V Z : World, Below W3.heap.size W3 V → Only (fun k => k = q + 2) V Z → (Z.cell? ⟨q, 0, none⟩ = some (.slice ta tn tc) ∧ Z.cell? ⟨q, 1, none⟩ = some (.slice ka kn kc) ∧ Z.cell? ⟨q, 2, none⟩ = some (.slice sa sn sc)) ∧ Z.cell? ⟨q + 1, 0, none⟩ = some (.int .i64 s.t) ∧ Z.cell? ⟨q + 1, 1, none⟩ = some (.int .i64 s.x) ∧ Z.cell? ⟨q + 1, 2, none⟩ = some (.int .i64 s.y)) := fun V Z hV ho => by
      have hlt : ∀ k, k < q + 2 → V.heap[k]? = Z.heap[k]? := fun k hk => (ho.block k (by have := heap_lt (HRC.out V (TR.out HB3.out hV)); omega) (by omega)).symm
      have h1 := HS.out V hV
      simp only [World.cell?, ← hlt q (by omega), ← hlt (q + 1) (by omega)] at h1 ⊢
      exact h1
    have HCF3 : Hid (∀ V : World, Below W3.heap.size W3 V → (V.cell? ⟨q + 2, 0, none⟩ = some (.slice none 0 0) ∧ V.cell? ⟨q + 2, 1, none⟩ = some (.slice none 0 0) ∧ V.cell? ⟨q + 2, 2, none⟩ = some (.slice none 0 0)) ∧ V.frozen? ⟨q + 2, 0, none⟩ = false ∧ V.frozen? ⟨q + 2, 1, none⟩ = false ∧ V.frozen? ⟨q + 2, 2, none⟩ = false) := fun V hV => HCF.out V (TR.out HB3.out hV)
    go_upto_region 8 with fail
    go_region_held3 (fun V => (V.cell? ⟨q, 0, none⟩ = some (.slice ta tn tc) ∧ V.cell? ⟨q, 1, none⟩ = some (.slice ka kn kc) ∧ V.cell? ⟨q, 2, none⟩ = some (.slice sa sn sc)) ∧ V.cell? ⟨q + 1, 0, none⟩ = some (.int .i64 s.t) ∧ V.cell? ⟨q + 1, 1, none⟩ = some (.int .i64 s.x) ∧ V.cell? ⟨q + 1, 2, none⟩ = some (.int .i64 s.y)) (first
      | (with_reducible exact HS.out _ (bel_dr (Below.refl _ _)))
      | (with_reducible exact HS.out _ (bel_dr (bel_al (Below.refl _ _) _)))
      | (with_reducible exact HS.out _ b5)
      | (with_reducible exact HS.out _ (bel_al b5 _))
      | (with_reducible exact HS.out _ b6)
      | (with_reducible exact HS.out _ b7)
      | (with_reducible exact S7)) (first
      | (go_at_call 41; (with_reducible refine C1.out.mono ?_); rintro e w5 ⟨v5, rfl, hg5, hb5⟩; obtain ⟨a5, c5, rfl⟩ := hg5.gs.shape; have b5 : Below W3.heap.size W3 w5 := (bel_dr (Below.refl _ _)).trans (hb5.mono (by simp)); have GA : Hid (Gw 3 Smp.cells w5 W3.heap.size 55 (.slice a5 d.sm.length c5) d.sm) := hg5; clear hg5 hb5)
      | (go_at_call 41; (with_reducible refine C2.out.mono ?_); rintro e w5 ⟨v5, rfl, hg5, hb5⟩; obtain ⟨a5, c5, rfl⟩ := hg5.gs.shape; have b5 : Below W3.heap.size W3 w5 := (bel_dr (bel_al (Below.refl _ _) _)).trans (hb5.mono (by simp)); have GB : Hid (Gw 3 Smp.cells w5 W3.heap.size 55 (.slice a5 d.sm.length c5) d.sm) := hg5.mono (by simp); have LB : Hid (Gs 3 Smp.cells w5 (.slice (some ⟨W3.heap.size, 0, none⟩) 1 1) [s]) := ((lit_smp W3 s).below (bel_dr (Below.refl _ _))).below hb5; clear hg5 hb5)
      | (refine step_append_gd layM (GA.out.below (bel_al (Below.refl _ _) _)) (lit_smp w5 s) elS (by rw [HSN.out]; simp; omega) (by rw [HSN.out]; simp; omega) (bel_al b5 _).size ?_ _ _ (by rfl) rfl rfl rfl; intro v6 w6 hg6 hb6 hgr6; obtain ⟨a6, c6, hv6⟩ := hg6.gs.shape; obtain ⟨n6, hn6⟩ : ∃ n, (d.sm ++ [s]).length = n := ⟨_, rfl⟩; rw [hn6] at hv6; subst hv6; have b6 : Below W3.heap.size W3 w6 := (bel_al b5 _).trans hb6; have G6 := Lib.hid hg6; clear hg6 hb6 hgr6)
      | (refine step_append_gd layM GB.out LB.out elS (by rw [HSN.out]; simp; omega) (by rw [HSN.out]; simp; omega) b5.size ?_ _ _ (by rfl) rfl rfl rfl; intro v6 w6 hg6 hb6 hgr6; obtain ⟨a6, c6, hv6⟩ := hg6.gs.shape; obtain ⟨n6, hn6⟩ : ∃ n, (d.sm ++ [s]).length = n := ⟨_, rfl⟩; rw [hn6] at hv6; subst hv6; have b6 : Below W3.heap.size W3 w6 := b5.trans hb6; have G6 := Lib.hid hg6; clear hg6 hb6 hgr6)
      | (go_at_call 40; (with_reducible refine (dvwith_any _ _ _ _ _ _ _ _ _ _ _ _ w6).mono ?_); rintro e w7 ⟨rfl, hb7⟩; have b7 : Below W3.heap.size W3 w7 := TR.out b6 hb7; have G7 := Lib.hid (G6.out.below hb7); obtain ⟨⟨c0, c1, c2⟩, f0, f1, f2⟩ := HCF3.out w7 b7; have hrow7 := HRC.out w7 (TR.out HB3.out b7); obtain ⟨hz1, hz2⟩ := chain3_row hrow7 (.slice ta tn tc) (.slice ka kn kc) (.slice a6 n6 c6); have S7 := HSO.out w7 _ b7 hz2; unfold chain3 at S7; have HZ1 := Lib.hid hz1; have HZ2 := Lib.hid hz2; clear hb7 hrow7 hz1 hz2))
    all_goals
      go_simp
      go_wp2
      obtain ⟨Z, hZ⟩ : ∃ Z, chain3 w7 (q + 2) (.slice ta tn tc) (.slice ka kn kc) (.slice a6 n6 c6) = Z := ⟨_, rfl⟩
      have hz1 := HZ1.out
      have hz2 := HZ2.out
      rw [hZ] at hz1 hz2
      unfold chain3 at hZ
      rw [hZ]
      obtain ⟨d0, d1, d2⟩ := three_at hz1
      have hbw7 := HBW3.out.trans (b7.mono HBW3.out.size)
      have hrow7 := HRC.out w7 (TR.out HB3.out b7)
      have hd7 := HH.out.below hbw7
      have hdv : Dv Z (.slice ta tn tc) (.slice ka kn kc) (.slice a6 n6 c6) D := by
        rw [HDD.out]
        exact ⟨hd7.tk.only' hz2 fun hl k hk e => Bs.ne_dev hd7.tk hrow7 hl (by rw [hk, e]), hd7.ky.only' hz2 fun hl k hk e => Bs.ne_dev hd7.ky hrow7 hl (by rw [hk, e]),
          G7.out.gs.only hz2 fun k hk e => by have h1 := (G7.out.lt k hk).1; have h2 := heap_lt (HRC.out W3 HB3.out); omega⟩
      have hbf := hbw7.trans (hz2.below (B := w.heap.size) (fun k hk => by have := HQ.out; omega) hbw7.size)
      refine bodyPost_ret (v := .tuple #[.agg #[.slice ta tn tc, .slice ka kn kc, .slice a6 n6 c6], .int .i64 0]) ?_ rfl ⟨_, _, _, by rw [HEE.out], hdv, hbf⟩
      simp [results, Tryz.results18, go_sem, d0, d1, d2]
end Go.Proofs.YtjnbdeopoohnmaaGreatDoor
/- Layer 48 (device): Thin. -/
set_option linter.unusedSimpArgs false
namespace Go.Proofs.YtjnbdeopoohnmaaGreatDoor
open Go.RowKit Go.Sort

def tpush (gap : Int) (acc : List Smp) (s : Smp) : List Smp := match acc.getLast? with
  | none => acc ++ [s]
  | some p => if gap ≤ s.t - p.t then acc ++ [s] else acc
def sthin (gap : Int) (l : List Smp) : List Smp := l.foldl (tpush gap) []
theorem sthin_next {gap : Int} {l : List Smp} {k : Nat} {s : Smp} (h : l[k]? = some s) : sthin gap (l.take (k + 1)) = tpush gap (sthin gap (l.take k)) s := by
  rw [List.take_add_one, h]
  simp [sthin, List.foldl_append]
theorem tpush_sub {gap : Int} {acc : List Smp} {s x : Smp} (h : x ∈ tpush gap acc s) : x ∈ acc ∨ x = s := by
  unfold tpush at h
  split at h
  · simpa using h
  · split at h
    · simpa using h
    · exact .inl h
theorem sthin_sub {gap : Int} {l : List Smp} {x : Smp} (h : x ∈ sthin gap l) : x ∈ l := by
  have key : ∀ (l acc : List Smp), x ∈ l.foldl (tpush gap) acc → x ∈ acc ∨ x ∈ l := by
    intro l
    induction l with
    | nil => intro acc h; exact .inl h
    | cons y r ih =>
      intro acc h
      rcases ih _ h with h | h
      · rcases tpush_sub h with h | rfl
        · exact .inl h
        · exact .inr (by simp)
      · exact .inr (by simp [h])
  rcases key l [] h with h | h
  · cases h
  · exact h
theorem sthin_len (gap : Int) (l : List Smp) : (sthin gap l).length ≤ l.length := by
  have key : ∀ (l acc : List Smp), (l.foldl (tpush gap) acc).length ≤ acc.length + l.length := by
    intro l
    induction l with
    | nil => intro acc; simp
    | cons y r ih =>
      intro acc
      have h1 := ih (tpush gap acc y)
      have h2 : (tpush gap acc y).length ≤ acc.length + 1 := by
        unfold tpush
        split
        · simp
        · split
          · simp
          · omega
      simp only [List.foldl_cons, List.length_cons]
      omega
  simpa [sthin] using key l []
noncomputable def thE (d : DvD) (gap : Int) : Int := if pB (DRight d) = false ∨ gap < 0 then 2 else 0
noncomputable def thD (d : DvD) (gap : Int) : DvD := if thE d gap = 0 then ⟨d.tk, d.ky, sthin gap d.sm⟩ else dvz
def ThinPost (d : DvD) (gap : Int) (w : World) (e : Ending) (w' : World) : Prop :=
  ∃ vt vk vs, e = .returned (.tuple #[.agg #[vt, vk, vs], .int .i64 (thE d gap)]) ∧ Dv w' vt vk vs (thD d gap) ∧ Below w.heap.size w w'

set_option maxRecDepth 100000 in
set_option maxHeartbeats 3200000 in
theorem dvthin_any (vt vk vs : Value) (d : DvD) (gap : Int) (w : World) (h : Dv w vt vk vs d) (hl : d.tk.length ≤ 1048576) :
    Calls Tryz.prog 22 #[.agg #[vt, vk, vs], .int .i64 gap] w (ThinPost d gap w) := by
  unfold ThinPost
  obtain ⟨q, hq⟩ : ∃ q, w.heap.size = q := ⟨_, rfl⟩
  obtain ⟨hb0, hrA, hrB⟩ := al2 w (.cells #[vt, vk, vs] 28) (.cells #[.slice none 0 0, .slice none 0 0, .slice none 0 0] 28)
  obtain ⟨W, hW⟩ : ∃ W, (w.alloc (.cells #[vt, vk, vs] 28)).alloc (.cells #[.slice none 0 0, .slice none 0 0, .slice none 0 0] 28) = W := ⟨_, rfl⟩
  rw [hW] at hb0 hrA hrB
  rw [hq] at hrA hrB
  have CR := Lib.hid (dvright_any vt vk vs d W (h.below hb0) hl)
  have HB0 := Lib.hid hb0
  have HQA := Lib.hid (fun (V : World) (hV : Below W.heap.size W V) => three_at ((hV.block q (heap_lt hrA)).trans hrA))
  have HRC := Lib.hid (fun (V : World) (hV : Below W.heap.size W V) => (hV.block (q + 1) (heap_lt hrB)).trans hrB)
  have HQ := Lib.hid hq
  have HH := Lib.hid h
  obtain ⟨R, hR⟩ : ∃ R, pB (DRight d) = R := ⟨_, rfl⟩
  rw [hR] at CR
  have HRR := Lib.hid hR
  have HRE : Hid (thE d gap = if R = false ∨ gap < 0 then 2 else 0) := by show _ = _; rw [← hR]; rfl
  have HRD : Hid (thD d gap = if thE d gap = 0 then ⟨d.tk, d.ky, sthin gap d.sm⟩ else dvz) := rfl
  obtain ⟨E, hE⟩ : ∃ E, thE d gap = E := ⟨_, rfl⟩
  obtain ⟨D, hD⟩ : ∃ E, thD d gap = E := ⟨_, rfl⟩
  rw [hE] at HRE
  rw [hE, hD] at HRD
  rw [hE, hD]
  obtain ⟨ta, tc, hts⟩ := h.tk.shape
  obtain ⟨ka, kc, hks⟩ := h.ky.shape
  obtain ⟨tn, htn⟩ : ∃ n, d.tk.length = n := ⟨_, rfl⟩
  obtain ⟨kn, hkn⟩ : ∃ n, d.ky.length = n := ⟨_, rfl⟩
  obtain ⟨sn, hsn⟩ : ∃ n, d.sm.length = n := ⟨_, rfl⟩
  obtain ⟨sa, sc, b1, o1, hss, hsc1, hsc2, hix, hlb, hcell⟩ := Ss.open_n elS h.sm sn hsn
  rw [htn] at hts
  rw [hkn] at hks
  subst hts hks hss
  have HSN := Lib.hid hsn
  have HIX := Lib.hid hix
  have HLB := Lib.hid hlb
  have HCE := Lib.hid hcell
  obtain ⟨z0, z1, z2⟩ := HQA.out W (Below.refl _ _)
  have HBAD : Hid (∀ w3, Below W.heap.size W w3 → E ≠ 0 → ∀ Z, chain3 w3 (q + 1) (.slice none 0 0) (.slice none 0 0) (.slice none 0 0) = Z → (Z.cell? ⟨q + 1, 0, none⟩ = some (.slice none 0 0) ∧ Z.cell? ⟨q + 1, 1, none⟩ = some (.slice none 0 0) ∧ Z.cell? ⟨q + 1, 2, none⟩ = some (.slice none 0 0)) ∧ Dv Z (.slice none 0 0) (.slice none 0 0) (.slice none 0 0) D ∧ Below w.heap.size w Z) := by
    intro w3 hw3 hE0 Z hZ
    have hrow := HRC.out w3 hw3
    obtain ⟨hz1, hz2⟩ := chain3_row hrow (.slice none 0 0) (.slice none 0 0) (.slice none 0 0)
    rw [hZ] at hz1 hz2
    have hb3 := HB0.out.trans (hw3.mono HB0.out.size)
    exact ⟨three_at hz1, by rw [HRD.out, if_neg hE0]; exact dv_zero _, hb3.trans (hz2.below (fun k hk => by have := HQ.out; omega) hb3.size)⟩
  have HCF : Hid (∀ w3, Below W.heap.size W w3 → (w3.cell? ⟨q + 1, 0, none⟩ = some (.slice none 0 0) ∧ w3.cell? ⟨q + 1, 1, none⟩ = some (.slice none 0 0) ∧ w3.cell? ⟨q + 1, 2, none⟩ = some (.slice none 0 0)) ∧ w3.frozen? ⟨q + 1, 0, none⟩ = false ∧ w3.frozen? ⟨q + 1, 1, none⟩ = false ∧ w3.frozen? ⟨q + 1, 2, none⟩ = false) := fun w3 hw3 => ⟨three_at (HRC.out w3 hw3), frees3 (HRC.out w3 hw3)⟩
  clear h hl hb0 hrA hrB hR hE hD htn hkn hsn hix hlb hcell
  go_enter Tryz.func22, Tryz.ntmps22
  go_wp2_with fail
  refine CR.out.mono ?_
  rintro e w1 ⟨rfl, hb1⟩
  have HB1 := Lib.hid hb1
  clear hb1 CR z0 z1 z2
  by_cases hbad : R = false ∨ gap < 0
  · have HEE : Hid (E = 2) := by show _ = _; rw [HRE.out, if_pos hbad]
    obtain ⟨⟨c0, c1, c2⟩, f0, f1, f2⟩ := HCF.out w1 HB1.out
    have fin : ∀ Z, chain3 w1 (q + 1) (.slice none 0 0) (.slice none 0 0) (.slice none 0 0) = Z → _ := fun Z hZ => HBAD.out w1 HB1.out (by rw [HEE.out]; decide) Z hZ
    have FIN := Lib.hid fin
    clear fin
    cases R with
    | false =>
      clear hbad
      go_wp2
      obtain ⟨Z, hZ⟩ : ∃ Z, chain3 w1 (q + 1) (.slice none 0 0) (.slice none 0 0) (.slice none 0 0) = Z := ⟨_, rfl⟩
      obtain ⟨⟨d0, d1, d2⟩, hdv, hbf⟩ := FIN.out Z hZ
      unfold chain3 at hZ
      rw [hZ]
      refine bodyPost_ret (v := .tuple #[.agg #[.slice none 0 0, .slice none 0 0, .slice none 0 0], .int .i64 2]) ?_ rfl ⟨_, _, _, by rw [HEE.out], hdv, hbf⟩
      simp [results, Tryz.results22, go_sem, d0, d1, d2]
    | true =>
      have hg : gap < 0 := by rcases hbad with h | h; · cases h
                              · exact h
      clear hbad
      go_wp2
      obtain ⟨Z, hZ⟩ : ∃ Z, chain3 w1 (q + 1) (.slice none 0 0) (.slice none 0 0) (.slice none 0 0) = Z := ⟨_, rfl⟩
      obtain ⟨⟨d0, d1, d2⟩, hdv, hbf⟩ := FIN.out Z hZ
      unfold chain3 at hZ
      rw [hZ]
      refine bodyPost_ret (v := .tuple #[.agg #[.slice none 0 0, .slice none 0 0, .slice none 0 0], .int .i64 2]) ?_ rfl ⟨_, _, _, by rw [HEE.out], hdv, hbf⟩
      simp [results, Tryz.results22, go_sem, d0, d1, d2]
  obtain rfl : R = true := by cases R with
    | true => rfl
    | false => exact absurd (.inl rfl) hbad
  have hg : ¬ gap < 0 := fun h => hbad (.inr h)
  have HEE : Hid (E = 0) := by show _ = _; rw [HRE.out, if_neg hbad]
  have HDD : Hid (D = ⟨d.tk, d.ky, sthin gap d.sm⟩) := by show _ = _; rw [HRD.out, if_pos HEE.out]
  have hdr := pB_iff.1 HRR.out
  have HS48 : Hid (sn ≤ 2048) := by have := hdr.2.2.2; rw [HSN.out] at this; exact this
  have HMAY : Hid (∀ x ∈ d.sm, SMay x) := fun x hx => by
    obtain ⟨i, hi⟩ := List.getElem?_of_mem hx
    exact (hdr.2.2.1 i x hi).1
  clear hbad hdr HBAD HRE HRD
  obtain ⟨z0, z1, z2⟩ := HQA.out w1 HB1.out
  go_wp2_with fail
  go_loopg [6, 21] sn (fun qq vo vi wr => ∃ k : Nat, qq = sn - k ∧ k ≤ sn ∧ vi = .int .i64 k ∧ Hid (Gw 3 Smp.cells wr W.heap.size 55 vo (sthin gap (d.sm.take k))) ∧ Hid (Below W.heap.size W wr))
  case atStart => exact ⟨0, by omega, by omega, rfl, Gw.nil _ _ _, HB1⟩
  case round =>
    obtain ⟨k, rfl, hk, rfl, HO, HBR⟩ := hrel
    clear z0 z1 z2
    have HBW : Hid (Below w.heap.size w wr) := HB0.out.trans (HBR.out.mono HB0.out.size)
    obtain ⟨T, hT⟩ : ∃ T, sthin gap (d.sm.take k) = T := ⟨_, rfl⟩
    have hTl : T.length ≤ 2048 := by have := sthin_len gap (d.sm.take k); rw [hT, List.length_take] at this; have := HS48.out; omega
    have hTm : ∀ x ∈ T, SMay x := fun x hx => by rw [← hT] at hx; exact HMAY.out x (List.mem_of_mem_take (sthin_sub hx))
    rw [hT] at HO
    obtain ⟨m, hm⟩ : ∃ m, T.length = m := ⟨_, rfl⟩
    obtain ⟨oa, oc, ob, oo, hos, -, -, oix, olt, ocell, -⟩ := HO.out.gs.open_n layM elS m hm
    subst hos
    have HM := Lib.hid hm
    have HTL : Hid (m ≤ 2048) := by rw [← hm]; exact hTl
    by_cases hlt : k < sn
    · have e1 : (k : Int) < sn := by omega
      obtain ⟨s, hs⟩ : ∃ s, d.sm[k]? = some s := ⟨_, List.getElem?_eq_getElem (by rw [HSN.out]; exact hlt)⟩
      have hnx : sthin gap (d.sm.take (k + 1)) = tpush gap T s := by rw [sthin_next hs, hT]
      have hsm := HMAY.out s (List.mem_of_getElem? hs)
      obtain ⟨p0, p1, p2⟩ := HCE.out k s hs
      rw [← HBW.out.cell (by exact HLB.out k hlt)] at p0 p1 p2
      have hixk := fun W => HIX.out W (k : Int) (by omega) e1
      rw [show ((k : Int)).toNat = k by omega] at hixk
      obtain ⟨t, x, y⟩ := s
      simp only at p0 p1 p2
      have hal : Below wr.heap.size wr (wr.alloc (.cells #[.int .i64 t, .int .i64 x, .int .i64 y] 55)) := (Below.refl _ _).alloc (Nat.le_refl _) _
      have hr4 : (wr.alloc (.cells #[.int .i64 t, .int .i64 x, .int .i64 y] 55)).heap[wr.heap.size]? = some (.cells #[.int .i64 t, .int .i64 x, .int .i64 y] 55 (0, 0)) := heap_alloc_new _ _
      obtain ⟨p, hp⟩ : ∃ p, wr.heap.size = p := ⟨_, rfl⟩
      obtain ⟨V1, hV1⟩ : ∃ V, wr.alloc (.cells #[.int .i64 t, .int .i64 x, .int .i64 y] 55) = V := ⟨_, rfl⟩
      rw [hV1] at hal hr4
      rw [hp] at hr4
      have HR4 := Lib.hid (fun (V : World) (hV : Below V1.heap.size V1 V) => three_at ((hV.block p (heap_lt hr4)).trans hr4))
      obtain ⟨y0, y1, y2⟩ := three_at hr4
      have HB1' : Hid (Below W.heap.size W V1) := HBR.out.trans (hal.mono HBR.out.size)
      have HO1 := Lib.hid (HO.out.below hal)
      have HV1 := Lib.hid hV1
      have HP := Lib.hid hp
      have HLTK := Lib.hid hlt
      have HNX := Lib.hid hnx
      have hsm' : 0 ≤ t ∧ t ≤ 1099511627776 := ⟨hsm.1, hsm.2.1⟩
      have HOC : Hid (∀ j x, T[j]? = some x → V1.cell? ⟨ob, oo j, none⟩ = some (.int .i64 x.t)) := fun j x hj => by
        have hb := olt j (by rw [← hm]; exact (List.getElem?_eq_some_iff.1 hj).1)
        exact (hal.cell hb).trans (ocell j x hj 0 _ rfl)
      have HOX := Lib.hid oix
      have HTM := Lib.hid hTm
      clear hT hTl hTm hm hs hnx hsm hlt hal hr4 hV1 hp oix olt ocell
      go_upto_region 7 with (with_reducible refine wpList_store_new rfl _ _ rfl rfl rfl (by kernel_rfl) (by simp) (by simp [Value.oneCell']) ?_)
      rw [HV1.out, HP.out]
      rcases Nat.eq_zero_or_pos m with hm0 | hm0
      · subst hm0
        have hf : sthin gap (d.sm.take (k + 1)) = T ++ [⟨t, x, y⟩] := by
          rw [HNX.out]
          obtain rfl := List.length_eq_zero_iff.1 HM.out
          rfl
        have HF := Lib.hid hf
        have HBQ : Hid (∀ nq, Below V1.heap.size V1 (V1.drewN nq)) := fun nq => below_drewN (Below.refl _ _) nq
        clear hf p0 p1 p2
        go_upto_region 8 with fail
        go_quiet (fail)
        obtain ⟨V2, hV2⟩ : ∃ V, V1.drewN nq = V := ⟨_, rfl⟩
        have hbq := HBQ.out nq
        rw [hV2] at hbq ⊢
        clear hV2 y0 y1 y2
        obtain ⟨y0, y1, y2⟩ := HR4.out V2 hbq
        have HO2 := Lib.hid (HO1.out.below hbq)
        have HB2 : Hid (Below W.heap.size W V2) := HB1'.out.trans (hbq.mono HB1'.out.size)
        go_wp2_with (at_builtin; go_must (refine wpList_append_gs layM (HO2.out.below (bel_al (Below.refl _ _) _)) (lit_smp V2 ⟨t, x, y⟩) elS (by rw [HM.out]; simp) (by rw [HM.out]; simp) (bel_al HB2.out _).size ?_ _ _ rfl rfl rfl rfl); intro v5 w5 ho5 hg5 hb5 _; have HO5 := Lib.hid ho5; have HG5 := Lib.hid ((bel_al HB2.out _).trans hb5); clear ho5 hg5 hb5)
        go_roundg (sn - (k + 1))
        case rel => exact ⟨k + 1, rfl, by have := HLTK.out; omega, by go_num, by rw [HF.out]; exact HO5, HG5⟩
        case measure => have := HLTK.out; omega
      · obtain ⟨m1, rfl⟩ : ∃ m1, m = m1 + 1 := ⟨m - 1, by omega⟩
        obtain ⟨pp, hpp⟩ : ∃ y, T[m1]? = some y := ⟨_, List.getElem?_eq_getElem (by rw [HM.out]; omega)⟩
        have hlast : T.getLast? = some pp := by rw [List.getLast?_eq_getElem?, HM.out]; exact hpp
        have hpm := HTM.out pp (List.mem_of_getElem? hpp)
        have d0 := HOC.out m1 pp hpp
        have hoixm := fun W => HOX.out W m1 (Nat.lt_succ_self _)
        obtain ⟨mm, hmm⟩ : ∃ mm, m1 + 1 = mm := ⟨_, rfl⟩
        have hm1 : (m1 : Int) = (mm : Int) - 1 := by omega
        have hmm63 : 1 ≤ mm ∧ mm ≤ 2048 := by have := HTL.out; omega
        rw [hmm] at HO1 HM hoixm
        rw [hm1] at hoixm
        rw [hmm]
        have e7 : ((mm : Int) == 0) = false := by simp; omega
        have hpt : 0 ≤ pp.t ∧ pp.t ≤ 1099511627776 := ⟨hpm.1, hpm.2.1⟩
        obtain ⟨pt, hptv⟩ : ∃ z, pp.t = z := ⟨_, rfl⟩
        rw [hptv] at d0 hpt
        have hw1 : IntKind.i64.wrap (t - pt) = t - pt := by rw [IntKind.wrap_i64]; omega
        have HMM := Lib.hid hmm63
        have hstep : tpush gap T ⟨t, x, y⟩ = if gap ≤ t - pt then T ++ [⟨t, x, y⟩] else T := by unfold tpush; rw [hlast, ← hptv]
        have HBQ : Hid (∀ nq, Below V1.heap.size V1 (V1.drewN nq)) := fun nq => below_drewN (Below.refl _ _) nq
        by_cases hgg : gap ≤ t - pt
        · have HF : Hid (sthin gap (d.sm.take (k + 1)) = T ++ [⟨t, x, y⟩]) := by show _ = _; rw [HNX.out, hstep, if_pos hgg]
          clear hpp hlast hpm hm0 hmm hm1 hstep hptv p0 p1 p2
          go_upto_region 8 with fail
          go_quiet (fail)
          obtain ⟨V2, hV2⟩ : ∃ V, V1.drewN nq = V := ⟨_, rfl⟩
          have hbq := HBQ.out nq
          rw [hV2] at hbq ⊢
          clear hV2 y0 y1 y2 d0
          obtain ⟨y0, y1, y2⟩ := HR4.out V2 hbq
          have HO2 := Lib.hid (HO1.out.below hbq)
          have HB2 : Hid (Below W.heap.size W V2) := HB1'.out.trans (hbq.mono HB1'.out.size)
          go_wp2_with (at_builtin; go_must (refine wpList_append_gs layM (HO2.out.below (bel_al (Below.refl _ _) _)) (lit_smp V2 ⟨t, x, y⟩) elS (by rw [HM.out]; have := HMM.out; simp; omega) (by rw [HM.out]; have := HMM.out; simp; omega) (bel_al HB2.out _).size ?_ _ _ rfl rfl rfl rfl); intro v5 w5 ho5 hg5 hb5 _; have HO5 := Lib.hid ho5; have HG5 := Lib.hid ((bel_al HB2.out _).trans hb5); clear ho5 hg5 hb5)
          go_roundg (sn - (k + 1))
          case rel => exact ⟨k + 1, rfl, by have := HLTK.out; omega, by go_num, by rw [HF.out]; exact HO5, HG5⟩
          case measure => have := HLTK.out; omega
        · have HF : Hid (sthin gap (d.sm.take (k + 1)) = T) := by show _ = _; rw [HNX.out, hstep, if_neg hgg]
          clear hpp hlast hpm hm0 hmm hm1 hstep hptv p0 p1 p2
          go_upto_region 8 with fail
          go_quiet (fail)
          obtain ⟨V2, hV2⟩ : ∃ V, V1.drewN nq = V := ⟨_, rfl⟩
          have hbq := HBQ.out nq
          rw [hV2] at hbq ⊢
          clear hV2 y0 y1 y2 d0
          have HO2 := Lib.hid (HO1.out.below hbq)
          have HB2 : Hid (Below W.heap.size W V2) := HB1'.out.trans (hbq.mono HB1'.out.size)
          go_wp2
          go_roundg (sn - (k + 1))
          case rel => exact ⟨k + 1, rfl, by have := HLTK.out; omega, by go_num, by rw [HF.out]; exact HO2, HB2⟩
          case measure => have := HLTK.out; omega
    · obtain rfl : k = sn := by omega
      have e1 : ¬ (k : Int) < k := by omega
      have hTT : T = sthin gap d.sm := by rw [← hT, List.take_of_length_le (by rw [HSN.out]; exact Nat.le_refl _)]
      have HTT := Lib.hid hTT
      obtain ⟨z0, z1, z2⟩ := HQA.out wr HBR.out
      clear hT hTl hTm hm hlt oix olt ocell hTT
      go_wp2_with fail
      refine (dvwith_any _ _ _ _ _ _ _ _ _ _ _ _ wr).mono ?_
      rintro e w7 ⟨rfl, hb7⟩
      have HB7 := Lib.hid (HBR.out.trans (hb7.mono HBR.out.size))
      have HBW7 := Lib.hid (HBW.out.trans (hb7.mono HBW.out.size))
      have HO7 := Lib.hid (HO.out.below hb7)
      obtain ⟨⟨c0, c1, c2⟩, f0, f1, f2⟩ := HCF.out w7 HB7.out
      clear hb7
      go_wp2
      obtain ⟨Z, hZ⟩ : ∃ Z, chain3 w7 (q + 1) (.slice ta tn tc) (.slice ka kn kc) (.slice oa m oc) = Z := ⟨_, rfl⟩
      have hrow7 := HRC.out w7 HB7.out
      obtain ⟨hz1, hz2⟩ := chain3_row hrow7 (.slice ta tn tc) (.slice ka kn kc) (.slice oa m oc)
      rw [hZ] at hz1 hz2
      unfold chain3 at hZ
      rw [hZ]
      obtain ⟨d0, d1, d2⟩ := three_at hz1
      have hd7 := HH.out.below HBW7.out
      have hdv : Dv Z (.slice ta tn tc) (.slice ka kn kc) (.slice oa m oc) D := by
        rw [HDD.out]
        refine ⟨hd7.tk.only' hz2 fun hl k hk e => Bs.ne_dev hd7.tk hrow7 hl (by rw [hk, e]), hd7.ky.only' hz2 fun hl k hk e => Bs.ne_dev hd7.ky hrow7 hl (by rw [hk, e]), ?_⟩
        show Gs 3 Smp.cells Z (.slice oa m oc) (sthin gap d.sm)
        rw [← HTT.out]
        exact HO7.out.gs.only hz2 fun k hk e => by have h1 := (HO7.out.lt k hk).1; have h2 := heap_lt (HRC.out W (Below.refl _ _)); omega
      have hbf := HBW7.out.trans (hz2.below (B := w.heap.size) (fun k hk => by have := HQ.out; omega) HBW7.out.size)
      refine bodyPost_ret (v := .tuple #[.agg #[.slice ta tn tc, .slice ka kn kc, .slice oa m oc], .int .i64 0]) ?_ rfl ⟨_, _, _, by rw [HEE.out], hdv, hbf⟩
      simp [results, Tryz.results22, go_sem, d0, d1, d2]
end Go.Proofs.YtjnbdeopoohnmaaGreatDoor
