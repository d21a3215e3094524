/- Layer 19 (version): Publish. -/
import Derived.Test.YtbonapdainlpjaaVe12
import Derived.Deep.RegionLaw
import Derived.Deep.DeepCutAuto
import Derived.Deep.CutBlock
import Derived.Lib.QuietBelow
set_option linter.unusedSimpArgs false
namespace Go.Proofs.Ytbonapdainlpjaa
open Go.RowKit Go.Sort

section
variable {α : Type} {s : Nat} {cs : α → List Value} {P : Program} {t e : TypeId} {z : Value} {bytes : Nat} {ops : Array Oper} {o : Oper} {a : Act} {Q : Exit → Act → World → Prop} {base : Nat} {v : Value} {l : List α} {w : World}
theorem step_append_gs2 {K : Act → World → Prop} {F : Prop} (L : Lay s cs) (hown : Gw s cs w base e v l) {y : Value} {m : List α} (hrd : Gs s cs w y m) (E : ElTy P t e z s bytes) (h63 : (l.length + m.length) * bytes ≤ 140737488355328) (hmx : l.length + m.length ≤ 9223372036854775807) (hbase : base ≤ w.heap.size)
    (h : ∀ v' w', Gw s cs w' base e v' (l ++ m) → Below base w w' → w.grownBy w' v.ownBlock → K (a.put o.dst v') w')
    (so xo : Operand) (hgd : o.guard = none) (ho : o.op = .call { callee := .builtin .append, args := #[so, xo], argTypes := #[t, t] })
    (hs : a.eval so = v) (hx : a.eval xo = y) : if Region.wanted o (yielded ops a.tmps) = true then Oper.wp P o a w K Q else F := by
  have hw : Region.wanted o (yielded ops a.tmps) = true := by simp [Region.wanted, hgd]
  rw [if_pos hw]
  refine wp_append_mv so xo t ho E base v l.length (gcells cs l) y m.length (gcells cs m) hs hown hx hrd (gcells_one L m) (by simpa [maxLen] using hmx) h63 hbase ?_
  intro v' w' h1 h2 h3
  refine h v' w' ?_ ((Below.refl _ _).grown h2 hbase fun k hk => (World.ownsRow.lt hown k hk).1) h2
  unfold Gw
  rw [gcells_append, List.length_append]
  exact h1
end

theorem bl_dr {a w : World} {B : Nat} (h : Below B a w) : Below B a w.drew := h.drew
theorem bl_al {a w : World} (h : Below a.heap.size a w) (ob : Obj) : Below a.heap.size a (w.alloc ob) := h.alloc h.size ob

def vLate (l : List NetX) (ver : Int) : Bool := match l[l.length - 1]? with | none => false | some x => decide (ver ≤ x.1.ver)
def pubE (l : List NetX) (n : Net) : Int :=
  if netE n ≠ 0 then netE n else if vright (vers l) = false ∨ vLate l n.ver = true then 2 else if l.length = 64 then 3 else 0
def PubPost (l : List NetX) (x : NetX) (w : World) (e : Ending) (w' : World) : Prop :=
  (∃ v, e = .returned (.tuple #[v, .int .i64 (pubE l x.1)]) ∧ (pubE l x.1 ≠ 0 → v = .slice none 0 0) ∧ (pubE l x.1 = 0 → Nets w' v (l ++ [x]))) ∧ Below w.heap.size w w'

set_option maxRecDepth 100000 in
set_option maxHeartbeats 1600000 in
theorem vPublish_any (v : Value) (l : List NetX) (x : NetX) (w : World) (h : Nets w v l) (hx : NetV w x.1 (Sl3.v x.2.1) (Sl3.v x.2.2)) (hl : l.length ≤ 1000) : Calls Try.prog 71 #[v, x.agg] w (PubPost l x w) := by
  unfold PubPost
  obtain ⟨n, hn⟩ : ∃ n, l.length = n := ⟨_, rfl⟩
  have HH := Lib.hid h
  obtain ⟨a, c, hs⟩ := h.1.shape
  subst hs
  rw [hn] at HH hl ⊢
  obtain ⟨E, hE⟩ : ∃ E, pubE l x.1 = E := ⟨_, rfl⟩
  have HE := Lib.hid hE
  have HHX := Lib.hid hx
  rw [hE]
  obtain ⟨W, hW⟩ : ∃ V, w.alloc (.cells #[.int .i64 x.1.ver, Sl3.v x.2.1, Sl3.v x.2.2] 95) = V := ⟨_, rfl⟩
  obtain ⟨q, hq⟩ : ∃ q, w.heap.size = q := ⟨_, rfl⟩
  have hB : Below w.heap.size w W := by rw [← hW]; exact (Below.refl _ _).alloc (Nat.le_refl _) _
  have hr : W.heap[q]? = some (.cells #[.int .i64 x.1.ver, Sl3.v x.2.1, Sl3.v x.2.2] 95 (0, 0)) := by rw [← hW, ← hq]; exact heap_alloc_new _ _
  have HW := Lib.hid hW
  have HQ := Lib.hid hq
  have HR := Lib.hid hr
  have HB := Lib.hid hB
  have HN := Lib.hid hn
  obtain ⟨s0, s1, s2⟩ := net_cells hr
  have C1 := Lib.hid (gCheck_any x.1 _ _ W (hx.below hB))
  have C2 := Lib.hid (fun (V : World) (hV : Below w.heap.size w V) => vAll_any _ _ V (HH.out.below hV) (by rw [HN.out]; exact hl))
  have C4 := Lib.hid (fun (V : World) (hV : Below w.heap.size w V) => vClone_any _ _ V ((HH.out.below hV).1) (by rw [HN.out]; exact hl))
  obtain ⟨⟨ver, st, ln⟩, ⟨xa, xn, xc⟩, ⟨ya, yn, yc⟩⟩ := x
  unfold NetX.agg at *
  unfold Net.agg at *
  unfold Sl3.v at *
  simp only at *
  obtain ⟨ne, hne⟩ : ∃ e, netE ⟨ver, st, ln⟩ = e := ⟨_, rfl⟩
  have HNE := Lib.hid hne
  rw [hne] at C1
  have HL := Lib.hid hl
  clear h hx hn hE hne hW hq hr hB hl
  go_enter Try.func71, Try.ntmps71
  go_upto_region 1 with fail
  rw [HW.out, HQ.out]
  go_wp2_with fail
  refine C1.out.mono ?_
  rintro e w2 ⟨rfl, hb2⟩
  have hb02 := HB.out.trans (hb2.mono HB.out.size)
  have HB02 := Lib.hid hb02
  have HB2 := Lib.hid hb2
  by_cases h0 : ne = 0
  · have e0 : (ne != 0) = false := by simpa using h0
    have HH0 := Lib.hid h0
    clear hb02 hb2 h0
    go_wp2_with fail
    refine (C2.out w2 HB02.out).mono ?_
    rintro e w3 ⟨vv, rfl, hg, hb3⟩
    have hb03 := HB02.out.trans (hb3.mono HB02.out.size)
    have HB03 := Lib.hid hb03
    have hr3 := (hb3.block q (heap_lt ((HB2.out.block q (heap_lt HR.out)).trans HR.out))).trans ((HB2.out.block q (heap_lt HR.out)).trans HR.out)
    have HR3 := Lib.hid hr3
    have hlen : (vers l).length = n := by unfold vers; rw [List.length_map]; exact HN.out
    obtain ⟨a3, c3, b3, o3, rfl, k1, k2, hix, hlt, hcell, -⟩ := hg.gs.open_n layN elVI n hlen
    have C3 := Lib.hid (fun (V : World) (hV : Below w3.heap.size w3 V) => vRight_any _ _ V (hg.gs.below hV))
    obtain ⟨rt, hrt⟩ : ∃ r, vright (vers l) = r := ⟨_, rfl⟩
    rw [hrt] at C3
    have HRT := Lib.hid hrt
    have HC := Lib.hid hcell
    have HLT := Lib.hid hlt
    obtain ⟨t0, t1, t2⟩ := net_cells hr3
    have r0 := fun d os => cell_regrown t0 d os
    have r1 := fun d os => cell_regrown t1 d os
    have r2 := fun d os => cell_regrown t2 d os
    clear s0 s1 s2 hb03 hb3 hr3 hrt hcell hlt hg hlen
    have HVL : Hid (∀ y, l[n - 1]? = some y → vLate l ver = decide (ver ≤ y.1.ver)) := fun y hy => by unfold vLate; rw [HN.out, hy]
    have HV0 : Hid (n = 0 → vLate l ver = false) := fun h => by
      have hl0 : l = [] := List.eq_nil_of_length_eq_zero (by rw [HN.out]; exact h)
      unfold vLate; rw [hl0]; rfl
    obtain ⟨late, hlate⟩ : ∃ b, vLate l ver = b := ⟨_, rfl⟩
    rw [hlate] at HVL HV0
    have HLATE := Lib.hid hlate
    clear hlate
    obtain ⟨bad, hbad⟩ : ∃ b, (!rt || late) = b := ⟨_, rfl⟩
    have HBAD := Lib.hid hbad
    clear hbad
    have hE2 : Hid (E = if bad = true then 2 else if n = 64 then 3 else 0) := by
      show E = _
      rw [← HE.out, ← HBAD.out, ← HLATE.out, ← HRT.out]
      unfold pubE
      simp only
      rw [HNE.out, HH0.out, if_neg (by decide), HN.out]
      congr 1
      simp
    go_upto_region 5 with fail
    go_cut [15] (fun c wx => c = .bool bad ∧ Hid (Below w3.heap.size w3 wx))
    case first =>
      clear t0 t1 t2
      cases rt with
      | false =>
        have hb : bad = true := by rw [← HBAD.out]; rfl
        refine wp_region_quiet_below (by kernel_rfl) (by kernel_rfl) ?_
        repeat (go_big_quiet_step ((go_at_call 75; exact Calls.regrown_of (C3.out _ (below_regrown _ _ _)))))
        refine wpQuiet_nil ?_
        intro _ hw'
        obtain ⟨⟨dq, osq⟩, hw''⟩ := hw'
        subst hw''
        have HB5 := below_regrown w3 dq osq
        obtain ⟨W5, hwq⟩ : ∃ x, x = grow (redrawn w3 dq) osq := ⟨_, rfl⟩
        rw [← hwq] at HB5 ⊢
        clear hwq
        go_wp2
        go_meet
        case rel => exact ⟨by rw [hb], HB5⟩
      | true =>
        have hbl : bad = late := by rw [← HBAD.out]; rfl
        by_cases hn0 : 0 < n
        · obtain ⟨y, hy⟩ : ∃ y, l[n - 1]? = some y := ⟨_, List.getElem?_eq_getElem (by have := HN.out; omega)⟩
          have hvl := HVL.out y hy
          have hyv : (vers l)[n - 1]? = some y.1.ver := by unfold vers; rw [List.getElem?_map, hy]; rfl
          have m0 := HC.out (n - 1) _ hyv 0 _ rfl
          rw [Nat.add_zero] at m0
          obtain ⟨yv, hyy⟩ : ∃ z, y.1.ver = z := ⟨_, rfl⟩
          rw [hyy] at hvl m0
          have mr := fun d os => cell_regrown m0 d os
          have hixp : ∀ V : World, (Instr.indexAt 106 (.slice a3 n c3) (.int .i64 ((n : Int) - 1))).run Try.prog V = .ok (.pointer (some ⟨b3, o3 (n - 1), none⟩)) V := fun V => by
            have := hix V (n - 1) (by omega)
            rwa [show (((n - 1 : Nat)) : Int) = (n : Int) - 1 by omega] at this
          have hsub : IntKind.i64.wrap ((n : Int) - 1) = (n : Int) - 1 := by rw [IntKind.wrap_i64]; have := HL.out; omega
          have e1 : (1 : Int) ≤ n := by omega
          clear hy hyv m0 hyy
          by_cases hle : ver ≤ yv
          · have hb : bad = true := by rw [hbl, hvl]; exact decide_eq_true hle
            clear hvl hbl
            refine wp_region_quiet_below (by kernel_rfl) (by kernel_rfl) ?_
            repeat (go_big_quiet_step ((go_at_call 75; exact Calls.regrown_of (C3.out _ (below_regrown _ _ _)))))
            refine wpQuiet_nil ?_
            intro _ hw'
            obtain ⟨⟨dq, osq⟩, hw''⟩ := hw'
            subst hw''
            have HB5 := below_regrown w3 dq osq
            obtain ⟨W5, hwq⟩ : ∃ x, x = grow (redrawn w3 dq) osq := ⟨_, rfl⟩
            rw [← hwq] at HB5 ⊢
            clear hwq
            go_wp2
            go_meet
            case rel => exact ⟨by rw [hb], HB5⟩
          · have hb : bad = false := by rw [hbl, hvl]; exact decide_eq_false hle
            clear hvl hbl
            refine wp_region_quiet_below (by kernel_rfl) (by kernel_rfl) ?_
            repeat (go_big_quiet_step ((go_at_call 75; exact Calls.regrown_of (C3.out _ (below_regrown _ _ _)))))
            refine wpQuiet_nil ?_
            intro _ hw'
            obtain ⟨⟨dq, osq⟩, hw''⟩ := hw'
            subst hw''
            have HB5 := below_regrown w3 dq osq
            obtain ⟨W5, hwq⟩ : ∃ x, x = grow (redrawn w3 dq) osq := ⟨_, rfl⟩
            rw [← hwq] at HB5 ⊢
            clear hwq
            go_wp2
            go_meet
            case rel => exact ⟨by rw [hb], HB5⟩
        · have hb : bad = false := by rw [hbl]; exact HV0.out (by omega)
          have e1 : decide (0 < n) = false := by simpa using hn0
          clear hbl hn0
          refine wp_region_quiet_below (by kernel_rfl) (by kernel_rfl) ?_
          repeat (go_big_quiet_step ((go_at_call 75; exact Calls.regrown_of (C3.out _ (below_regrown _ _ _)))))
          refine wpQuiet_nil ?_
          intro _ hw'
          obtain ⟨⟨dq, osq⟩, hw''⟩ := hw'
          subst hw''
          have HB5 := below_regrown w3 dq osq
          obtain ⟨W5, hwq⟩ : ∃ x, x = grow (redrawn w3 dq) osq := ⟨_, rfl⟩
          rw [← hwq] at HB5 ⊢
          clear hwq
          go_wp2
          go_meet
          case rel => exact ⟨by rw [hb], HB5⟩
    case rest =>
      obtain ⟨rfl, HB5⟩ := hcut
      have hb05 := HB03.out.trans (HB5.out.mono HB03.out.size)
      have HB05 := Lib.hid hb05
      cases bad with
      | true =>
        have he : E = 2 := by rw [hE2.out]; rfl
        have HEE := Lib.hid he
        clear he
        go_wp2
        go_ret2
        refine ⟨⟨_, by rw [HEE.out]; rfl, fun _ => rfl, fun h => absurd h (by rw [HEE.out]; decide)⟩, HB05.out⟩
      | false =>
        by_cases h64 : n = 64
        · have he : E = 3 := by rw [hE2.out, if_pos h64]; rfl
          have HEE := Lib.hid he
          have e64 : ((n : Int) == 64) = true := by simp; omega
          clear he h64
          go_wp2
          go_ret2
          refine ⟨⟨_, by rw [HEE.out]; rfl, fun _ => rfl, fun h => absurd h (by rw [HEE.out]; decide)⟩, HB05.out⟩
        · have he : E = 0 := by rw [hE2.out, if_neg h64]; rfl
          have HEE := Lib.hid he
          have e64 : ((n : Int) == 64) = false := by simp; omega
          clear he h64
          have hR5 := (HB5.out.block q (heap_lt HR3.out)).trans HR3.out
          obtain ⟨s0, s1, s2⟩ := net_cells hR5
          have CL := Lib.hid (fun (V : World) (hV : Below wc.heap.size wc V) => C4.out V (HB05.out.trans (hV.mono HB05.out.size)))
          have CQ := Lib.hid (fun (V : World) (hV : Below wc.heap.size wc V) => net_cells ((hV.block q (heap_lt hR5)).trans hR5))
          have HLN : Hid (l.length = n) := HN
          go_upto_region 9 with fail
          go_region_law (first
            | (refine step_append_gs2 layX (hg6.below (bl_al (Below.refl _ _) _)) (gw_lit layX w6 95 #[.int .i64 ver, .slice xa xn xc, .slice ya yn yc] [(⟨ver, st, ln⟩, (xa, xn, xc), (ya, yn, yc))] 1 rfl (by decide) rfl).gs elNet (by have := HL.out; have := HN.out; simp; omega) (by have := HL.out; have := HN.out; simp; omega) (by have := hb6.size; simp at this ⊢; omega) ?_ _ _ rfl rfl rfl rfl; intro v8 w8 hg8 hb8 _; have H8 := Lib.hid hg8; have HB8 := Lib.hid (Below.trans (a := wc) (by repeat (first | exact hb56 | exact Below.refl _ _ | refine bl_dr ?_ | refine bl_al ?_ _)) (hb8.mono (by simp))); clear hg8 hb8)
            | (refine step_append_gs2 layX hg6 ((gw_lit layX wc.drew 95 #[.int .i64 ver, .slice xa xn xc, .slice ya yn yc] [(⟨ver, st, ln⟩, (xa, xn, xc), (ya, yn, yc))] 1 rfl (by decide) rfl).gs.below hb6) elNet (by have := HL.out; have := HN.out; simp; omega) (by have := HL.out; have := HN.out; simp; omega) (by have := hb6.size; simp at this ⊢; omega) ?_ _ _ rfl rfl rfl rfl; intro v8 w8 hg8 hb8 _; have H8 := Lib.hid hg8; have HB8 := Lib.hid (Below.trans (a := wc) (by repeat (first | exact hb56 | exact Below.refl _ _ | refine bl_dr ?_ | refine bl_al ?_ _)) (hb8.mono (by simp))); clear hg8 hb8)
            | (go_simp; go_at_call 106; refine (CL.out _ (by repeat (first | exact Below.refl _ _ | refine bl_dr ?_ | refine bl_al ?_ _))).mono ?_; rintro e w6 ⟨v6, rfl, hg6, hb6⟩; have hb56 : Below wc.heap.size wc w6 := Below.trans (by repeat (first | exact Below.refl _ _ | refine bl_dr ?_ | refine bl_al ?_ _)) (hb6.mono (by simp)); obtain ⟨t0, t1, t2⟩ := CQ.out _ hb56))
          all_goals
            go_wp2
            go_ret2
            refine ⟨⟨_, by rw [HEE.out]; rfl, fun h => absurd HEE.out h, fun _ => ⟨H8.out.gs, fun x hx => ?_⟩⟩, HB05.out.trans (HB8.out.mono HB05.out.size)⟩
            have hbb := HB05.out.trans (HB8.out.mono HB05.out.size)
            rcases List.mem_append.1 hx with hx | hx
            · exact (HH.out.2 x hx).below hbb
            · simp only [List.mem_singleton] at hx
              subst hx
              exact HHX.out.below hbb
  · have hE1 : E = ne := by
      rw [← HE.out]; unfold pubE; simp only; rw [HNE.out, if_pos h0]
    have e0 : (ne != 0) = true := by simpa using h0
    have HEE := Lib.hid hE1
    have HH0 := Lib.hid h0
    clear hE1 hb02 hb2 h0
    go_wp2
    go_ret2
    exact ⟨⟨_, by rw [HEE.out]; rfl, fun _ => rfl, fun h => absurd (HEE.out.symm.trans h) HH0.out⟩, HB02.out⟩

end Go.Proofs.Ytbonapdainlpjaa
