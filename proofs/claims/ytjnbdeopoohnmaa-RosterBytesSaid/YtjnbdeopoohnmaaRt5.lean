/- Layer 56 (roster): clones; Find; the class at a time. -/
import Derived.Test.YtjnbdeopoohnmaaRt4
import Derived.Deep.RegionLaw
import Derived.Deep.DeepCutAuto
import Derived.Deep.CutBlock
import Derived.Lib.QuietBelow
import Derived.Lib.SliceRun
set_option linter.unusedSimpArgs false
namespace Go.Proofs.Ytjnbdeopoohnmaa
open Go.RowKit Go.Sort

theorem Gw.onlyR {α : Type} {s : Nat} {cs : α → List Value} {w w' : World} {B e : Nat} {v : Value} {l : List α} {F : Nat → Prop} (h : Gw s cs w B e v l) (ho : Only F w w') (hd : ∀ k, v.ownBlock = some k → ¬ F k) : Gw s cs w' B e v l := by
  refine ⟨h.1, ?_⟩
  rcases h.2 with h2 | ⟨g, cap, cur, rfl, hb, hg, r⟩
  · exact .inl h2
  · refine .inr ⟨g, cap, cur, rfl, hb, ?_, r⟩
    rw [ho.block g (Array.getElem?_eq_some_iff.1 hg).1 (hd g rfl)]
    exact hg
theorem Gw.tagR {α : Type} {s : Nat} {cs : α → List Value} {w : World} {B e : Nat} {v : Value} {l : List α} (h : Gw s cs w B e v l) : ∀ k, v.ownBlock = some k → ∃ A, w.heap[k]? = some (.cells A e (0, 0)) := by
  rcases h.2 with ⟨rfl, _⟩ | ⟨g, cap, cur, rfl, _, hg, _⟩
  · intro k hk; simp [Value.ownBlock] at hk
  · intro k hk
    simp only [Value.ownBlock, Option.some.injEq] at hk
    subst hk
    exact ⟨_, hg⟩

set_option maxRecDepth 100000 in
theorem aClone_any (y : Value) (m : List AcX) (w : World) (hy : Gs 3 csA w y m) (hm : m.length ≤ 100000) :
    Calls Try.prog 60 #[y] w fun e w' => ∃ v, e = .returned v ∧ Gw 3 csA w' w.heap.size 43 v m ∧ Below w.heap.size w w' := by
  obtain ⟨a, c, hs⟩ := hy.shape
  subst hs
  cases a with
  | none =>
    have hm0 : m = [] ∧ c = 0 := by
      obtain ⟨_, a', c', he, h2, h3, h4, h5⟩ := hy
      simp only [Value.slice.injEq] at he
      obtain ⟨rfl, _, rfl⟩ := he
      have := h4 rfl
      exact ⟨List.eq_nil_of_length_eq_zero (by omega), this⟩
    obtain ⟨rfl, rfl⟩ := hm0
    have hq := fun W => Lib.run_eql_slice_nil (P := Try.prog) W 38 43 none 0 0 0 0 Try.underlying38
    rw [show (([] : List AcX).length) = 0 from rfl]
    go_enter Try.func60, Try.ntmps60
    go_wp2
    go_ret
    exact ⟨_, rfl, Gw.nil _ _ _, Below.refl _ _⟩
  | some ad =>
    have hq := fun W => Lib.run_eql_slice_nil (P := Try.prog) W 38 43 (some ad) m.length c 0 0 Try.underlying38
    have hal : Below w.heap.size w (w.alloc (.cells #[] 43)) := (Below.refl _ _).alloc (Nat.le_refl _) _
    have hown : Gw 3 csA (w.alloc (.cells #[] 43)) w.heap.size 43 (.slice (some ⟨w.heap.size, 0, none⟩) 0 0) [] := gw_lit layA w 43 #[] [] 0 rfl (by decide) rfl
    have hrd := hy.below hal
    have hz := hal.size
    go_enter Try.func60, Try.ntmps60
    go_wp2_with (at_builtin; go_must (refine wpList_append_gs layA hown hrd elA (by simp; omega) (by simp; omega) hz ?_ _ _ rfl rfl rfl rfl); intro v3 w3 ho3 hg3 hb3 _)
    go_ret
    refine ⟨_, rfl, ?_, hal.trans hb3⟩
    simpa using ho3

set_option maxRecDepth 100000 in
theorem sClone_any (y : Value) (m : List SpT) (w : World) (hy : Gs 2 csS w y m) (hm : m.length ≤ 100000) :
    Calls Try.prog 57 #[y] w fun e w' => ∃ v, e = .returned v ∧ Gw 2 csS w' w.heap.size 49 v m ∧ Below w.heap.size w w' := by
  obtain ⟨a, c, hs⟩ := hy.shape
  subst hs
  cases a with
  | none =>
    have hm0 : m = [] ∧ c = 0 := by
      obtain ⟨_, a', c', he, h2, h3, h4, h5⟩ := hy
      simp only [Value.slice.injEq] at he
      obtain ⟨rfl, _, rfl⟩ := he
      have := h4 rfl
      exact ⟨List.eq_nil_of_length_eq_zero (by omega), this⟩
    obtain ⟨rfl, rfl⟩ := hm0
    have hq := fun W => Lib.run_eql_slice_nil (P := Try.prog) W 41 49 none 0 0 0 0 Try.underlying41
    rw [show (([] : List SpT).length) = 0 from rfl]
    go_enter Try.func57, Try.ntmps57
    go_wp2
    go_ret
    exact ⟨_, rfl, Gw.nil _ _ _, Below.refl _ _⟩
  | some ad =>
    have hq := fun W => Lib.run_eql_slice_nil (P := Try.prog) W 41 49 (some ad) m.length c 0 0 Try.underlying41
    have hal : Below w.heap.size w (w.alloc (.cells #[] 49)) := (Below.refl _ _).alloc (Nat.le_refl _) _
    have hown : Gw 2 csS (w.alloc (.cells #[] 49)) w.heap.size 49 (.slice (some ⟨w.heap.size, 0, none⟩) 0 0) [] := gw_lit layS w 49 #[] [] 0 rfl (by decide) rfl
    have hrd := hy.below hal
    have hz := hal.size
    go_enter Try.func57, Try.ntmps57
    go_wp2_with (at_builtin; go_must (refine wpList_append_gs layS hown hrd elS (by simp; omega) (by simp; omega) hz ?_ _ _ rfl rfl rfl rfl); intro v3 w3 ho3 hg3 hb3 _)
    go_ret
    refine ⟨_, rfl, ?_, hal.trans hb3⟩
    simpa using ho3


/-- an account with other spells -/
def FindPost (w : World) (l : List AcX) (id : Int) (e : Ending) (w' : World) : Prop :=
  (∃ r y ok, AIdx l id r ∧ e = .returned (.tuple #[AcX.agg y, .bool ok]) ∧ Below w.heap.size w w' ∧ (ok = false → r = none ∧ y = (⟨0, 0, []⟩, (none, 0, 0))) ∧ (ok = true → ∃ k x, r = some k ∧ l[k]? = some x ∧ y.1 = x.1 ∧ AcV w' y))

set_option maxRecDepth 100000 in
set_option maxHeartbeats 1600000 in
theorem rtFind_any (v : Value) (l : List AcX) (id : Int) (w : World) (h : Acs w v l) (hl : ∀ x ∈ l, x.1.sp.length ≤ 100000) : Calls Try.prog 24 #[v, .int .i64 id] w (FindPost w l id) := by
  unfold FindPost
  obtain ⟨q, hq⟩ : ∃ q, w.heap.size = q := ⟨_, rfl⟩
  obtain ⟨n, hn⟩ : ∃ n, l.length = n := ⟨_, rfl⟩
  obtain ⟨a, c, b, o, rfl, h1, h2, hix, hlt', hcell, -⟩ := h.1.open_n layA elA n hn
  have HG := Lib.hid h
  have HC := Lib.hid hcell
  have HN := Lib.hid hn
  have HLT := Lib.hid hlt'
  have HL := Lib.hid hl
  have HIX := Lib.hid hix
  clear h hn hcell hlt' hl hix
  obtain ⟨W0, hW0⟩ : ∃ W, (w.alloc (.cells #[.int .i64 id] 3)).alloc (.cells #[.int .i64 0, .int .i64 0, .slice none 0 0] 43) = W := ⟨_, rfl⟩
  have hb0 : Below w.heap.size w W0 := by rw [← hW0]; exact ((Below.refl _ _).alloc (Nat.le_refl _) _).alloc (by simp) _
  have hq0 : W0.heap[q]? = some (.cells #[.int .i64 id] 3 (0, 0)) := by
    rw [← hW0, ← hq]
    exact (((Below.refl _ (w.alloc (.cells #[.int .i64 id] 3))).alloc (Nat.le_refl _) (.cells #[.int .i64 0, .int .i64 0, .slice none 0 0] 43)).block _ (by simp)).trans (heap_alloc_new _ _)
  have hr0 : W0.heap[q + 1]? = some (.cells #[.int .i64 0, .int .i64 0, .slice none 0 0] 43 (0, 0)) := by
    rw [← hW0]
    have := heap_alloc_new (w.alloc (.cells #[.int .i64 id] 3)) (.cells #[.int .i64 0, .int .i64 0, .slice none 0 0] 43)
    rwa [show (w.alloc (.cells #[.int .i64 id] 3)).heap.size = q + 1 by simp [hq]] at this
  have CI := Lib.hid (rtIdx_any (.slice a n c) l id q W0 (HG.out.1.below hb0) (cell_of_row W0 _ _ _ _ _ hq0))
  have HB0 := Lib.hid hb0
  have HR0 := Lib.hid hr0
  clear hq0 hr0 hb0
  go_enter Try.func24, Try.ntmps24
  go_wp2_with fail
  refine CI.out.mono ?_
  rintro e w2 ⟨r, hr, rfl, hb2⟩
  have HB2 := Lib.hid (HB0.out.trans (hb2.mono HB0.out.size))
  have hrow := (hb2.block _ (heap_lt HR0.out)).trans HR0.out
  have HROW := Lib.hid hrow
  have hz := acct_cells hrow
  obtain ⟨z0, z1, z2⟩ := hz
  have f0 := row_free hrow 0
  have f1 := row_free hrow 1
  have f2 := row_free hrow 2
  have HRI := Lib.hid hr
  have hqs : q + 1 < w2.heap.size := heap_lt hrow
  have HQS := Lib.hid hqs
  clear hb2 hrow hr hqs CI hW0
  cases r with
  | none =>
    have e1 : aiV none = -1 := rfl
    rw [e1]
    have o1 : Only (fun k => k = q + 1) w2 (((w2.setCell ⟨q + 1, 0, none⟩ (.int .i64 0)).setCell ⟨q + 1, 1, none⟩ (.int .i64 0)).setCell ⟨q + 1, 2, none⟩ (.slice none 0 0)) := ((set_only w2 (q + 1) 0 _).trans (set_only _ (q + 1) 1 _)).trans (set_only _ (q + 1) 2 _)
    have hfin := HB2.out.trans (o1.below (B := w.heap.size) (fun k hk => by omega) HB2.out.size)
    have HFIN := Lib.hid hfin
    have hrow3 := row_setCell (row_setCell (row_setCell HROW.out 0 (.int .i64 0)) 1 (.int .i64 0)) 2 (.slice none 0 0)
    have hz3 := acct_cells hrow3
    have HZ3 := Lib.hid hz3
    clear o1 hfin hrow3 hz3
    go_wp2
    obtain ⟨c0, c1, c2⟩ := HZ3.out
    refine bodyPost_ret (v := .tuple #[.agg #[.int .i64 0, .int .i64 0, .slice none 0 0], .bool false]) ?_ rfl ?_
    · simp [results, Try.results24, go_sem, c0, c1, c2]
    · exact ⟨none, (⟨0, 0, []⟩, (none, 0, 0)), false, HRI.out, rfl, HFIN.out, fun _ => ⟨rfl, rfl⟩, fun h => by cases h⟩
  | some k =>
    have hk := HRI.out
    obtain ⟨⟨x, hx, hid⟩, hno⟩ := hk
    have e1 : ¬ (k : Int) < 0 := by omega
    have e0 : aiV (some k) = (k : Int) := rfl
    rw [e0]
    have hkn : k < n := by rw [← HN.out]; exact (List.getElem?_eq_some_iff.1 hx).1
    have hixk := fun W => HIX.out W k hkn
    have m0 := HC.out k x hx 0 _ rfl
    have m1 := HC.out k x hx 1 _ rfl
    have m2 := HC.out k x hx 2 _ rfl
    rw [Nat.add_zero] at m0
    have hbl := HLT.out k hkn
    rw [← HB2.out.cell (by exact hbl)] at m0 m1 m2
    have hxv := (HG.out.below HB2.out).2 x (List.mem_of_getElem? hx)
    have hxl := HL.out x (List.mem_of_getElem? hx)
    have HX := Lib.hid hx
    have HXV := Lib.hid hxv
    obtain ⟨⟨xid, bl, sp⟩, ⟨xa, xn, xc⟩⟩ := x
    unfold Sl3.v at m2
    simp only at m0 m1 m2 hxl
    obtain ⟨p, hp⟩ : ∃ p, w2.heap.size = p := ⟨_, rfl⟩
    obtain ⟨W3, hW3⟩ : ∃ W, w2.alloc (.cells #[.int .i64 xid, .int .i64 bl, .slice xa xn xc] 43) = W := ⟨_, rfl⟩
    have hr3 : W3.heap[p]? = some (.cells #[.int .i64 xid, .int .i64 bl, .slice xa xn xc] 43 (0, 0)) := by rw [← hW3, ← hp]; exact heap_alloc_new _ _
    have hb3 : Below w2.heap.size w2 W3 := by rw [← hW3]; exact (Below.refl _ _).alloc (Nat.le_refl _) _
    have CC : Hid (Calls Try.prog 57 #[.slice xa xn xc] W3 fun e w' => ∃ v, e = .returned v ∧ Gw 2 csS w' W3.heap.size 49 v sp ∧ Below W3.heap.size W3 w') := sClone_any (.slice xa xn xc) sp W3 (hxv.1.below hb3) hxl
    have HR3 := Lib.hid hr3
    have HB3 := Lib.hid hb3
    have hq3 := (hb3.block _ (heap_lt HROW.out)).trans HROW.out
    have HQ3 := Lib.hid hq3
    have hpq : q + 1 < p := by rw [← hp]; exact HQS.out
    obtain ⟨y0, y1, y2⟩ := acct_cells hr3
    clear hx hid hno hbl hxv hxl hr3 hb3 hq3 hkn f0 f1 f2 z0 z1 z2
    go_wp2_with fail
    refine CC.out.mono ?_
    rintro e w4 ⟨v4, rfl, hg4, hb4⟩
    obtain ⟨a4, c4, rfl⟩ := hg4.gs.shape
    obtain ⟨m4, hm4⟩ : ∃ m, sp.length = m := ⟨_, rfl⟩
    rw [hm4] at hg4 ⊢
    have HG4 := Lib.hid hg4
    have HM4 := Lib.hid hm4
    clear hg4 hm4
    have hr4 := (hb4.block _ (heap_lt HR3.out)).trans HR3.out
    have hq4 := (hb4.block _ (heap_lt HQ3.out)).trans HQ3.out
    have o1 : Only (fun k => k = p) w4 (w4.setCell ⟨p, 2, none⟩ (.slice a4 m4 c4)) := set_only w4 p 2 _
    have hr5 := row_setCell hr4 2 (.slice a4 m4 c4)
    have hq5 := (o1.block _ (heap_lt hq4) (by omega)).trans hq4
    have y2' := row_free hr4 2
    obtain ⟨t0, t1, t2⟩ := acct_cells hr5
    obtain ⟨s0, s1, s2⟩ := acct_cells hr4
    have g0 := row_free hq5 0
    have g1 := row_free hq5 1
    have g2 := row_free hq5 2
    obtain ⟨u0, u1, u2⟩ := acct_cells hq5
    have o2 : Only (fun k => k = p ∨ k = q + 1) w4 ((((w4.setCell ⟨p, 2, none⟩ (.slice a4 m4 c4)).setCell ⟨q + 1, 0, none⟩ (.int .i64 xid)).setCell ⟨q + 1, 1, none⟩ (.int .i64 bl)).setCell ⟨q + 1, 2, none⟩ (.slice a4 m4 c4)) :=
      (((o1.mono (fun _ _ h => .inl h)).trans ((set_only _ (q + 1) 0 _).mono (fun _ _ h => .inr h))).trans ((set_only _ (q + 1) 1 _).mono (fun _ _ h => .inr h))).trans ((set_only _ (q + 1) 2 _).mono (fun _ _ h => .inr h))
    have hrow6 := row_setCell (row_setCell (row_setCell hq5 0 (.int .i64 xid)) 1 (.int .i64 bl)) 2 (.slice a4 m4 c4)
    have hp3 : p < W3.heap.size := heap_lt HR3.out
    have hbel : Below w.heap.size w ((((w4.setCell ⟨p, 2, none⟩ (.slice a4 m4 c4)).setCell ⟨q + 1, 0, none⟩ (.int .i64 xid)).setCell ⟨q + 1, 1, none⟩ (.int .i64 bl)).setCell ⟨q + 1, 2, none⟩ (.slice a4 m4 c4)) := by
      have h4 := (HB2.out.trans (HB3.out.mono HB2.out.size)).trans (hb4.mono (HB2.out.trans (HB3.out.mono HB2.out.size)).size)
      exact h4.trans (o2.below (fun k hk => by omega) h4.size)
    have hgs := (HG4.out.onlyR o2 (fun k hk hf => by have := (HG4.out.lt k hk).1; omega)).gs
    have HZ6 := Lib.hid (acct_cells hrow6)
    have HBEL := Lib.hid hbel
    have HGS := Lib.hid hgs
    clear y0 y1 y2 o1 o2 hrow6 hbel hgs hr4 hq4 hr5 hq5 hb4 CC
    go_wp2
    obtain ⟨d0, d1, d2⟩ := HZ6.out
    refine bodyPost_ret (v := .tuple #[.agg #[.int .i64 xid, .int .i64 bl, .slice a4 m4 c4], .bool true]) ?_ rfl ?_
    · simp [results, Try.results24, go_sem, d0, d1, d2]
    · exact ⟨some k, (⟨xid, bl, sp⟩, (a4, m4, c4)), true, HRI.out, rfl, HBEL.out, (fun h => by cases h), fun _ => ⟨k, _, rfl, HX.out, rfl, HGS.out, HXV.out.2⟩⟩
end Go.Proofs.Ytjnbdeopoohnmaa
