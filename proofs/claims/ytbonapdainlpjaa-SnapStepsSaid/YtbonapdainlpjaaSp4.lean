/- Layer 36 (snap): a journal in the heap; its small methods. -/
import Derived.Test.YtbonapdainlpjaaSp3
import Derived.Deep.RegionLaw
set_option linter.unusedSimpArgs false
namespace Go.Proofs.Ytbonapdainlpjaa
open Go.RowKit Go.Sort

/-- a log, and where it lies -/
structure LV where
  lg : Nat
  bb : Nat
  bc : Nat
  vr : Value
  ps : List Rc
  d : Lg
def LV.At (L : LV) (w : World) (B g : Nat) : Prop := LoAt w B L.lg L.bb L.bc g L.vr L.ps L.d
def LV.all (L : LV) (k : Nat) : Prop := loAll L.lg L.bb L.vr L.ps k
def bi (u : Bool) : Nat := if u then 1 else 0
def joRow (l0 l1 : Nat) (u : Bool) (h : Nat) (dead : Bool) : Array Value := #[.pointer (some ⟨l0, 0, none⟩), .pointer (some ⟨l1, 0, none⟩), .int .i64 (bi u : Nat), .int .i64 (h * 64 : Nat), .bool dead]

structure JAt (w : World) (B jp g : Nat) (L : Bool → LV) (u : Bool) (h : Nat) (dead : Bool) : Prop where
  low : B ≤ jp
  row : w.heap[jp]? = some (.cells (joRow (L false).lg (L true).lg u h dead) 139 (0, 0))
  lo : ∀ i, (L i).At w B g
  ap : ∀ k, (L false).all k → ¬ (L true).all k
  h1 : 1 ≤ h
  h2 : h ≤ 16384
  fr : ∀ i, (L i).d.fr = bi i * h
  nn : ∀ i, (L i).d.n = h

section
variable {w w' : World} {B jp g gb : Nat} {fo : Option Nat} {s : BSt} {L : Bool → LV} {u : Bool} {h : Nat} {dead : Bool}
theorem JAt.below (hj : JAt w B jp g L u h dead) (hb : Below w.heap.size w w') : JAt w' B jp g L u h dead :=
  ⟨hj.low, (hb.block _ (heap_lt hj.row)).trans hj.row, fun i => LoAt.below (hj.lo i) hb, hj.ap, hj.h1, hj.h2, hj.fr, hj.nn⟩
theorem JAt.cell (hj : JAt w B jp g L u h dead) (j : Nat) : w.cell? ⟨jp, j, none⟩ = (joRow (L false).lg (L true).lg u h dead)[j]? := cell_of_row w jp j _ _ _ hj.row
theorem JAt.cells (hj : JAt w B jp g L u h dead) : w.cell? ⟨jp, 0, none⟩ = some (.pointer (some ⟨(L false).lg, 0, none⟩)) ∧ w.cell? ⟨jp, 1, none⟩ = some (.pointer (some ⟨(L true).lg, 0, none⟩)) ∧
    w.cell? ⟨jp, 2, none⟩ = some (.int .i64 (bi u : Nat)) ∧ w.cell? ⟨jp, 3, none⟩ = some (.int .i64 (h * 64 : Nat)) ∧ w.cell? ⟨jp, 4, none⟩ = some (.bool dead) := ⟨hj.cell 0, hj.cell 1, hj.cell 2, hj.cell 3, hj.cell 4⟩
theorem JAt.cellU (hj : JAt w B jp g L u h dead) (i : Bool) : w.cell? ⟨jp, bi i, none⟩ = some (.pointer (some ⟨(L i).lg, 0, none⟩)) := by
  obtain ⟨c0, c1, -⟩ := hj.cells
  cases i
  · exact c0
  · exact c1
/-- a journal's block is none of a log's -/
theorem JAt.notlog (hj : JAt w B jp g L u h dead) (i : Bool) : ¬ (L i).all jp := fun hk => by
  obtain ⟨A, t, h1, h2⟩ := LoAt.tag (hj.lo i) hk
  have := tags_apart hj.row h1
  subst this
  rcases h2 with h2 | h2 | h2 <;> exact absurd h2 (by decide)
theorem JAt.notst {B' : Nat} (hj : JAt w B jp g L u h dead) (hs : StAt w B' g gb fo s) : ¬ stF g gb fo jp := fun hk => by
  obtain ⟨A, t, h1, h2⟩ := hs.tag hk
  have := tags_apart hj.row h1
  subst this
  rcases h2 with h2 | h2 | h2 <;> exact absurd h2 (by decide)
end

theorem ixU (u : Bool) (jp : Nat) : ∀ W, (Instr.indexAt 137 (.pointer (some ⟨jp, 0, none⟩)) (.int .i64 (bi u : Nat))).run Try.prog W = .ok (.pointer (some ⟨jp, bi u, none⟩)) W := by
  intro W
  cases u
  · kernel_rfl
  · kernel_rfl

theorem jIs_any (jp h : Nat) (hh : 1 ≤ h) (w : World) (hc : w.cell? ⟨jp, 3, none⟩ = some (.int .i64 (h * 64 : Nat))) : Calls Try.prog 102 #[.pointer (some ⟨jp, 0, none⟩)] w fun e w' => e = .returned (.bool true) ∧ w' = w := by
  have e1 : 0 < h * 64 := by omega
  obtain ⟨H, hH⟩ : ∃ H, h * 64 = H := ⟨_, rfl⟩
  rw [hH] at hc e1
  clear hH
  go_enter Try.func102, Try.ntmps102
  go_wp2
  go_ret
  exact ⟨rfl, rfl⟩
theorem jIs_nil (w : World) : Calls Try.prog 102 #[.pointer none] w fun e w' => e = .returned (.bool false) ∧ w' = w := by
  go_enter Try.func102, Try.ntmps102
  go_wp2
  go_ret
  exact ⟨rfl, rfl⟩

section
variable (w : World) (B jp g : Nat) (L : Bool → LV) (u : Bool) (h : Nat) (dead : Bool)
set_option maxRecDepth 100000 in
set_option maxHeartbeats 1600000 in
theorem jGeneration_any (hj : JAt w B jp g L u h dead) (hg : sgen (L u).d.recs ≤ 4611686018427387904) : Calls Try.prog 58 #[.pointer (some ⟨jp, 0, none⟩)] w fun e w' => e = .returned (.int .i64 (sgen (L u).d.recs : Nat)) ∧ Below w.heap.size w w' := by
  obtain ⟨-, -, c2, c3, -⟩ := hj.cells
  have cu := hj.cellU u
  have CI := Lib.hid (jIs_any jp h hj.h1 w c3)
  have CC : Hid (∀ V, Below w.heap.size w V → Calls Try.prog 100 #[.agg #[.pointer (some ⟨(L u).lg, 0, none⟩)]] V fun e w' => e = .returned (.tuple #[.int .u64 (sgen (L u).d.recs : Nat), .bool (decide (sok (L u).d.recs))]) ∧ Below V.heap.size V w') := fun V hV =>
    sCounts_any V B _ _ _ g _ _ _ (LoAt.below (hj.lo u) hV)
  have KS : Hid (∀ V, Below w.heap.size w V → V.cell? ⟨jp, 2, none⟩ = some (.int .i64 (bi u : Nat)) ∧ V.cell? ⟨jp, bi u, none⟩ = some (.pointer (some ⟨(L u).lg, 0, none⟩))) := fun V hV =>
    ⟨(hj.below hV).cells.2.2.1, (hj.below hV).cellU u⟩
  obtain ⟨G, hG⟩ : ∃ G, sgen (L u).d.recs = G := ⟨_, rfl⟩
  rw [hG] at hg CC ⊢
  obtain ⟨lg, hlg⟩ : ∃ lg, (L u).lg = lg := ⟨_, rfl⟩
  rw [hlg] at cu CC KS
  obtain ⟨q, hq⟩ : ∃ q : Bool, decide (sok (L u).d.recs) = q := ⟨_, rfl⟩
  rw [hq] at CC
  clear hj hG hlg hq c3
  have hix := ixU u jp
  obtain ⟨U, hU⟩ : ∃ U, bi u = U := ⟨_, rfl⟩
  rw [hU] at c2 cu KS hix
  clear hU
  · go_enter Try.func58, Try.ntmps58
    go_wp2_with (go_at_call 102; refine CI.out.mono ?_; rintro e w' ⟨rfl, rfl⟩)
    go_region_held3 (fun W => W.cell? ⟨jp, 2, none⟩ = some (.int .i64 (U : Nat)) ∧ W.cell? ⟨jp, U, none⟩ = some (.pointer (some ⟨lg, 0, none⟩))) (first
      | (with_reducible exact KS.out _ B3)
      | (with_reducible exact KS.out _ (bw_dr (Below.refl _ _)))) (first
      | (go_at_call 100; (with_reducible refine (CC.out _ (bw_dr (Below.refl _ _))).mono ?_); rintro e w3 ⟨rfl, hb3⟩; have B3 : Below w'.heap.size w' w3 := (bw_dr (Below.refl _ _)).trans (hb3.mono (by simp))))
    go_wp2
    go_ret
    exact ⟨rfl, B3⟩

set_option maxRecDepth 100000 in
set_option maxHeartbeats 1600000 in
theorem jRoom_any (hj : JAt w B jp g L u h dead) : Calls Try.prog 63 #[.pointer (some ⟨jp, 0, none⟩)] w fun e w' => e = .returned (.int .i64 (lroom (h * 64 - (L u).d.fin) : Nat)) ∧ Below w.heap.size w w' := by
  obtain ⟨-, -, c2, c3, -⟩ := hj.cells
  have cu := hj.cellU u
  have CI := Lib.hid (jIs_any jp h hj.h1 w c3)
  have CC : Hid (∀ V, Below w.heap.size w V → Calls Try.prog 48 #[.pointer (some ⟨(L u).lg, 0, none⟩)] V fun e w' => e = .returned (.int .i64 (lroom (h * 64 - (L u).d.fin) : Nat)) ∧ Below V.heap.size V w') := fun V hV => by
    have := lRoom_any V B _ _ _ g _ _ _ (LoAt.below (hj.lo u) hV)
    rw [hj.nn] at this
    exact this
  have KS : Hid (∀ V, Below w.heap.size w V → V.cell? ⟨jp, 2, none⟩ = some (.int .i64 (bi u : Nat)) ∧ V.cell? ⟨jp, bi u, none⟩ = some (.pointer (some ⟨(L u).lg, 0, none⟩))) := fun V hV =>
    ⟨(hj.below hV).cells.2.2.1, (hj.below hV).cellU u⟩
  obtain ⟨G, hG⟩ : ∃ G, lroom (h * 64 - (L u).d.fin) = G := ⟨_, rfl⟩
  rw [hG] at CC ⊢
  obtain ⟨lg, hlg⟩ : ∃ lg, (L u).lg = lg := ⟨_, rfl⟩
  rw [hlg] at cu CC KS
  clear hj hG hlg c3
  have hix := ixU u jp
  obtain ⟨U, hU⟩ : ∃ U, bi u = U := ⟨_, rfl⟩
  rw [hU] at c2 cu KS hix
  clear hU
  go_enter Try.func63, Try.ntmps63
  go_wp2_with (go_at_call 102; refine CI.out.mono ?_; rintro e w' ⟨rfl, rfl⟩)
  go_region_held3 (fun W => W.cell? ⟨jp, 2, none⟩ = some (.int .i64 (U : Nat)) ∧ W.cell? ⟨jp, U, none⟩ = some (.pointer (some ⟨lg, 0, none⟩))) (first
    | (with_reducible exact KS.out _ B3)
    | (with_reducible exact KS.out _ (bw_dr (Below.refl _ _)))) (first
    | (go_at_call 48; (with_reducible refine (CC.out _ (bw_dr (Below.refl _ _))).mono ?_); rintro e w3 ⟨rfl, hb3⟩; have B3 : Below w'.heap.size w' w3 := (bw_dr (Below.refl _ _)).trans (hb3.mono (by simp))))
  go_wp2
  go_ret
  exact ⟨rfl, B3⟩

theorem recs_open {w' V : World} {v : Value} {ps : List Rc} {x : Rc} {P : List Rc} (hg : Gw 1 csP w' V.heap.size 43 v ps) (hp : ps = x :: P) :
    ∃ a n c b o, v = .slice a n c ∧ (∀ W, (Instr.indexAt 65 (.slice a n c) (.int .i64 0)).run Try.prog W = .ok (.pointer (some ⟨b, o, none⟩)) W) ∧ w'.cell? ⟨b, o, none⟩ = some x.v := by
  obtain ⟨a, c, b, o, rfl, q1, q2, hix, hlt', hcell, -⟩ := hg.gs.open_n layP elOB _ rfl
  have m0 := hcell 0 x (by rw [hp]; rfl) 0 _ rfl
  rw [Nat.add_zero] at m0
  exact ⟨a, _, c, b, o 0, rfl, fun W => hix W 0 (by rw [hp]; simp), m0⟩

def SnapPost (w : World) (l : List UInt8) (e : Ending) (w' : World) : Prop := ∃ v, e = .returned v ∧ Ob w' w.heap.size 5 v l ∧ Below w.heap.size w w'
set_option maxRecDepth 100000 in
set_option maxHeartbeats 1600000 in
theorem jSnapshot_any (hj : JAt w B jp g L u h dead) (hs : sok (L u).d.recs) (hgd : ∀ r ∈ (L u).d.recs, lgood r) : Calls Try.prog 59 #[.pointer (some ⟨jp, 0, none⟩)] w (SnapPost w (ssnap (L u).d.recs)) := by
  obtain ⟨-, -, c2, c3, -⟩ := hj.cells
  have cu := hj.cellU u
  have CI := Lib.hid (jIs_any jp h hj.h1 w c3)
  have hlo := hj.lo u
  obtain ⟨r, R, hr, h8⟩ := id hs
  obtain ⟨x, P, hps, hx⟩ : ∃ x P, (L u).ps = x :: P ∧ x.2 = r := by
    have h1 := hlo.is
    rw [hr] at h1
    cases hps : (L u).ps with
    | nil => rw [hps] at h1; cases h1
    | cons x P => rw [hps] at h1; exact ⟨x, P, rfl, (List.cons.inj h1).1⟩
  have CC : Hid (∀ V, Below w.heap.size w V → Calls Try.prog 46 #[.pointer (some ⟨(L u).lg, 0, none⟩)] V fun e w' => ∃ a n c b o, e = .returned (.slice a n c) ∧ (∀ W, (Instr.indexAt 65 (.slice a n c) (.int .i64 0)).run Try.prog W = .ok (.pointer (some ⟨b, o, none⟩)) W) ∧ w'.cell? ⟨b, o, none⟩ = some x.v ∧ Below V.heap.size V w') := fun V hV => by
    refine (lRecords_any V B _ _ _ g _ _ _ (LoAt.below hlo hV)).mono ?_
    rintro e w' ⟨v, rfl, hg, hb⟩
    obtain ⟨a, n, c, b, o, rfl, h1, h2⟩ := recs_open hg hps
    exact ⟨a, n, c, b, o, rfl, h1, h2, hb⟩
  have hbs := (hlo.each x (by rw [hps]; simp)).1.bs
  have hsn : ssnap (L u).d.recs = x.2.drop 8 := by unfold ssnap; rw [if_pos hs, hr, hx]; rfl
  have hx8 : 8 ≤ x.2.length := by rw [hx]; exact h8
  have hxl : x.2.length ≤ 140737488355328 := by
    have := (hgd x.2 (by rw [hr, hx]; simp)).2
    omega
  rw [hsn]
  have KS : Hid (∀ V, Below w.heap.size w V → V.cell? ⟨jp, 2, none⟩ = some (.int .i64 (bi u : Nat)) ∧ V.cell? ⟨jp, bi u, none⟩ = some (.pointer (some ⟨(L u).lg, 0, none⟩))) := fun V hV =>
    ⟨(hj.below hV).cells.2.2.1, (hj.below hV).cellU u⟩
  obtain ⟨lg, hlg⟩ : ∃ lg, (L u).lg = lg := ⟨_, rfl⟩
  rw [hlg] at cu CC KS
  obtain ⟨⟨xa, xn, xc⟩, xl⟩ := x
  simp only [Rc.v] at hbs CC hx8 hxl ⊢
  obtain ⟨Y, hY, hYb⟩ := Bs.from (P := Try.prog) elB hbs 8 hx8
  rw [show ((8 : Nat) : Int) = 8 from rfl] at hY
  have CK : Hid (∀ V, Below w.heap.size w V → Calls Try.prog 98 #[Y] V fun e w' => ∃ v, e = .returned v ∧ Ob w' V.heap.size 5 v (xl.drop 8) ∧ Below V.heap.size V w') := fun V hV =>
    clone1_any Y (xl.drop 8) V (hYb.below hV) (by rw [List.length_drop]; omega)
  clear hj hlg c3 hlo hs hr h8 hps hx hsn hx8 hxl hbs hYb hgd
  have hix := ixU u jp
  obtain ⟨U, hU⟩ : ∃ U, bi u = U := ⟨_, rfl⟩
  rw [hU] at c2 cu KS hix
  clear hU
  go_enter Try.func59, Try.ntmps59
  go_wp2_with (go_at_call 102; refine CI.out.mono ?_; rintro e w' ⟨rfl, rfl⟩)
  go_region_law (first
    | (go_simp; go_at_call 46; (with_reducible refine (CC.out _ (bw_dr (Below.refl _ _))).mono ?_); rintro e w3 ⟨a3, n3, c3, b3, o3, rfl, hi3, hm3, hb3⟩; have B3 : Below w'.heap.size w' w3 := (bw_dr (Below.refl _ _)).trans (hb3.mono (by simp)))
    | (go_simp; go_at_call 98; (with_reducible refine (CK.out _ B3).mono ?_); rintro e w4 ⟨v4, rfl, ho4, hb4⟩; have HO4 := Lib.hid (ho4.mono B3.size); have B4 : Below w'.heap.size w' w4 := B3.trans (hb4.mono B3.size)))
  go_wp2
  go_ret
  exact ⟨_, rfl, HO4.out, B4⟩

def RecsPost (w : World) (R : List (List UInt8)) (e : Ending) (w' : World) : Prop := ∃ v ps, e = .returned v ∧ Rcs w' v ps ∧ rbs ps = R ∧ Below w.heap.size w w'
set_option maxRecDepth 100000 in
set_option maxHeartbeats 1600000 in
theorem jRecords_any (hj : JAt w B jp g L u h dead) (hs : sok (L u).d.recs) : Calls Try.prog 60 #[.pointer (some ⟨jp, 0, none⟩)] w (RecsPost w (srecs (L u).d.recs)) := by
  obtain ⟨-, -, c2, c3, -⟩ := hj.cells
  have cu := hj.cellU u
  have CI := Lib.hid (jIs_any jp h hj.h1 w c3)
  have hlo := hj.lo u
  obtain ⟨r, R, hr, h8⟩ := id hs
  obtain ⟨x, P, hps, hP⟩ : ∃ x P, (L u).ps = x :: P ∧ rbs P = R := by
    have h1 := hlo.is
    rw [hr] at h1
    cases hps : (L u).ps with
    | nil => rw [hps] at h1; cases h1
    | cons x P => rw [hps] at h1; exact ⟨x, P, rfl, (List.cons.inj h1).2⟩
  have CC : Hid (∀ V, Below w.heap.size w V → Calls Try.prog 46 #[.pointer (some ⟨(L u).lg, 0, none⟩)] V fun e w' => ∃ a n c Y, e = .returned (.slice a n c) ∧ (∀ W, (Instr.sliceAt 65 (.slice a n c) (some (.int .i64 1)) none none).run Try.prog W = .ok Y W) ∧ Gs 1 csP w' Y P ∧ Below V.heap.size V w') := fun V hV => by
    refine (lRecords_any V B _ _ _ g _ _ _ (LoAt.below hlo hV)).mono ?_
    rintro e w' ⟨v, rfl, hg, hb⟩
    obtain ⟨a, c, rfl⟩ := hg.gs.shape
    obtain ⟨Y, hY, hYg⟩ := Gs.from (P := Try.prog) layP elOB hg.gs 1 (by rw [hps]; simp)
    exact ⟨a, _, c, Y, rfl, hY, by rw [hps] at hYg; exact hYg, hb⟩
  have HEA : Hid (∀ V, Below w.heap.size w V → ∀ p ∈ P, Bs V p.v p.2) := fun V hV p hp => (hlo.each p (by rw [hps]; simp [hp])).1.bs.below hV
  have hsr : srecs (L u).d.recs = rbs P := by unfold srecs; rw [if_pos hs, hr, hP]; rfl
  rw [hsr]
  have KS : Hid (∀ V, Below w.heap.size w V → V.cell? ⟨jp, 2, none⟩ = some (.int .i64 (bi u : Nat)) ∧ V.cell? ⟨jp, bi u, none⟩ = some (.pointer (some ⟨(L u).lg, 0, none⟩))) := fun V hV =>
    ⟨(hj.below hV).cells.2.2.1, (hj.below hV).cellU u⟩
  obtain ⟨lg, hlg⟩ : ∃ lg, (L u).lg = lg := ⟨_, rfl⟩
  rw [hlg] at cu CC KS
  clear hj hlg c3 hlo hs hr h8 hps hP hsr
  have hix := ixU u jp
  obtain ⟨U, hU⟩ : ∃ U, bi u = U := ⟨_, rfl⟩
  rw [hU] at c2 cu KS hix
  clear hU
  go_enter Try.func60, Try.ntmps60
  go_wp2_with (go_at_call 102; refine CI.out.mono ?_; rintro e w' ⟨rfl, rfl⟩)
  go_region_held3 (fun W => W.cell? ⟨jp, 2, none⟩ = some (.int .i64 (U : Nat)) ∧ W.cell? ⟨jp, U, none⟩ = some (.pointer (some ⟨lg, 0, none⟩))) (first
    | (with_reducible exact KS.out _ B3)
    | (with_reducible exact KS.out _ (bw_dr (Below.refl _ _)))) (first
    | (go_at_call 46; (with_reducible refine (CC.out _ (bw_dr (Below.refl _ _))).mono ?_); rintro e w3 ⟨a3, n3, c3, Y3, rfl, hi3, hm3, hb3⟩; have HM3 := Lib.hid hm3; clear hm3; have B3 : Below w'.heap.size w' w3 := (bw_dr (Below.refl _ _)).trans (hb3.mono (by simp))))
  go_wp2
  go_ret
  exact ⟨_, _, rfl, ⟨HM3.out, HEA.out _ B3⟩, rfl, B3⟩
end

end Go.Proofs.Ytbonapdainlpjaa
