/- Layer 36 (snap): Compact. -/
import Derived.Test.YtbonapdainlpjaaSp5
import Derived.Deep.RegionLaw
set_option linter.unusedSimpArgs false
namespace Go.Proofs.Ytbonapdainlpjaa
open Go.RowKit Go.Sort

/-- what a compaction does to the other bank -/
inductive ComCase (s : BSt) (d : Lg) (r : List UInt8) (h : Nat) : Int → BSt → Lg → Bool → Bool → Prop
  | full (h2 : h * 64 < (lstands r).length) : ComCase s d r h 51 s d false false
  | ok (s' : BSt) (d' : Lg) (h2 : (lstands r).length ≤ h * 64) (h3 : RenR s d r s' d' 0) : ComCase s d r h 0 s' d' true false
  | torn (s' : BSt) (d' : Lg) (h2 : (lstands r).length ≤ h * 64) (h3 : RenR s d r s' d' 50) : ComCase s d r h 50 s' d' false true

def JComPost (w : World) (B jp g gb : Nat) (fo : Option Nat) (L : Bool → LV) (u : Bool) (h : Nat) (s : BSt) (sn : List UInt8) (e : Ending) (w' : World) : Prop :=
  ∃ fo' s' x E mv dd, e = .returned (.int .i64 E) ∧ StAt w' B g gb fo' s' ∧ JAt w' B jp g (lset L (!u) x) (xor u mv) h dd ∧ Only (fun k => stF g gb fo k ∨ (L (!u)).all k ∨ k = jp) w w' ∧ (∀ k, fo' = some k → fo = some k ∨ w.heap.size ≤ k) ∧
    ComCase s (L (!u)).d (srec (sgen (L u).d.recs + 1) sn) h E s' x.d mv dd ∧ ∀ k, x.all k → (L (!u)).all k ∨ w.heap.size ≤ k

section
variable {w w' : World} {B jp g gb : Nat} {fo : Option Nat} {s : BSt} {L : Bool → LV} {u : Bool} {h : Nat} {dead : Bool}
theorem JAt.setRow {u' dead' : Bool} (hj : JAt w B jp g L u h dead) (hs : StAt w B g gb fo s) (ho : Only (fun k => k = jp) w w') (hr : w'.heap[jp]? = some (.cells (joRow (L false).lg (L true).lg u' h dead') 139 (0, 0))) : JAt w' B jp g L u' h dead' := by
  have h0 : (L true).At w' B g := LoAt.only (hj.lo true) ho (fun k hk e => hj.notlog true (e ▸ hk))
  have := hj.set (i := true) (x := L true) hs ho (fun k hk => .inr (.inr hk)) h0 hr rfl rfl rfl (fun k hk => .inl hk)
  rwa [lset_self] at this
theorem JAt.setUse (hj : JAt w B jp g L u h dead) (hs : StAt w B g gb fo s) (u' : Bool) : JAt (w.setCell ⟨jp, 2, none⟩ (.int .i64 (bi u' : Nat))) B jp g L u' h dead :=
  hj.setRow hs (set_only w jp 2 _) (row_setCell hj.row 2 _)
theorem JAt.setDead (hj : JAt w B jp g L u h dead) (hs : StAt w B g gb fo s) (q : Bool) : JAt (w.setCell ⟨jp, 4, none⟩ (.bool q)) B jp g L u h q :=
  hj.setRow hs (set_only w jp 4 _) (row_setCell hj.row 4 _)
theorem JAt.stRow (hj : JAt w B jp g L u h dead) (hs : StAt w B g gb fo s) (ho : Only (fun k => k = jp) w w') : StAt w' B g gb fo s :=
  hs.only ho (fun _ hk e => hj.notst hs (e ▸ hk))
end

theorem lv_rows (L : Bool → LV) (i : Bool) (k : Nat) : (k = (L i).lg ∨ k = (L i).bb) → (L i).all k := fun hk => by
  rcases hk with hk | hk
  · exact .inl (.inl hk)
  · exact .inl (.inr (.inl hk))

section
variable (w : World) (B jp g gb : Nat) (fo : Option Nat) (L : Bool → LV) (u : Bool) (h : Nat) (s : BSt)
theorem jCompact_nil (v : Value) : Calls Try.prog 61 #[.pointer none, v] w fun e w' => e = .returned (.int .i64 1) ∧ w' = w := by
  go_enter Try.func61, Try.ntmps61
  go_wp2_with (go_at_call 102; refine (jIs_nil w).mono ?_; rintro e w' ⟨rfl, rfl⟩)
  go_ret
  exact ⟨rfl, rfl⟩

set_option maxRecDepth 100000 in
set_option maxHeartbeats 1600000 in
theorem jCompact_any (v : Value) (sn : List UInt8) (hj : JAt w B jp g L u h false) (hs : StAt w B g gb fo s) (hok : LOk s (L (!u)).d) (hg : sgen (L u).d.recs < 4611686018427387904) (hc0 : 0 ≤ s.cnt) (hc : s.cnt ≤ 3000000000000000000) (hv : Bs w v sn)
    (hvd : sn ≠ [] → ∀ k, v.ownBlock = some k → ¬ (stF g gb fo k ∨ k = (L (!u)).lg ∨ k = (L (!u)).bb)) (hl : sn.length ≤ 262136) (hB : B ≤ w.heap.size) :
    Calls Try.prog 61 #[.pointer (some ⟨jp, 0, none⟩), v] w (JComPost w B jp g gb fo L u h s sn) := by
  obtain ⟨a, c, rfl⟩ := hv.shape
  obtain ⟨S, hS⟩ : ∃ S, sn.length = S := ⟨_, rfl⟩
  rw [hS] at hl hv hvd ⊢
  obtain ⟨G, hG⟩ : ∃ G, sgen (L u).d.recs = G := ⟨_, rfl⟩
  have hg' := hg
  rw [hG] at hg
  have CG : Hid (∀ V, Below w.heap.size w V → Calls Try.prog 58 #[.pointer (some ⟨jp, 0, none⟩)] V fun e w' => e = .returned (.int .i64 (G : Nat)) ∧ Below V.heap.size V w') := fun V hV => by
    have := jGeneration_any V B jp g L u h false (hj.below hV) (by omega)
    rwa [hG] at this
  have CP : Hid (∀ V, Calls Try.prog 95 #[.int .u64 (8 + (S : Int))] V fun e w' => ∃ a c, e = .returned (.slice a (vput (8 + S)).length c) ∧ Below V.heap.size V w') := fun V => by
    have := put_int (8 + (S : Int)) (by omega) (by omega) V
    rw [show (8 + (S : Int)).toNat = 8 + S by omega] at this
    refine this.mono ?_
    rintro e w' ⟨v, rfl, ho, hb⟩
    obtain ⟨a, c, rfl⟩ := ho.shape
    exact ⟨a, c, rfl, hb⟩
  have hwr : IntKind.u64.wrap (8 + (S : Int)) = 8 + (S : Int) := IntWalk.u64_in _ (by omega)
  rw [← hwr] at CP
  have hlen : (lstands (srec (G + 1) sn)).length = (vput (8 + S)).length + (8 + S) + 1 := by rw [lstands_len, srec_len, hS]
  have hvp : (vput (8 + S)).length ≤ 10 := vput_len10 _ (by omega)
  have CN : Hid (∀ V, Below w.heap.size w V → (lstands (srec (G + 1) sn)).length ≤ h * 64 → Calls Try.prog 101 #[.agg #[.pointer (some ⟨(L (!u)).lg, 0, none⟩)], .int .u64 ((G : Int) + 1), .slice a S c] V (RenewPost V B (L (!u)).lg (L (!u)).bb (L (!u)).bc g gb fo (L (!u)).vr (L (!u)).ps s (L (!u)).d (srec (G + 1) sn))) := fun V hV hfit => by
    have := sRenew_any V B _ _ _ g gb fo _ _ s _ (G + 1) (.slice a S c) sn (hs.below hV) (LoAt.below (hj.lo (!u)) hV) hok hc0 hc (hv.below hV) hvd (by omega) (by rw [hj.nn]; exact hfit) (Nat.le_trans hB hV.size)
    rwa [show ((G + 1 : Nat) : Int) = (G : Int) + 1 by omega] at this
  have FULL : Hid (∀ V, Below w.heap.size w V → h * 64 < (lstands (srec (G + 1) sn)).length → JComPost w B jp g gb fo L u h s sn (.returned (.int .i64 51)) V) := fun V hV hf => by
    refine ⟨fo, s, L (!u), 51, false, false, rfl, hs.below hV, ?_, .of_below' hV, fun k hk => .inl hk, .full (by rw [hG]; exact hf), fun k hk => .inl hk⟩
    rw [lset_self, Bool.xor_false]
    exact hj.below hV
  -- behind the renewal
  have REN : Hid (∀ V e w', Below w.heap.size w V → (lstands (srec (G + 1) sn)).length ≤ h * 64 → RenewPost V B (L (!u)).lg (L (!u)).bb (L (!u)).bc g gb fo (L (!u)).vr (L (!u)).ps s (L (!u)).d (srec (G + 1) sn) e w' →
      ∃ fo' s' x E, e = .returned (.int .i64 E) ∧ (E = 0 ∨ E = 50) ∧ StAt w' B g gb fo' s' ∧ JAt w' B jp g (lset L (!u) x) u h false ∧ w'.cell? ⟨jp, bi (!u), none⟩ = some (.pointer (some ⟨(L (!u)).lg, 0, none⟩)) ∧
        (E = 0 → JComPost w B jp g gb fo L u h s sn (.returned (.int .i64 0)) (w'.setCell ⟨jp, 2, none⟩ (.int .i64 (bi (!u) : Nat)))) ∧ (E = 50 → JComPost w B jp g gb fo L u h s sn (.returned (.int .i64 50)) (w'.setCell ⟨jp, 4, none⟩ (.bool true)))) := fun V e w' hV hfit hp => by
    obtain ⟨fo', s', d', vr', ps', E, rfl, hst, hlo, hR, ho, hfo', hv', hp'⟩ := hp
    have hjV := hj.below hV
    have hsV := hs.below hV
    have ho' : Only (fun k => stF g gb fo k ∨ (L (!u)).all k) V w' := ho.mono (fun k _ hk => hk.imp id (lv_rows L (!u) k))
    have hfn : d'.fr = (L (!u)).d.fr ∧ d'.n = (L (!u)).d.n ∧ (E = 0 ∨ E = 50) := by
      cases hR with
      | ok s1 d1 h1 h2 => rw [h2.d1, h1.d1]; exact ⟨rfl, rfl, .inl rfl⟩
      | wipe h => exact ⟨h.fr, h.nn, .inr rfl⟩
      | app s1 d1 h1 h2 => rw [h2.fr, h2.nn]; show d1.fr = _ ∧ d1.n = _ ∧ _; rw [h1.d1]; exact ⟨rfl, rfl, .inr rfl⟩
    obtain ⟨x, hx⟩ : ∃ x : LV, x = ⟨(L (!u)).lg, (L (!u)).bb, (L (!u)).bc, vr', ps', d'⟩ := ⟨_, rfl⟩
    have hxd : x.d = d' := by rw [hx]
    have hjw : JAt w' B jp g (lset L (!u) x) u h false := hjV.set (i := !u) hsV ho' (fun k hk => hk.imp id .inl) (by rw [hx]; exact hlo) (hjV.keep hsV ho' (!u) (fun k hk => hk)) (by rw [hx]) (by rw [hxd, hfn.1]) (by rw [hxd, hfn.2.1])
      (by rw [hx]; exact LV.all_new rfl rfl hv' hp')
    have hwo : Only (fun k => stF g gb fo k ∨ (L (!u)).all k ∨ k = jp) w w' := (Only.of_below' hV).trans (ho'.mono (fun k _ hk => hk.imp id .inl))
    have hxa : ∀ k, x.all k → (L (!u)).all k ∨ w.heap.size ≤ k := fun k hk => (LV.all_new (L := L (!u)) (x := x) (w := V) (by rw [hx]) (by rw [hx]) (by rw [hx]; exact hv') (by rw [hx]; exact hp') k hk).imp id (Nat.le_trans hV.size ·)
    have hcu := hjw.cellU (!u)
    rw [lset_same, show x.lg = (L (!u)).lg by rw [hx]] at hcu
    refine ⟨fo', s', x, E, rfl, hfn.2.2, hst, hjw, hcu, fun hE => ?_, fun hE => ?_⟩
    · subst hE
      refine ⟨fo', s', x, 0, true, false, rfl, hjw.stRow hst (set_only w' jp 2 _), ?_, hwo.trans' (set_only w' jp 2 _) (fun k hk => .inl (.inr (.inr hk))), fun k hk => (hfo' k hk).imp id (Nat.le_trans hV.size ·), ?_, hxa⟩
      · rw [Bool.xor_true]
        exact hjw.setUse hst (!u)
      · rw [hxd, hG]
        exact .ok _ _ hfit hR
    · subst hE
      refine ⟨fo', s', x, 50, false, true, rfl, hjw.stRow hst (set_only w' jp 4 _), ?_, hwo.trans' (set_only w' jp 4 _) (fun k hk => .inl (.inr (.inr hk))), fun k hk => (hfo' k hk).imp id (Nat.le_trans hV.size ·), ?_, hxa⟩
      · rw [Bool.xor_false]
        exact hjw.setDead hst true
      · rw [hxd, hG]
        exact .torn _ _ hfit hR
  obtain ⟨-, -, c2, c3, c4⟩ := hj.cells
  have CI := Lib.hid (jIs_any jp h hj.h1 w c3)
  have KS : Hid (∀ V, Below w.heap.size w V → V.cell? ⟨jp, 2, none⟩ = some (.int .i64 (bi u : Nat)) ∧ V.cell? ⟨jp, 3, none⟩ = some (.int .i64 ((h * 64 : Nat) : Int)) ∧ V.cell? ⟨jp, bi (!u), none⟩ = some (.pointer (some ⟨(L (!u)).lg, 0, none⟩))) := fun V hV =>
    ⟨(hj.below hV).cells.2.2.1, (hj.below hV).cells.2.2.2.1, (hj.below hV).cellU (!u)⟩
  obtain ⟨lg, hlg⟩ : ∃ lg, (L (!u)).lg = lg := ⟨_, rfl⟩
  have hhb := hj.h2
  rw [hlg] at KS CN REN
  rw [hlen] at CN REN FULL
  obtain ⟨PP, hPP⟩ : ∃ PP, JComPost w B jp g gb fo L u h s sn = PP := ⟨_, rfl⟩
  rw [hPP] at FULL REN ⊢
  obtain ⟨Q, hQ⟩ : ∃ Q, (fun V : World => RenewPost V B lg (L (!u)).bb (L (!u)).bc g gb fo (L (!u)).vr (L (!u)).ps s (L (!u)).d (srec (G + 1) sn)) = Q := ⟨_, rfl⟩
  have hQ' := fun V => congrFun hQ V
  simp only [hQ'] at CN REN
  clear hj hlg c3 hs hok hc0 hc hv hvd hB hPP hlen hG hg' hS hQ hQ'
  have hix : ∀ W, (Instr.indexAt 137 (.pointer (some ⟨jp, 0, none⟩)) (.int .i64 (1 - (bi u : Nat)))).run Try.prog W = .ok (.pointer (some ⟨jp, bi (!u), none⟩)) W := by
    have := ixU (!u) jp
    cases u <;> exact this
  have hsub : ((bi (!u) : Nat) : Int) = 1 - ((bi u : Nat) : Int) := by cases u <;> rfl
  obtain ⟨U, hU⟩ : ∃ U, bi u = U := ⟨_, rfl⟩
  have hU1 : U ≤ 1 := by rw [← hU]; cases u <;> decide
  obtain ⟨O, hO⟩ : ∃ U, bi (!u) = U := ⟨_, rfl⟩
  rw [hU, hO] at hsub hix KS
  rw [hU] at c2
  rw [hO] at REN
  rw [hsub] at REN
  obtain ⟨P, hP⟩ : ∃ P, (vput (8 + S)).length = P := ⟨_, rfl⟩
  rw [hP] at CP CN REN FULL hvp
  obtain ⟨H, hH⟩ : ∃ H, h * 64 = H := ⟨_, rfl⟩
  have hHb : H ≤ 1048576 := by omega
  rw [hH] at CN REN FULL KS
  have eT : ((G : Int) == 4611686018427387904) = false := by simp; omega
  have eL : ¬ (262136 : Int) < (S : Int) := by omega
  clear hU hO hsub hP hhb hH hwr
  go_enter Try.func61, Try.ntmps61
  go_wp2_with (go_at_call 102; refine CI.out.mono ?_; rintro e w' ⟨rfl, rfl⟩)
  refine (CG.out _ (Below.refl _ _)).mono ?_
  rintro e w1 ⟨rfl, hb1⟩
  have HB1 := Lib.hid hb1
  clear hb1
  go_wp2_with fail
  have K1 := Lib.hid (KS.out w1.drew (bw_dr HB1.out)).2.1
  have hw1 : IntKind.i64.wrap ((P : Int) + (8 + (S : Int))) = (P : Int) + (8 + (S : Int)) := IntWalk.i64_in _ (by omega)
  have hw2 : IntKind.i64.wrap ((P : Int) + (8 + (S : Int)) + 1) = (P : Int) + (8 + (S : Int)) + 1 := IntWalk.i64_in _ (by omega)
  clear CI c2 c4
  by_cases hf : H < P + (8 + S) + 1
  · have e5 : (H : Int) < (P : Int) + (8 + (S : Int)) + 1 := by omega
    have FF := Lib.hid (fun V hV => FULL.out V hV hf)
    clear hf CN REN FULL
    go_region_held3 (fun W => W.cell? ⟨jp, 3, none⟩ = some (.int .i64 (H : Nat))) (first
      | (with_reducible exact K2.out)
      | (with_reducible exact K1.out)) (first | (go_at_call 95; (with_reducible refine (CP.out _).mono ?_); rintro e w2 ⟨a2, c2, rfl, hb2⟩; have B2 : Below w'.heap.size w' w2 := HB1.out.trans (((Below.refl w1.heap.size w1).drew.trans (hb2.mono (by simp))).mono HB1.out.size); have K2 := Lib.hid (KS.out w2 B2).2.1))
    go_wp2
    first | (go_ret; exact FF.out _ B2) | exact FF.out _ B2
  · have e5 : ¬ (H : Int) < (P : Int) + (8 + (S : Int)) + 1 := by omega
    have CN2 := fun V hV => CN.out V hV (by omega)
    have hw3 : IntKind.u64.wrap (IntKind.i64.wrap ((G : Int) + 1)) = (G : Int) + 1 := by rw [IntWalk.i64_in _ (by omega), IntWalk.u64_in _ (by omega)]
    rw [← hw3] at CN2
    have CN2 := Lib.hid CN2
    clear hw3
    have REN2 := Lib.hid (fun V e w' hV => REN.out V e w' hV (by omega))
    clear hf CN REN FULL
    go_region_held3 (fun W => W.cell? ⟨jp, 3, none⟩ = some (.int .i64 (H : Nat))) (first
      | (with_reducible exact K2.out)
      | (with_reducible exact K1.out)) (first | (go_at_call 95; (with_reducible refine (CP.out _).mono ?_); rintro e w2 ⟨a2, c2, rfl, hb2⟩; have B2 : Below w'.heap.size w' w2 := HB1.out.trans (((Below.refl w1.heap.size w1).drew.trans (hb2.mono (by simp))).mono HB1.out.size); have K2 := Lib.hid (KS.out w2 B2).2.1))
    have HB2 := Lib.hid B2
    have q2 := (KS.out w2 B2).1
    clear B2 K1
    go_wp2_with fail
    have K3 := Lib.hid (KS.out w2.drew (bw_dr HB2.out)).2.2
    go_region_held3 (fun W => W.cell? ⟨jp, O, none⟩ = some (.pointer (some ⟨lg, 0, none⟩))) (first
      | (with_reducible exact K5.out)
      | (with_reducible exact K4.out)
      | (with_reducible exact K3.out)) (first
      | (go_at_call 58; (with_reducible refine (CG.out _ (bw_dr HB2.out)).mono ?_); rintro e w3 ⟨rfl, hb3⟩; have B3 : Below w'.heap.size w' w3 := (bw_dr HB2.out).trans (hb3.mono (bw_dr HB2.out).size); have K4 := Lib.hid (KS.out w3 B3).2.2)
      | (go_at_call 101; (with_reducible refine (CN2.out _ B3).mono ?_); intro e w4 hp; obtain ⟨fo4, s4, x4, E, rfl, hE, hst4, hj4, hk4, F1, F2⟩ := REN2.out _ _ _ B3 hp; have HE := Lib.hid hE; have HST4 := Lib.hid hst4; have HJ4 := Lib.hid hj4; have HF1 := Lib.hid F1; have HF2 := Lib.hid F2; have K5 := Lib.hid hk4; clear hp hE hst4 hj4 F1 F2 hk4))
    have hj4 := HJ4.out
    have f2 := row_free hj4.row 2
    have f4 := row_free hj4.row 4
    obtain ⟨-, -, c2, -, c4⟩ := hj4.cells
    clear hj4
    rcases HE.out with rfl | rfl
    · have e6 : ((0 : Int) != 0) = false := by decide
      have HF := Lib.hid (HF1.out rfl)
      clear HF1 HF2
      go_wp2
      first | (go_ret; exact HF.out) | exact HF.out
    · have e6 : ((50 : Int) != 0) = true := by decide
      have HF := Lib.hid (HF2.out rfl)
      clear HF1 HF2
      go_wp2
      first | (go_ret; exact HF.out) | exact HF.out
end

end Go.Proofs.Ytbonapdainlpjaa
