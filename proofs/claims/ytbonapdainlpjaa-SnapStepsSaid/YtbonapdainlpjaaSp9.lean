/- Layer 36 (snap): Open. -/
import Derived.Test.YtbonapdainlpjaaSp8
set_option linter.unusedSimpArgs false
namespace Go.Proofs.Ytbonapdainlpjaa
open Go.RowKit Go.Sort

def JOpnPost (w : World) (B g gb : Nat) (fo : Option Nat) (s : BSt) (h : Nat) (R0 R1 : List (List UInt8)) (e : Ending) (w' : World) : Prop :=
  ∃ fo' s', StAt w' B g gb fo' s' ∧ Only (stF g gb fo) w w' ∧ (∀ k, fo' = some k → fo = some k ∨ w.heap.size ≤ k) ∧ Kp s s' (4 * h) ∧
    ((sgen (sbank R0 R1 (spick R0 R1)) ≤ 4611686018427387904 ∧ ∃ jp L, e = .returned (.tuple #[.pointer (some ⟨jp, 0, none⟩), .int .i64 0]) ∧ JAt w' B jp g L (spick R0 R1) h false ∧ w.heap.size ≤ jp ∧ (∀ i, LOk s' (L i).d ∧ (L i).d.recs = sbank R0 R1 i) ∧ ∀ i q, (L i).all q → w.heap.size ≤ q) ∨
     (4611686018427387904 < sgen (sbank R0 R1 (spick R0 R1)) ∧ e = .returned (.tuple #[.pointer none, .int .i64 3])))

/-- no bank is made new -/
theorem opn_fin {w wr V : World} {B g gb : Nat} {fo fo1 : Option Nat} {s s1 : BSt} {h jp : Nat} {L : Bool → LV} {R0 R1 : List (List UInt8)} (hS : OpnS w B g gb fo s h jp 2 wr fo1 s1 L) (hB : B ≤ w.heap.size) (h1 : 1 ≤ h) (h2 : h ≤ 16384) (hR0 : (lrecs (lreg s 0 h)).1 = R0) (hR1 : (lrecs (lreg s h h)).1 = R1)
    (hV : Below wr.heap.size wr V) (hn : snew R0 R1 = false) (u : Bool) (hu : spick R0 R1 = u) (G : Nat) (hG : sgen (if u then R1 else R0) = G) :
    (G ≤ 4611686018427387904 → u = false → JOpnPost w B g gb fo s h R0 R1 (.returned (.tuple #[.pointer (some ⟨jp, 0, none⟩), .int .i64 0])) V) ∧
    (G ≤ 4611686018427387904 → u = true → JOpnPost w B g gb fo s h R0 R1 (.returned (.tuple #[.pointer (some ⟨jp, 0, none⟩), .int .i64 0])) (V.setCell ⟨jp, 2, none⟩ (.int .i64 1))) ∧
    (4611686018427387904 < G → u = false → JOpnPost w B g gb fo s h R0 R1 (.returned (.tuple #[.pointer none, .int .i64 3])) V) ∧
    (4611686018427387904 < G → u = true → JOpnPost w B g gb fo s h R0 R1 (.returned (.tuple #[.pointer none, .int .i64 3])) (V.setCell ⟨jp, 2, none⟩ (.int .i64 1))) := by
  have hj := (hS.jour hB h1 h2).below hV
  have hst := hS.st.below hV
  have hbank : ∀ i, sbank R0 R1 i = if i then R1 else R0 := fun i => by cases i <;> simp [sbank, hn]
  have hlog : ∀ i, LOk s1 (L i).d ∧ (L i).d.recs = sbank R0 R1 i := fun i => by
    obtain ⟨_, q2, _, _, q5⟩ := hS.logs i (by cases i <;> decide)
    refine ⟨q2, ?_⟩
    rw [hbank, q5]
    cases i
    · simp only [bi, Bool.false_eq_true, if_false, Nat.zero_mul]; exact hR0
    · simp only [bi, if_true, Nat.one_mul]; exact hR1
  have hnew : ∀ i q, (L i).all q → w.heap.size ≤ q := fun i q hq => hS.new i (by cases i <;> decide) q hq
  have hG' : sgen (sbank R0 R1 (spick R0 R1)) = G := by rw [hbank, hu, hG]
  have hkp : Kp s s1 (4 * h) := hS.kp.trans (Kp.refl hS.kp.on 0) (by omega)
  have ho : Only (stF g gb fo) w V := hS.only.trans (.of_below' hV)
  have o1 : Only (fun k => k = jp) V (V.setCell ⟨jp, 2, none⟩ (.int .i64 1)) := set_only V jp 2 _
  have ho2 : Only (stF g gb fo) w (V.setCell ⟨jp, 2, none⟩ (.int .i64 1)) := ho.trans' o1 (fun k hk => .inr (by rw [hk]; exact hS.jp))
  refine ⟨fun q1 q2 => ?_, fun q1 q2 => ?_, fun q1 q2 => ?_, fun q1 q2 => ?_⟩
  · subst q2
    exact ⟨fo1, s1, hst, ho, hS.fo, hkp, .inl ⟨by rw [hG']; exact q1, jp, L, rfl, by rw [hu]; exact hj, hS.jp, hlog, hnew⟩⟩
  · subst q2
    exact ⟨fo1, s1, hj.stRow hst o1, ho2, hS.fo, hkp, .inl ⟨by rw [hG']; exact q1, jp, L, rfl, by rw [hu]; exact hj.setUse hst true, hS.jp, hlog, hnew⟩⟩
  · exact ⟨fo1, s1, hst, ho, hS.fo, hkp, .inr ⟨by rw [hG']; exact q1, rfl⟩⟩
  · exact ⟨fo1, s1, hj.stRow hst o1, ho2, hS.fo, hkp, .inr ⟨by rw [hG']; exact q1, rfl⟩⟩

theorem srec1_len : (lstands (srec 1 [])).length = 10 := by
  rw [lstands_len, srec_len]
  rw [show (8 + ([] : List UInt8).length) = 8 from rfl, vput_small (by omega)]
  rfl

/-- the first bank is made new -/
theorem opn_new {w wr V w' : World} {B g gb : Nat} {fo fo1 : Option Nat} {s s1 : BSt} {h jp : Nat} {L : Bool → LV} {R0 R1 : List (List UInt8)} {e : Ending} (hS : OpnS w B g gb fo s h jp 2 wr fo1 s1 L) (hB : B ≤ w.heap.size) (h1 : 1 ≤ h) (h2 : h ≤ 16384) (hR1 : (lrecs (lreg s h h)).1 = R1)
    (hsafe : Safe s (4 * h)) (hV : Below wr.heap.size wr V) (hn : snew R0 R1 = true)
    (hp : RenewPost V B (L false).lg (L false).bb (L false).bc g gb fo1 (L false).vr (L false).ps s1 (L false).d (srec 1 []) e w') :
    e = .returned (.int .i64 0) ∧ JOpnPost w B g gb fo s h R0 R1 (.returned (.tuple #[.pointer (some ⟨jp, 0, none⟩), .int .i64 0])) w' := by
  obtain ⟨fo', s', d', vr', ps', E, rfl, hst, hlo, hR, ho, hfo', hv', hp'⟩ := hp
  have hjV := (hS.jour hB h1 h2).below hV
  have hsV := hS.st.below hV
  obtain ⟨_, q2, q3, q4, q5⟩ := hS.logs false (by decide)
  obtain ⟨_, t2, t3, t4, t5⟩ := hS.logs true (by decide)
  obtain ⟨rfl, s2, d2, hW, hA⟩ := hR.safe (hsafe.kp hS.kp (by rw [q4]; omega))
  have hlg : lgood (srec 1 []) := ⟨by rw [srec_len]; omega, by rw [srec_len]; simp⟩
  obtain ⟨k1, k2, k3, k4, _, k6⟩ := ren_ok q2 hlg (by rw [srec1_len, q4]; omega) hW hA
  have ho' : Only (fun k => stF g gb fo1 k ∨ (L false).all k) V w' := ho.mono (fun k _ hk => hk.imp id (lv_rows L false k))
  obtain ⟨x, hx⟩ : ∃ x : LV, x = ⟨(L false).lg, (L false).bb, (L false).bc, vr', ps', d'⟩ := ⟨_, rfl⟩
  have hxd : x.d = d' := by rw [hx]
  have hjw : JAt w' B jp g (lset L false x) false h false := hjV.set (i := false) hsV ho' (fun k hk => hk.imp id .inl) (by rw [hx]; exact hlo) (hjV.keep hsV ho' false (fun k hk => hk)) (by rw [hx]) (by rw [hxd, k3]) (by rw [hxd, k4])
    (by rw [hx]; exact LV.all_new rfl rfl hv' hp')
  have hnn : ¬ sok R0 ∧ ¬ sok R1 := of_decide_eq_true hn
  have hpick : spick R0 R1 = false := decide_eq_false (fun h => hnn.2 h.1)
  refine ⟨rfl, fo', s', hst, ?_, ?_, ?_, .inl ⟨?_, jp, lset L false x, rfl, by rw [hpick]; exact hjw, hS.jp, fun i => ?_, fun i q hq => ?_⟩⟩
  · refine (hS.only.trans (.of_below' hV)).trans' ho (fun k hk => ?_)
    rcases hk with (hk | hk | hk) | hk
    · exact .inl (.inl hk)
    · exact .inl (.inr (.inl hk))
    · rcases hS.fo k hk with h | h
      · exact .inl (.inr (.inr h))
      · exact .inr h
    · exact .inr (hS.new false (by decide) k (lv_rows L false k hk))
  · intro k hk
    rcases hfo' k hk with h | h
    · exact hS.fo k h
    · exact .inr (Nat.le_trans hS.only.size (Nat.le_trans hV.size h))
  · have hk1 : Kp s1 s2 h := by have := hW.kp; rwa [q4] at this
    have hk2 : Kp s2 s' h := by have := hA.kp; rwa [q4] at this
    exact (hS.kp.trans hk1 (Nat.le_refl _)).trans hk2 (by omega)
  · rw [hpick, sbank_false, hn, if_pos rfl, sgen_srec (by omega)]
    omega
  · cases i
    · rw [lset_same, hxd, sbank_false, hn, if_pos rfl]
      exact ⟨k1, k2⟩
    · rw [show lset L false x true = L true from lset_other L false x]
      refine ⟨t2.other (by rw [hA.n, hW.n]) hA.on (fun j j1 j2 => k6 j ?_), by rw [t5]; simp only [bi, if_true, Nat.one_mul]; exact hR1⟩
      rw [q3, q4]
      rw [t3] at j1 j2
      rw [t4] at j2
      exact apart_reg h false j j1 j2
  · cases i
    · rw [lset_same] at hq
      rcases LV.all_new (L := L false) (x := x) (w := V) (by rw [hx]) (by rw [hx]) (by rw [hx]; exact hv') (by rw [hx]; exact hp') q hq with h1 | h1
      · exact hS.new false (by decide) q h1
      · exact Nat.le_trans hS.only.size (Nat.le_trans hV.size h1)
    · rw [show lset L false x true = L true from lset_other L false x] at hq
      exact hS.new true (by decide) q hq

/-- what Open makes first -/
theorem opn_start {w W : World} {B g gb : Nat} {fo : Option Nat} {s : BSt} {h jp : Nat} (hst : StAt w B g gb fo s) (hon : s.off = false) (hW : w.alloc (.cells #[.pointer none, .pointer none, .int .i64 0, .int .i64 (h * 64 : Nat), .bool false] 139) = W) (hjp : w.heap.size = jp) (L : Bool → LV) :
    OpnS w B g gb fo s h jp 0 W fo s L := by
  subst hW hjp
  have hb : Below w.heap.size w (w.alloc (.cells #[.pointer none, .pointer none, .int .i64 0, .int .i64 (h * 64 : Nat), .bool false] 139)) := (Below.refl _ _).alloc (Nat.le_refl _) _
  exact ⟨hst.below hb, heap_alloc_new _ _, fun i hi => by omega, fun i hi => by omega, fun hk => by omega, fun _ _ => rfl, Kp.refl hon _, .of_below' hb, fun q hq => .inl hq, Nat.le_refl _⟩

set_option maxRecDepth 100000 in
set_option maxHeartbeats 1600000 in
theorem jOpen_any (w : World) (B g gb : Nat) (fo : Option Nat) (s : BSt) (h : Nat) (R0 R1 : List (List UInt8)) (hs : StAt w B g gb fo s) (hon : s.off = false) (hh : s.n / 2 = h) (h1 : 1 ≤ h) (hc0 : 0 ≤ s.cnt) (hc : s.cnt ≤ 2000000000000000000) (hsafe : Safe s (4 * h)) (hB : B ≤ w.heap.size)
    (hR0 : (lrecs (lreg s 0 h)).1 = R0) (hR1 : (lrecs (lreg s h h)).1 = R1) :
    Calls Try.prog 56 #[.pointer (some ⟨g, 0, none⟩)] w (JOpnPost w B g gb fo s h R0 R1) := by
  have hn2 := hs.n2
  have h2 : h ≤ 16384 := by omega
  have hfit : 2 * h ≤ s.n := by omega
  obtain ⟨M, hM⟩ : ∃ M, s.n = M := ⟨_, rfl⟩
  have CL := Lib.hid (bLen_any g gb fo s B w hs)
  rw [hM] at CL hn2 hh
  have hdiv : ((M : Int) / 2) = (h : Int) := by omega
  obtain ⟨jp, hjp⟩ : ∃ jp, w.heap.size = jp := ⟨_, rfl⟩
  obtain ⟨W, hW⟩ : ∃ W, w.alloc (.cells #[.pointer none, .pointer none, .int .i64 0, .int .i64 ((h : Int) * 64), .bool false] 139) = W := ⟨_, rfl⟩
  have START := Lib.hid (opn_start (W := W) (h := h) hs hon (by rw [← hW, Int.natCast_mul]; rfl) hjp (fun _ => ⟨0, 0, 0, .slice none 0 0, [], ⟨0, 0, [], [], 0, false⟩⟩))
  have STEP : Hid (∀ (i : Bool) (wr : World) (fo1 : Option Nat) (s1 : BSt) (L : Bool → LV), OpnS w B g gb fo s h jp (bi i) wr fo1 s1 L → Calls Try.prog 43 #[.pointer (some ⟨g, 0, none⟩), .int .i64 ((bi i * h : Nat) : Int), .int .i64 (h : Int)] wr fun e w2 =>
      ∃ lg, e = .returned (.tuple #[.pointer (some ⟨lg, 0, none⟩), .int .i64 0]) ∧ w2.frozen? ⟨jp, bi i, none⟩ = false ∧ w2.cell? ⟨jp, bi i, none⟩ = some (.pointer none) ∧
        ∃ fo2 s2 L2, OpnS w B g gb fo s h jp (bi i + 1) (w2.setCell ⟨jp, bi i, none⟩ (.pointer (some ⟨lg, 0, none⟩))) fo2 s2 L2) := fun i wr fo1 s1 L hS => by
    have hbi : bi i * h ≤ 1 * h := Nat.mul_le_mul_right h (by cases i <;> decide)
    have hk := hS.kp.lo
    have hk2 := hS.kp.hi
    refine (lOpen_any wr B g gb fo1 s1 (bi i * h) h hS.st hS.kp.on h1 (by rw [hS.kp.n]; omega) (by omega) (by omega) (Nat.le_trans hB hS.only.size)).mono ?_
    intro e w2 hp
    exact opn_step i hS (hsafe.less (by omega)) hfit hB hp
  have HB := Lib.hid hB
  have HSF := Lib.hid hsafe
  have HR0 := Lib.hid hR0
  have HR1 := Lib.hid hR1
  have HC := Lib.hid (show 0 ≤ s.cnt ∧ s.cnt ≤ 2000000000000000000 from ⟨hc0, hc⟩)
  obtain ⟨PP, hPP⟩ : ∃ PP, JOpnPost w B g gb fo s h R0 R1 = PP := ⟨_, rfl⟩
  rw [hPP]
  have HPP := Lib.hid hPP
  have e1 : ¬ (h : Int) < 1 := by omega
  have hmul : (h : Int) * 64 = ((h * 64 : Nat) : Int) := by omega
  have HMUL := Lib.hid hmul
  clear hs hon hc0 hc hsafe hB hR0 hR1 hPP hh hfit hn2 hM hmul
  go_enter Try.func56, Try.ntmps56
  go_wp2_with (go_at_call 27; refine CL.out.mono ?_; rintro e w' ⟨rfl, hw⟩; obtain rfl := hw.symm)
  clear hW
  go_loopw [26] (fun vi wr => ∃ k : Nat, k ≤ 2 ∧ vi = .int .i64 k ∧ Hid (∃ fo1 s1 L, OpnS w B g gb fo s h jp k wr fo1 s1 L)) (fun vi _ => 2 - (intOf vi).toNat)
  case atStart => exact ⟨0, by omega, rfl, _, _, _, START.out⟩
  case round =>
    obtain ⟨k, hk, rfl, HK⟩ := hrel
    by_cases hlt : k < 2
    · obtain ⟨fo1, s1, L1, HK⟩ := HK.out
      obtain rfl | rfl : k = 0 ∨ k = 1 := by omega
      · have CO := Lib.hid (STEP.out false wr fo1 s1 L1 HK)
        rw [show ((bi false * h : Nat) : Int) = 0 by simp [bi], show bi false = 0 from rfl] at CO
        have e2 : ((0 : Nat) : Int) < 2 := by omega
        have hix0 := ixU false jp
        rw [show bi false = 0 from rfl] at hix0
        clear HK
        go_wp2_with fail
        refine CO.out.mono ?_
        rintro e w2 ⟨lg, rfl, hfz, hcl, fo2, s2, L2, HK2⟩
        have HK2 := Lib.hid HK2
        go_wp2
        go_roundw
        case rel => exact ⟨1, by omega, by go_num, _, _, _, HK2.out⟩
        case measure => simp [intOf]
      · have CO := Lib.hid (STEP.out true wr fo1 s1 L1 HK)
        rw [show ((bi true * h : Nat) : Int) = (h : Int) by simp [bi], show bi true = 1 from rfl] at CO
        have e2 : ((1 : Nat) : Int) < 2 := by omega
        have hix1 := ixU true jp
        rw [show bi true = 1 from rfl] at hix1
        clear HK
        go_wp2_with fail
        refine CO.out.mono ?_
        rintro e w2 ⟨lg, rfl, hfz, hcl, fo2, s2, L2, HK2⟩
        have HK2 := Lib.hid HK2
        go_wp2
        go_roundw
        case rel => exact ⟨2, by omega, by go_num, _, _, _, HK2.out⟩
        case measure => simp [intOf]
    · obtain rfl : k = 2 := by omega
      have e2 : ¬ ((2 : Nat) : Int) < 2 := by omega
      obtain ⟨fo1, s1, L, HS⟩ := HK.out
      have hj := HS.jour HB.out h1 h2
      obtain ⟨c0, c1, -, -, -⟩ := hj.cells
      have KS : Hid (∀ V, Below wr.heap.size wr V → V.cell? ⟨jp, 1, none⟩ = some (.pointer (some ⟨(L true).lg, 0, none⟩)) ∧ V.cell? ⟨jp, 0, none⟩ = some (.pointer (some ⟨(L false).lg, 0, none⟩)) ∧ V.cell? ⟨jp, 2, none⟩ = some (.int .i64 0) ∧ V.frozen? ⟨jp, 2, none⟩ = false) := fun V hV =>
        ⟨(hj.below hV).cells.2.1, (hj.below hV).cells.1, (hj.below hV).cells.2.2.1, row_free (hj.below hV).row 2⟩
      have hr0 : (L false).d.recs = R0 := by
        rw [(HS.logs false (by decide)).2.2.2.2]; simp only [bi, Bool.false_eq_true, if_false, Nat.zero_mul]; exact HR0.out
      have hr1 : (L true).d.recs = R1 := by
        rw [(HS.logs true (by decide)).2.2.2.2]; simp only [bi, if_true, Nat.one_mul]; exact HR1.out
      obtain ⟨G0, hG0⟩ : ∃ G, sgen R0 = G := ⟨_, rfl⟩
      obtain ⟨G1, hG1⟩ : ∃ G, sgen R1 = G := ⟨_, rfl⟩
      have hl0 : G0 < 18446744073709551616 := by rw [← hG0]; exact sgen_lt _
      have hl1 : G1 < 18446744073709551616 := by rw [← hG1]; exact sgen_lt _
      have CC0 : Hid (∀ V, Below wr.heap.size wr V → Calls Try.prog 100 #[.agg #[.pointer (some ⟨(L false).lg, 0, none⟩)]] V fun e w' => e = .returned (.tuple #[.int .u64 (G0 : Nat), .bool (decide (sok R0))]) ∧ Below V.heap.size V w') := fun V hV => by
        have := sCounts_any V B _ _ _ g _ _ _ (LoAt.below (hj.lo false) hV)
        rwa [hr0, hG0] at this
      have CC1 : Hid (∀ V, Below wr.heap.size wr V → Calls Try.prog 100 #[.agg #[.pointer (some ⟨(L true).lg, 0, none⟩)]] V fun e w' => e = .returned (.tuple #[.int .u64 (G1 : Nat), .bool (decide (sok R1))]) ∧ Below V.heap.size V w') := fun V hV => by
        have := sCounts_any V B _ _ _ g _ _ _ (LoAt.below (hj.lo true) hV)
        rwa [hr1, hG1] at this
      have CR : Hid (∀ V, Below wr.heap.size wr V → snew R0 R1 = true → Calls Try.prog 101 #[.agg #[.pointer (some ⟨(L false).lg, 0, none⟩)], .int .u64 1, .slice none 0 0] V fun e w' => e = .returned (.int .i64 0) ∧ PP (.returned (.tuple #[.pointer (some ⟨jp, 0, none⟩), .int .i64 0])) w') := fun V hV hn => by
        obtain ⟨_, q2, q3, q4, q5⟩ := HS.logs false (by decide)
        have := sRenew_any V B _ _ _ g gb fo1 _ _ s1 _ 1 (.slice none 0 0) [] (HS.st.below hV) (LoAt.below (hj.lo false) hV) q2 (by have := HS.kp.lo; have := HC.out; omega) (by have := HS.kp.hi; have := HC.out; omega) (Rd.nil _ _) (by intro _ k hk; simp [Value.ownBlock] at hk) (by simp) (by rw [srec1_len, q4]; omega) (Nat.le_trans HB.out (Nat.le_trans HS.only.size hV.size))
        refine this.mono fun e w' hp => ?_
        rw [← HPP.out]
        exact opn_new HS HB.out h1 h2 HR1.out HSF.out hV hn hp
      have FIN := Lib.hid (fun V (hV : Below wr.heap.size wr V) (hn : snew R0 R1 = false) (u : Bool) (hu : spick R0 R1 = u) (G : Nat) (hG : sgen (if u then R1 else R0) = G) => opn_fin HS HB.out h1 h2 HR0.out HR1.out hV hn u hu G hG)
      rw [HPP.out] at FIN
      have HBR : Hid (Below wr.heap.size wr wr) := Below.refl _ _
      have HSN : Hid (snew R0 R1 = (!decide (sok R0) && !decide (sok R1))) := by show _ = _; unfold snew; by_cases a0 : sok R0 <;> by_cases a1 : sok R1 <;> simp [a0, a1]
      have HSP : Hid (spick R0 R1 = (decide (sok R1) && (!decide (sok R0) || decide (G0 < G1)))) := by show _ = _; unfold spick; rw [hG0, hG1]; by_cases a0 : sok R0 <;> by_cases a1 : sok R1 <;> by_cases a2 : G0 < G1 <;> simp [a0, a1, a2]
      have HZ0 : Hid (decide (sok R0) = false → G0 = 0) := fun h => by rw [← hG0]; unfold sgen; rw [if_neg (of_decide_eq_false h)]
      obtain ⟨b0, hb0⟩ : ∃ b, decide (sok R0) = b := ⟨_, rfl⟩
      obtain ⟨b1, hb1⟩ : ∃ b, decide (sok R1) = b := ⟨_, rfl⟩
      rw [hb0] at CC0 HSN HSP HZ0
      rw [hb1] at CC1 HSN HSP
      have HG0 := Lib.hid hG0
      have HG1 := Lib.hid hG1
      obtain ⟨l0, hl0'⟩ : ∃ l, (L false).lg = l := ⟨_, rfl⟩
      obtain ⟨l1, hl1'⟩ : ∃ l, (L true).lg = l := ⟨_, rfl⟩
      rw [hl0'] at KS CC0 CR c0
      rw [hl1'] at KS CC1 c1
      clear HK HS hj hr0 hr1 hG0 hG1 hb0 hb1 hl0' hl1' STEP START
      go_wp2_with fail
      refine (CC0.out _ HBR.out).mono ?_
      rintro e w3 ⟨rfl, hb3⟩
      have HB3 := Lib.hid (HBR.out.trans hb3)
      have k3 := (KS.out w3 HB3.out).1
      clear hb3 c0 c1 CC0
      go_wp2_with fail
      refine (CC1.out _ HB3.out).mono ?_
      rintro e w4 ⟨rfl, hb4⟩
      have HB4 := Lib.hid (HB3.out.trans (hb4.mono HB3.out.size))
      have k4 := KS.out w4 HB4.out
      obtain ⟨-, k40, k42, f42⟩ := k4
      clear hb4 k3 CC1
      cases b0
      · obtain rfl := HZ0.out rfl
        cases b1
        · have hn : snew R0 R1 = true := by rw [HSN.out]; rfl
          have CR2 := Lib.hid (CR.out w4 HB4.out hn)
          have e5 : ((0 : Int) != 0) = false := by decide
          have e6 : ¬ (4611686018427387904 : Int) < ((0 : Nat) : Int) := by omega
          clear hn CR FIN HSN HSP
          go_wp2_with fail
          refine CR2.out.mono ?_
          rintro e w5 ⟨rfl, hp⟩
          have HP := Lib.hid hp
          clear hp
          go_wp2
          exact HP.out
        · have F := FIN.out w4 HB4.out (by rw [HSN.out]; rfl) true (by rw [HSP.out]; rfl) G1 HG1.out
          obtain ⟨-, F1, -, F2⟩ := F
          have F1 := Lib.hid F1
          have F2 := Lib.hid F2
          clear CR FIN HSN HSP
          by_cases hG : 4611686018427387904 < G1
          · have e6 : (4611686018427387904 : Int) < (G1 : Int) := by omega
            have F3 := Lib.hid (F2.out hG rfl)
            clear F1 F2
            go_wp2
            exact F3.out
          · have e6 : ¬ (4611686018427387904 : Int) < (G1 : Int) := by omega
            have F3 := Lib.hid (F1.out (by omega) rfl)
            clear F1 F2
            go_wp2
            exact F3.out
      · cases b1
        · have F := FIN.out w4 HB4.out (by rw [HSN.out]; rfl) false (by rw [HSP.out]; rfl) G0 HG0.out
          obtain ⟨F1, -, F2, -⟩ := F
          have F1 := Lib.hid F1
          have F2 := Lib.hid F2
          clear CR FIN HSN HSP
          by_cases hG : 4611686018427387904 < G0
          · have e6 : (4611686018427387904 : Int) < (G0 : Int) := by omega
            have F3 := Lib.hid (F2.out hG rfl)
            clear F1 F2
            go_wp2
            exact F3.out
          · have e6 : ¬ (4611686018427387904 : Int) < (G0 : Int) := by omega
            have F3 := Lib.hid (F1.out (by omega) rfl)
            clear F1 F2
            go_wp2
            exact F3.out
        · by_cases hc : G0 < G1
          · have e7 : (G0 : Int) < (G1 : Int) := by omega
            have F := FIN.out w4 HB4.out (by rw [HSN.out]; rfl) true (by rw [HSP.out, decide_eq_true hc]; rfl) G1 HG1.out
            obtain ⟨-, F1, -, F2⟩ := F
            have F1 := Lib.hid F1
            have F2 := Lib.hid F2
            clear CR FIN HSN HSP
            by_cases hG : 4611686018427387904 < G1
            · have e6 : (4611686018427387904 : Int) < (G1 : Int) := by omega
              have F3 := Lib.hid (F2.out hG rfl)
              clear F1 F2
              go_wp2
              exact F3.out
            · have e6 : ¬ (4611686018427387904 : Int) < (G1 : Int) := by omega
              have F3 := Lib.hid (F1.out (by omega) rfl)
              clear F1 F2
              go_wp2
              exact F3.out
          · have e7 : ¬ (G0 : Int) < (G1 : Int) := by omega
            have F := FIN.out w4 HB4.out (by rw [HSN.out]; rfl) false (by rw [HSP.out, decide_eq_false hc]; rfl) G0 HG0.out
            obtain ⟨F1, -, F2, -⟩ := F
            have F1 := Lib.hid F1
            have F2 := Lib.hid F2
            clear CR FIN HSN HSP
            by_cases hG : 4611686018427387904 < G0
            · have e6 : (4611686018427387904 : Int) < (G0 : Int) := by omega
              have F3 := Lib.hid (F2.out hG rfl)
              clear F1 F2
              go_wp2
              exact F3.out
            · have e6 : ¬ (4611686018427387904 : Int) < (G0 : Int) := by omega
              have F3 := Lib.hid (F1.out (by omega) rfl)
              clear F1 F2
              go_wp2
              exact F3.out
end Go.Proofs.Ytbonapdainlpjaa