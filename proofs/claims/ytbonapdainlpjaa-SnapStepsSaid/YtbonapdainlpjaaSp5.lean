/- Layer 36 (snap): a journal's log set anew; Append. -/
import Derived.Test.YtbonapdainlpjaaSp4
set_option linter.unusedSimpArgs false
namespace Go.Proofs.Ytbonapdainlpjaa
open Go.RowKit Go.Sort

def lset (L : Bool → LV) (i : Bool) (x : LV) : Bool → LV := fun j => if j = i then x else L j
theorem lset_same (L : Bool → LV) (i : Bool) (x : LV) : lset L i x i = x := by simp [lset]
theorem lset_other (L : Bool → LV) (i : Bool) (x : LV) : lset L i x (!i) = L (!i) := by cases i <;> simp [lset]
theorem lset_other' (L : Bool → LV) (i : Bool) (x : LV) : lset L (!i) x i = L i := by cases i <;> simp [lset]
theorem lset_self (L : Bool → LV) (i : Bool) : lset L i (L i) = L := by
  funext j
  unfold lset
  split
  · rename_i h; rw [h]
  · rfl
theorem bool_two (i j : Bool) : j = i ∨ j = !i := by cases i <;> cases j <;> simp

theorem LOk.other {s s' : BSt} {d : Lg} (h : LOk s d) (hn : s'.n = s.n) (hon : s'.off = false) (hf : ∀ j, d.fr * 64 ≤ j → j < (d.fr + d.n) * 64 → s'.f j = s.f j) : LOk s' d := by
  refine ⟨hon, h.live, ?_, by rw [hn]; exact h.fit, h.good, h.fin, h.le, h.b⟩
  intro j x hx
  have hl := (List.getElem?_eq_some_iff.1 hx).1
  rw [h.blen] at hl
  have hm : (d.fr + d.n) * 64 = d.fr * 64 + d.n * 64 := Nat.add_mul _ _ _
  rw [hf _ (by omega) (by omega)]
  exact h.sync j x hx

section
variable {w w' : World} {B jp g gb : Nat} {fo : Option Nat} {s : BSt} {L : Bool → LV} {u : Bool} {h : Nat} {dead : Bool} {F : Nat → Prop}
theorem JAt.apart (hj : JAt w B jp g L u h dead) (i : Bool) : ∀ k, (L (!i)).all k → ¬ (L i).all k := fun k h1 h2 => by
  cases i
  · exact hj.ap k h2 h1
  · exact hj.ap k h1 h2
theorem JAt.lt (hj : JAt w B jp g L u h dead) (i : Bool) : ∀ k, (L i).all k → k < w.heap.size := fun k hk => LoAt.fresh (hj.lo i) k hk

/-- a log changes, and the journal's own row may -/
theorem JAt.set {i u' dead' : Bool} {x : LV} (hj : JAt w B jp g L u h dead) (hs : StAt w B g gb fo s) (ho : Only F w w') (hF : ∀ k, F k → stF g gb fo k ∨ (L i).all k ∨ k = jp) (hx : x.At w' B g) (hr : w'.heap[jp]? = some (.cells (joRow (L false).lg (L true).lg u' h dead') 139 (0, 0)))
    (hlg : x.lg = (L i).lg) (hfr : x.d.fr = (L i).d.fr) (hn : x.d.n = (L i).d.n) (hall : ∀ k, x.all k → (L i).all k ∨ w.heap.size ≤ k) : JAt w' B jp g (lset L i x) u' h dead' := by
  have hne : LoAt w' B (L (!i)).lg (L (!i)).bb (L (!i)).bc g (L (!i)).vr (L (!i)).ps (L (!i)).d := LoAt.only (hj.lo (!i)) ho (fun k hk hf => by
    rcases hF k hf with h1 | h1 | h1
    · exact LoAt.apart (hj.lo (!i)) hs k hk h1
    · exact hj.apart i k hk h1
    · subst h1; exact hj.notlog _ hk)
  have hlgs : ∀ j, (lset L i x j).lg = (L j).lg := fun j => by
    rcases bool_two i j with rfl | rfl
    · rw [lset_same, hlg]
    · rw [lset_other]
  refine ⟨hj.low, ?_, ?_, ?_, hj.h1, hj.h2, ?_, ?_⟩
  · rw [hlgs, hlgs]; exact hr
  · intro j
    rcases bool_two i j with rfl | rfl
    · rw [lset_same]; exact hx
    · rw [lset_other]; exact hne
  · have key : ∀ k, (L (!i)).all k → ¬ x.all k := fun k h1 h2 => by
      rcases hall k h2 with h3 | h3
      · exact hj.apart i k h1 h3
      · have := hj.lt _ k h1; omega
    cases i
    · intro k h1 h2
      rw [lset_same] at h1
      have := lset_other L false x
      simp only [Bool.not_false] at this
      rw [this] at h2
      exact key k h2 h1
    · intro k h1 h2
      rw [lset_same] at h2
      have := lset_other L true x
      simp only [Bool.not_true] at this
      rw [this] at h1
      exact key k h1 h2
  · intro j
    rcases bool_two i j with rfl | rfl
    · rw [lset_same, hfr]; exact hj.fr _
    · rw [lset_other]; exact hj.fr _
  · intro j
    rcases bool_two i j with rfl | rfl
    · rw [lset_same, hn]; exact hj.nn _
    · rw [lset_other]; exact hj.nn _

/-- the journal's row where a log or the store changes -/
theorem JAt.keep (hj : JAt w B jp g L u h dead) (hs : StAt w B g gb fo s) (ho : Only F w w') (i : Bool) (hF : ∀ k, F k → stF g gb fo k ∨ (L i).all k) : w'.heap[jp]? = some (.cells (joRow (L false).lg (L true).lg u h dead) 139 (0, 0)) :=
  (ho.block _ (heap_lt hj.row) (fun hk => by
    rcases hF _ hk with h1 | h1
    · exact hj.notst hs h1
    · exact hj.notlog _ h1)).trans hj.row
end

/-- what an append to a log does -/
inductive AppCase (s : BSt) (d : Lg) (r : List UInt8) (h : Nat) : Int → BSt → Lg → Prop
  | bad (h1 : ¬ lgood r) : AppCase s d r h 2 s d
  | full (h1 : lgood r) (h2 : h * 64 < d.fin + (lstands r).length) : AppCase s d r h 51 s d
  | ok (s' : BSt) (d' : Lg) (h1 : lgood r) (h2 : d.fin + (lstands r).length ≤ h * 64) (h3 : AppOk s d r h s' d') : AppCase s d r h 0 s' d'
  | torn (s' : BSt) (d' : Lg) (h1 : lgood r) (h2 : d.fin + (lstands r).length ≤ h * 64) (h3 : TornA s d (lapp d r) h s' d') : AppCase s d r h 50 s' d'

def JAppPost (w : World) (B jp g gb : Nat) (fo : Option Nat) (L : Bool → LV) (u : Bool) (h : Nat) (s : BSt) (r : List UInt8) (e : Ending) (w' : World) : Prop :=
  ∃ fo' s' x E, e = .returned (.int .i64 E) ∧ StAt w' B g gb fo' s' ∧ JAt w' B jp g (lset L u x) u h false ∧ Only (fun k => stF g gb fo k ∨ (L u).all k) w w' ∧ (∀ k, fo' = some k → fo = some k ∨ w.heap.size ≤ k) ∧ AppCase s (L u).d r h E s' x.d ∧ ∀ k, x.all k → (L u).all k ∨ w.heap.size ≤ k

theorem LV.all_new {L x : LV} {w : World} (h1 : x.lg = L.lg) (h2 : x.bb = L.bb) (h3 : ∀ k, x.vr.ownBlock = some k → L.vr.ownBlock = some k ∨ w.heap.size ≤ k) (h4 : ∀ p ∈ x.ps, p ∈ L.ps ∨ ∀ k, p.v.ownBlock = some k → w.heap.size ≤ k) :
    ∀ k, x.all k → L.all k ∨ w.heap.size ≤ k := by
  rintro k ((hk | hk | hk) | ⟨p, hp, hk⟩)
  · exact .inl (.inl (.inl (hk.trans h1)))
  · exact .inl (.inl (.inr (.inl (hk.trans h2))))
  · rcases h3 k hk with h | h
    · exact .inl (.inl (.inr (.inr h)))
    · exact .inr h
  · rcases h4 p hp with h | h
    · exact .inl (.inr ⟨p, h, hk⟩)
    · exact .inr (h k hk)

section
variable (w : World) (B jp g gb : Nat) (fo : Option Nat) (L : Bool → LV) (u : Bool) (h : Nat) (s : BSt)

theorem jAppend_nil (v : Value) : Calls Try.prog 62 #[.pointer none, v] w fun e w' => e = .returned (.int .i64 1) ∧ w' = w := by
  go_enter Try.func62, Try.ntmps62
  go_wp2_with (go_at_call 102; refine (jIs_nil w).mono ?_; rintro e w' ⟨rfl, rfl⟩)
  go_ret
  exact ⟨rfl, rfl⟩

set_option maxRecDepth 100000 in
set_option maxHeartbeats 1600000 in
theorem jAppend_any (v : Value) (r : List UInt8) (hj : JAt w B jp g L u h false) (hs : StAt w B g gb fo s) (hok : LOk s (L u).d) (hc0 : 0 ≤ s.cnt) (hc : s.cnt ≤ 4000000000000000000) (hv : Bs w v r) (hvd : r ≠ [] → ∀ k, v.ownBlock = some k → ¬ (stF g gb fo k ∨ k = (L u).lg ∨ k = (L u).bb)) (hB : B ≤ w.heap.size) :
    Calls Try.prog 62 #[.pointer (some ⟨jp, 0, none⟩), v] w (JAppPost w B jp g gb fo L u h s r) := by
  have hlo := hj.lo u
  have hnn := hj.nn u
  have CA : Hid (∀ V, Below w.heap.size w V → Calls Try.prog 51 #[.pointer (some ⟨(L u).lg, 0, none⟩), v] V (fun e w' => JAppPost w B jp g gb fo L u h s r e w' ∧ w'.cell? ⟨jp, 2, none⟩ = some (.int .i64 (bi u : Nat)) ∧ w'.cell? ⟨jp, bi u, none⟩ = some (.pointer (some ⟨(L u).lg, 0, none⟩)))) := fun V hV => by
    have hjV := hj.below hV
    have hsV := hs.below hV
    have hloV := hjV.lo u
    have key : ∀ (w' : World) (fo' : Option Nat) (s' : BSt) (x : LV) (E : Int), StAt w' B g gb fo' s' → x.At w' B g → Only (fun k => stF g gb fo k ∨ (L u).all k) V w' → x.lg = (L u).lg → x.d.fr = (L u).d.fr → x.d.n = (L u).d.n → (∀ k, x.all k → (L u).all k ∨ V.heap.size ≤ k) →
        (∀ k, fo' = some k → fo = some k ∨ V.heap.size ≤ k) → AppCase s (L u).d r h E s' x.d → (JAppPost w B jp g gb fo L u h s r (.returned (.int .i64 E)) w' ∧ w'.cell? ⟨jp, 2, none⟩ = some (.int .i64 (bi u : Nat)) ∧ w'.cell? ⟨jp, bi u, none⟩ = some (.pointer (some ⟨(L u).lg, 0, none⟩))) := fun w' fo' s' x E q1 q2 q3 q4 q5 q6 q7 q8 q9 => by
      have hjw := hjV.set (i := u) hsV q3 (fun k hk => hk.imp id .inl) q2 (hjV.keep hsV q3 u (fun k hk => hk)) q4 q5 q6 q7
      refine ⟨⟨fo', s', x, E, rfl, q1, hjw, (Only.of_below' hV).trans q3, fun k hk => (q8 k hk).imp id (Nat.le_trans hV.size ·), q9, fun k hk => (q7 k hk).imp id (Nat.le_trans hV.size ·)⟩, hjw.cells.2.2.1, ?_⟩
      have := hjw.cellU u
      rw [lset_same, q4] at this
      exact this
    by_cases hg : lgood r
    · by_cases hf : (L u).d.fin + (lstands r).length ≤ h * 64
      · refine (lAppend_any V B _ _ _ g gb fo _ _ s _ v r hsV hloV hok.live hok.on hok.sync hok.tail hok.fit hc0 hc (hv.below hV) (hvd (by intro e; rw [e] at hg; exact absurd hg.1 (by simp))) hg (by rw [hnn]; exact hf) (Nat.le_trans hB hV.size)).mono ?_
        rintro e w' ⟨fo', s', d', vr', ps', E, rfl, hst, hlo', hr, ho, hfo', hv', hp'⟩
        have ho' : Only (fun k => stF g gb fo k ∨ (L u).all k) V w' := ho.mono (fun k _ hk => by
          rcases hk with hk | hk | hk | hk
          · exact .inl hk
          · exact .inr (.inl (.inl hk))
          · exact .inr (.inl (.inr (.inl hk)))
          · exact .inr (.inl (.inr (.inr hk))))
        rw [hnn] at hr
        have hfrn : d'.fr = (L u).d.fr ∧ d'.n = (L u).d.n := by
          rcases hr with ⟨_, _, hA⟩ | ⟨_, _, _, hT⟩
          · rw [hA.d1]; exact ⟨rfl, rfl⟩
          · exact ⟨hT.fr, hT.nn⟩
        refine key w' fo' s' ⟨(L u).lg, (L u).bb, (L u).bc, vr', ps', d'⟩ E hst hlo' ho' rfl hfrn.1 hfrn.2 (LV.all_new rfl rfl (fun k hk => ?_) hp') hfo' ?_
        · rcases hv' with h1 | h1
          · exact .inl (h1 ▸ hk)
          · exact .inr (h1 k hk)
        · rcases hr with ⟨rfl, _, hA⟩ | ⟨rfl, _, _, hT⟩
          · exact .ok _ _ hg hf hA
          · exact .torn _ _ hg hf hT
      · refine (lAppend_full V B _ _ _ g _ _ _ v r hloV hok.live (hv.below hV) hg (by rw [hnn]; omega)).mono ?_
        rintro e w' ⟨rfl, hb⟩
        exact key w' fo s (L u) 51 (hsV.below hb) (LoAt.below hloV hb) (.of_below' hb) rfl rfl rfl (fun k hk => .inl hk) (fun k hk => .inl hk) (.full hg (by omega))
    · refine (lAppend_bad V B _ _ _ g _ _ _ v r hloV hok.live (hv.below hV) hg).mono ?_
      rintro e w' ⟨rfl, rfl⟩
      exact key w' fo s (L u) 2 hsV hloV (.refl _ _) rfl rfl rfl (fun k hk => .inl hk) (fun k hk => .inl hk) (.bad hg)
  obtain ⟨-, -, c2, c3, c4⟩ := hj.cells
  have cu := hj.cellU u
  have CI := Lib.hid (jIs_any jp h hj.h1 w c3)
  have KS : Hid (∀ V, Below w.heap.size w V → V.cell? ⟨jp, 2, none⟩ = some (.int .i64 (bi u : Nat)) ∧ V.cell? ⟨jp, bi u, none⟩ = some (.pointer (some ⟨(L u).lg, 0, none⟩))) := fun V hV =>
    ⟨(hj.below hV).cells.2.2.1, (hj.below hV).cellU u⟩
  obtain ⟨lg, hlg⟩ : ∃ lg, (L u).lg = lg := ⟨_, rfl⟩
  rw [hlg] at cu CA KS
  obtain ⟨PP, hPP⟩ : ∃ PP, JAppPost w B jp g gb fo L u h s r = PP := ⟨_, rfl⟩
  rw [hPP] at CA ⊢
  have HE : Hid (∀ e w', PP e w' → ∃ E, e = .returned (.int .i64 E)) := fun e w' hp => by
    rw [← hPP] at hp
    obtain ⟨_, _, _, E, rfl, _⟩ := hp
    exact ⟨E, rfl⟩
  clear hj hlg c3 hlo hs hok hc0 hc hv hvd hB hPP hnn
  have hix := ixU u jp
  obtain ⟨U, hU⟩ : ∃ U, bi u = U := ⟨_, rfl⟩
  rw [hU] at c2 cu KS hix CA
  clear hU
  go_enter Try.func62, Try.ntmps62
  go_wp2_with (go_at_call 102; refine CI.out.mono ?_; rintro e w' ⟨rfl, rfl⟩)
  go_region_held3 (fun W => W.cell? ⟨jp, 2, none⟩ = some (.int .i64 (U : Nat)) ∧ W.cell? ⟨jp, U, none⟩ = some (.pointer (some ⟨lg, 0, none⟩))) (first
    | (with_reducible exact K4.out)
    | (with_reducible exact KS.out _ (bw_dr (Below.refl _ _)))) (first
    | (go_at_call 51; (with_reducible refine (CA.out _ (bw_dr (Below.refl _ _))).mono ?_); rintro e w4 ⟨hp, hk⟩; have K4 := Lib.hid hk; have HP := Lib.hid hp; obtain ⟨E, rfl⟩ := HE.out _ _ hp; clear hp hk))
  go_wp2
  exact HP.out
end

end Go.Proofs.Ytbonapdainlpjaa
