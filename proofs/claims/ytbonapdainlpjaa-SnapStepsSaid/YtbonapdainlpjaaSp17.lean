/- Layer 36 (snap): the law's state, step by step: the journal, what is read besides. -/
import Derived.Test.YtbonapdainlpjaaSp15
set_option linter.unusedSimpArgs false
namespace Go.Proofs.Ytbonapdainlpjaa
open Go.RowKit Go.Sort

def lvs (L : Bool → LV) (k : Nat) : Prop := ∃ i, (L i).all k

structure SJ (q : Nat) (w : World) (B g gb n h m jp : Nat) (wr : World) (fo : Option Nat) (s : BSt) (L : Bool → LV) (u : Bool) : Prop where
  bel : Below q w wr
  qB : q ≤ B
  size : B ≤ wr.heap.size
  st : StAt wr B g gb fo s
  j : JAt wr B jp g L u h false
  ok : ∀ i, LOk s (L i).d
  n : s.n = n
  lo : 0 ≤ s.cnt
  hi : s.cnt ≤ 1000 * m
  inv : InvR (fun i => (L i).d.recs) u
  gen : sgen (L u).d.recs ≤ m

/-- a snapshot and records that are read -/
structure RV (q : Nat) (wr : World) (F : Nat → Prop) (vS vQ : Value) (ps : List Rc) (S : List UInt8) (Q : List (List UInt8)) : Prop where
  s : Bs wr vS S
  qs : Rcs wr vQ ps
  is : rbs ps = Q
  ls : S ≠ [] → ∀ k, vS.ownBlock = some k → k < q
  lp : ∀ p ∈ ps, p.2 ≠ [] → ∀ k, p.v.ownBlock = some k → k < q
  tag : ∀ k, vQ.ownBlock = some k → ∃ A, wr.heap[k]? = some (.cells A 43 (0, 0))
  fr : ∀ k, vQ.ownBlock = some k → ¬ F k

section
variable {q : Nat} {w wr w' : World} {B g gb n h m jp : Nat} {fo : Option Nat} {s : BSt} {L : Bool → LV} {u : Bool} {F F' G : Nat → Prop} {vS vQ : Value} {ps : List Rc} {S : List UInt8} {Q : List (List UInt8)}
theorem RV.only (h : RV q wr F vS vQ ps S Q) (ho : Only G wr w') (hG : ∀ k, G k → q ≤ k) (hG2 : ∀ k, vQ.ownBlock = some k → ¬ G k) : RV q w' F vS vQ ps S Q := by
  refine ⟨h.s.only' ho (fun hl k hk hg => ?_), ⟨h.qs.1.only ho hG2, fun p hp => (h.qs.2 p hp).only' ho (fun hl k hk hg => ?_)⟩, h.is, h.ls, h.lp, fun k hk => ?_, h.fr⟩
  · have := h.ls hl k hk; have := hG k hg; omega
  · have := h.lp p hp hl k hk; have := hG k hg; omega
  · obtain ⟨A, hA⟩ := h.tag k hk
    exact ⟨A, (ho.block k (heap_lt hA) (hG2 k hk)).trans hA⟩
theorem RV.below (h : RV q wr F vS vQ ps S Q) (hb : Below wr.heap.size wr w') : RV q w' F vS vQ ps S Q :=
  h.only (G := fun _ => False) (.of_below' hb) (fun _ h => h.elim) (fun _ _ h => h)
theorem RV.free (h : RV q wr F vS vQ ps S Q) (hF : ∀ k, k < wr.heap.size → F' k → F k) : RV q wr F' vS vQ ps S Q :=
  ⟨h.s, h.qs, h.is, h.ls, h.lp, h.tag, fun k hk hf => by
    obtain ⟨A, hA⟩ := h.tag k hk
    exact h.fr k hk (hF k (heap_lt hA) hf)⟩
theorem RV.notst (h : RV q wr F vS vQ ps S Q) (hs : StAt wr B g gb fo s) : ∀ k, vQ.ownBlock = some k → ¬ stF g gb fo k := fun k hk hf => by
  obtain ⟨A, hA⟩ := h.tag k hk
  obtain ⟨A', t, h1, h2⟩ := hs.tag hf
  have := tags_apart hA h1
  subst this
  rcases h2 with h2 | h2 | h2 <;> exact absurd h2 (by decide)
theorem RV.notjp (h : RV q wr F vS vQ ps S Q) {A : Array Value} (hr : wr.heap[jp]? = some (.cells A 139 (0, 0))) : vQ.ownBlock ≠ some jp := fun hk => by
  obtain ⟨A, hA⟩ := h.tag jp hk
  exact absurd (tags_apart hA hr) (by decide)

theorem JAt.st (hj : JAt wr B jp g L u h false) (hs : StAt wr B g gb fo s) (ho : Only (stF g gb fo) wr w') : JAt w' B jp g L u h false :=
  ⟨hj.low, (ho.block _ (heap_lt hj.row) (hj.notst hs)).trans hj.row, fun i => LoAt.only (hj.lo i) ho (LoAt.apart (hj.lo i) hs), hj.ap, hj.h1, hj.h2, hj.fr, hj.nn⟩
theorem SJ.below (k : SJ q w B g gb n h m jp wr fo s L u) (hb : Below wr.heap.size wr w') : SJ q w B g gb n h m jp w' fo s L u :=
  ⟨k.bel.trans (hb.mono (Nat.le_trans k.qB k.size)), k.qB, Nat.le_trans k.size hb.size, k.st.below hb, k.j.below hb, k.ok, k.n, k.lo, k.hi, k.inv, k.gen⟩
theorem SJ.more (k : SJ q w B g gb n h m jp wr fo s L u) {m' : Nat} (hm : m ≤ m') : SJ q w B g gb n h m' jp wr fo s L u :=
  ⟨k.bel, k.qB, k.size, k.st, k.j, k.ok, k.n, k.lo, by have := k.hi; omega, k.inv, by have := k.gen; omega⟩
theorem SJ.stlow (k : SJ q w B g gb n h m jp wr fo s L u) : ∀ i, stF g gb fo i → q ≤ i := fun i hi => Nat.le_trans k.qB (k.st.foot i hi).1
theorem SJ.lvlow (k : SJ q w B g gb n h m jp wr fo s L u) (i : Bool) : ∀ x, (L i).all x → q ≤ x := fun x hx => Nat.le_trans k.qB (LoAt.foot (k.j.lo i) x hx)
theorem SJ.jplow (k : SJ q w B g gb n h m jp wr fo s L u) : q ≤ jp := Nat.le_trans k.qB k.j.low

/-- the fuse set -/
theorem SJ.fuse (k : SJ q w B g gb n h m jp wr fo s L u) {x y : Int} (hx : 0 ≤ x) (hy : 0 ≤ y) (hp : StPost wr B g gb fo (bset s x y) w') : ∃ fo', SJ q w B g gb n h m jp w' fo' (bset s x y) L u ∧ Only (stF g gb fo) wr w' := by
  obtain ⟨fo', hst, ho, hf⟩ := hp
  have e : bset s x y = ⟨s.n, s.f, s.off, some (x, y), s.cnt⟩ := by unfold bset; rw [if_pos ⟨hx, hy⟩]
  refine ⟨fo', ⟨k.bel.trans (ho.below k.stlow (Nat.le_trans k.qB k.size)), k.qB, Nat.le_trans k.size ho.size, hst, k.j.st k.st ho, fun i => ?_, by rw [e]; exact k.n, by rw [e]; exact k.lo, by rw [e]; exact k.hi, k.inv, k.gen⟩, ho⟩
  rw [e]
  exact ⟨(k.ok i).on, (k.ok i).live, (k.ok i).sync, (k.ok i).fit, (k.ok i).good, (k.ok i).fin, (k.ok i).le, (k.ok i).b⟩
end

/-- the ways of a step: done, refused, torn -/
def Outc (q : Nat) (w : World) (B g gb n h m jp : Nat) (vS vQ vS' vQ' : Value) (S : List UInt8) (Q : List (List UInt8)) (S' : List UInt8) (Q' : List (List UInt8)) (r : List UInt8) (c : Bool) (E : Int) (w' : World) : Prop :=
  (E = 0 ∧ ∃ fo s L u ps, SJ q w B g gb n h (m + 1) jp w' fo s L u ∧ ssnap (L u).d.recs = S' ∧ srecs (L u).d.recs = Q' ∧ RV q w' (lvs L) vS' vQ' ps S' Q') ∨
  ((E = 51 ∨ (E = 2 ∧ r = [] ∧ c = false)) ∧ ∃ fo s L u ps, SJ q w B g gb n h (m + 1) jp w' fo s L u ∧ ssnap (L u).d.recs = S ∧ srecs (L u).d.recs = Q ∧ RV q w' (lvs L) vS vQ ps S Q) ∨
  (E = 50 ∧ ∃ fo s ps ps', StAt w' B g gb fo s ∧ s.off = true ∧ s.fu = none ∧ s.n = n ∧ 0 ≤ s.cnt ∧ s.cnt ≤ 1000 * m + 600 ∧ Below q w w' ∧ B ≤ w'.heap.size ∧ TornP s h (m + 1) S Q S' Q' ∧ RV q w' (fun _ => False) vS vQ ps S Q ∧ RV q w' (fun _ => False) vS' vQ' ps' S' Q')

theorem lvs_set {L : Bool → LV} {i : Bool} {x : LV} {w : World} (h : ∀ k, x.all k → (L i).all k ∨ w.heap.size ≤ k) : ∀ k, k < w.heap.size → lvs (lset L i x) k → lvs L k := fun k hk hl => by
  obtain ⟨j, hj⟩ := hl
  rcases bool_two i j with rfl | rfl
  · rw [lset_same] at hj
    rcases h k hj with h1 | h1
    · exact ⟨_, h1⟩
    · omega
  · rw [lset_other] at hj; exact ⟨_, hj⟩

section
variable {q : Nat} {w wr : World} {B g gb n h m jp : Nat} {fo : Option Nat} {s : BSt} {L : Bool → LV} {u : Bool} {vS vQ vS' vQ' : Value} {ps ps' : List Rc} {S S' : List UInt8} {Q Q' : List (List UInt8)}
theorem SJ.append (k : SJ q w B g gb n h m jp wr fo s L u) (hh : h ≤ 200) (hm : m ≤ 100000) (v : Value) (r : List UInt8) (hv : Bs wr v r) (hvl : r ≠ [] → ∀ i, v.ownBlock = some i → i < q) (hr : r.length ≤ 500)
    (hS : ssnap (L u).d.recs = S) (hQ : srecs (L u).d.recs = Q) (h1 : RV q wr (lvs L) vS vQ ps S Q) (h2 : RV q wr (lvs L) vS' vQ' ps' S (Q ++ [r])) (hc : Bool) (hcf : hc = false) :
    Calls Try.prog 62 #[.pointer (some ⟨jp, 0, none⟩), v] wr fun e w' => ∃ E, e = .returned (.int .i64 E) ∧ Outc q w B g gb n h m jp vS vQ vS' vQ' S Q S (Q ++ [r]) r hc E w' ∧ Only (fun i => stF g gb fo i ∨ lvs L i ∨ i = jp) wr w' := by
  subst hcf
  have hlo := k.lo
  have hhi := k.hi
  refine (jAppend_any wr B jp g gb fo L u h s v r k.j k.st (k.ok u) hlo (by omega) hv (fun hl i hi hf => ?_) k.size).mono ?_
  · have h0 := hvl hl i hi
    rcases hf with hf | hf | hf
    · have := k.stlow i hf; omega
    · have := k.lvlow u i (lv_rows L u i (.inl hf)); omega
    · have := k.lvlow u i (lv_rows L u i (.inr hf)); omega
  rintro e w' ⟨fo', s', x, E, rfl, hst, hj, ho, hfo, hcase, hall⟩
  refine ⟨E, rfl, ?_, ho.mono (fun i _ hi => hi.imp id (fun h => .inl ⟨u, h⟩))⟩
  have hG : ∀ i, (stF g gb fo i ∨ (L u).all i) → q ≤ i := fun i hi => by
    rcases hi with hi | hi
    · exact k.stlow i hi
    · exact k.lvlow u i hi
  have hbel : Below q w w' := k.bel.trans (ho.below hG (Nat.le_trans k.qB k.size))
  have hsz : B ≤ w'.heap.size := Nat.le_trans k.size ho.size
  have r1 := h1.only ho hG (fun i hi hf => by
    rcases hf with hf | hf
    · exact h1.notst k.st i hi hf
    · exact h1.fr i hi ⟨u, hf⟩)
  have r2 := h2.only ho hG (fun i hi hf => by
    rcases hf with hf | hf
    · exact h2.notst k.st i hi hf
    · exact h2.fr i hi ⟨u, hf⟩)
  obtain ⟨d', hd'⟩ : ∃ d, x.d = d := ⟨_, rfl⟩
  have hoth : lset L u x (!u) = L (!u) := lset_other L u x
  have hsame : (lset L u x u).d = d' := by rw [lset_same, hd']
  have hlv : ∀ i, i < wr.heap.size → lvs (lset L u x) i → lvs L i := lvs_set hall
  have r1' : RV q w' (lvs (lset L u x)) vS vQ ps S Q := ⟨r1.s, r1.qs, r1.is, r1.ls, r1.lp, r1.tag, fun i hi hf => by
    obtain ⟨A, hA⟩ := h1.tag i hi
    exact h1.fr i hi (hlv i (heap_lt hA) hf)⟩
  have r2' : RV q w' (lvs (lset L u x)) vS' vQ' ps' S (Q ++ [r]) := ⟨r2.s, r2.qs, r2.is, r2.ls, r2.lp, r2.tag, fun i hi hf => by
    obtain ⟨A, hA⟩ := h2.tag i hi
    exact h2.fr i hi (hlv i (heap_lt hA) hf)⟩
  obtain ⟨i1, i2⟩ := k.inv
  have key : s'.n = s.n → 0 ≤ s'.cnt → s'.cnt ≤ 1000 * (m + 1 : Nat) → LOk s' d' → LOk s' (L (!u)).d → sok d'.recs → (sok (L (!u)).d.recs → sgen (L (!u)).d.recs < sgen d'.recs) → sgen d'.recs ≤ m + 1 → SJ q w B g gb n h (m + 1) jp w' fo' s' (lset L u x) u := fun q1 q2 q3 q4 q5 q6 q7 q8 => by
    refine ⟨hbel, k.qB, hsz, hst, hj, fun i => ?_, q1.trans k.n, q2, q3, ⟨?_, ?_⟩, by rw [hsame]; exact q8⟩
    · rcases bool_two u i with rfl | rfl
      · rw [hsame]; exact q4
      · rw [hoth]; exact q5
    · show sok (lset L u x u).d.recs; rw [hsame]; exact q6
    · show sok (lset L u x (!u)).d.recs → sgen (lset L u x (!u)).d.recs < sgen (lset L u x u).d.recs; rw [hsame, hoth]; exact q7
  have hgen := k.gen
  rw [hd'] at hcase
  cases hcase with
  | bad g1 =>
    have hr0 : r = [] := by
      cases r with
      | nil => rfl
      | cons a b => exact absurd ⟨by simp, by omega⟩ g1
    exact .inr (.inl ⟨.inr ⟨rfl, hr0, rfl⟩, fo', s, lset L u x, u, ps, key rfl hlo (by omega) (k.ok u) (k.ok (!u)) i1 i2 (by omega), by rw [hsame]; exact hS, by rw [hsame]; exact hQ, r1'⟩)
  | full g1 g2 =>
    exact .inr (.inl ⟨.inl rfl, fo', s, lset L u x, u, ps, key rfl hlo (by omega) (k.ok u) (k.ok (!u)) i1 i2 (by omega), by rw [hsame]; exact hS, by rw [hsame]; exact hQ, r1'⟩)
  | ok _ _ g1 g2 g3 =>
    have q1 := g3.lo
    have q2 := g3.hi
    have hf : ∀ j, (L (!u)).d.fr * 64 ≤ j → j < ((L (!u)).d.fr + (L (!u)).d.n) * 64 → s'.f j = s.f j := fun j j1 j2 => by
      rw [k.j.fr] at j1 j2
      rw [k.j.nn] at j2
      have hx := apart_reg h u j j1 j2
      have e2 := g3.f j
      rw [k.j.fr, k.j.nn] at e2
      rw [e2, if_neg (by have : (bi u * h + h) * 64 = bi u * h * 64 + h * 64 := Nat.add_mul _ _ _; omega)]
    have hrec : d'.recs = (L u).d.recs ++ [r] := by rw [g3.d1]
    obtain ⟨a1, a2, a3, a4⟩ := sok_app i1 r
    simp only at a1 a2 a3 a4 i2
    rw [← hrec] at a1 a2 a3 a4
    exact .inl ⟨rfl, fo', s', lset L u x, u, ps', key g3.n (by omega) (by omega) (app_ok (k.ok u) g1 (by rw [k.j.nn]; exact g2) g3) ((k.ok (!u)).other g3.n g3.on hf) a1 (by rw [a2]; exact i2) (by rw [a2]; omega), by rw [hsame, a3, hS], by rw [hsame, a4, hQ], r2'⟩
  | torn _ _ g1 g2 g3 =>
    have q1 := g3.lo
    have q2 := g3.hi
    have hT := torn_app (d := fun i => (L i).d) k.ok k.j.fr k.j.nn k.inv (m := m + 1) (by show sgen (L u).d.recs ≤ m + 1; omega) g1 (by omega) g2 g3
    rw [hS, hQ] at hT
    exact .inr (.inr ⟨rfl, fo', s', ps, ps', hst, g3.off, g3.fu, g3.n.trans k.n, by omega, by omega, hbel, hsz, hT, r1.free (fun _ _ h => h.elim), r2.free (fun _ _ h => h.elim)⟩)

theorem SJ.compact (k : SJ q w B g gb n h m jp wr fo s L u) (hh : h ≤ 200) (hm : m ≤ 100000) (v : Value) (r : List UInt8) (hv : Bs wr v r) (hvl : r ≠ [] → ∀ i, v.ownBlock = some i → i < q) (hr : r.length ≤ 500)
    (hS : ssnap (L u).d.recs = S) (hQ : srecs (L u).d.recs = Q) (h1 : RV q wr (lvs L) vS vQ ps S Q) (h2 : RV q wr (lvs L) vS' vQ' ps' r []) (c : Bool) :
    Calls Try.prog 61 #[.pointer (some ⟨jp, 0, none⟩), v] wr fun e w' => ∃ E, e = .returned (.int .i64 E) ∧ Outc q w B g gb n h m jp vS vQ vS' vQ' S Q r [] r c E w' ∧ Only (fun i => stF g gb fo i ∨ lvs L i ∨ i = jp) wr w' := by
  have hlo := k.lo
  have hhi := k.hi
  have hgen := k.gen
  refine (jCompact_any wr B jp g gb fo L u h s v r k.j k.st (k.ok (!u)) (by omega) hlo (by omega) hv (fun hl i hi hf => ?_) (by omega) k.size).mono ?_
  · have h0 := hvl hl i hi
    rcases hf with hf | hf | hf
    · have := k.stlow i hf; omega
    · have := k.lvlow (!u) i (lv_rows L (!u) i (.inl hf)); omega
    · have := k.lvlow (!u) i (lv_rows L (!u) i (.inr hf)); omega
  rintro e w' ⟨fo', s', x, E, mv, dd, rfl, hst, hj, ho, hfo, hcase, hall⟩
  refine ⟨E, rfl, ?_, ho.mono (fun i _ hi => hi.imp id (fun h => h.imp (fun h => ⟨_, h⟩) id))⟩
  have hG : ∀ i, (stF g gb fo i ∨ (L (!u)).all i ∨ i = jp) → q ≤ i := fun i hi => by
    rcases hi with hi | hi | hi
    · exact k.stlow i hi
    · exact k.lvlow (!u) i hi
    · rw [hi]; exact k.jplow
  have hbel : Below q w w' := k.bel.trans (ho.below hG (Nat.le_trans k.qB k.size))
  have hsz : B ≤ w'.heap.size := Nat.le_trans k.size ho.size
  have r1 := h1.only ho hG (fun i hi hf => by
    rcases hf with hf | hf | hf
    · exact h1.notst k.st i hi hf
    · exact h1.fr i hi ⟨_, hf⟩
    · exact h1.notjp k.j.row (hf ▸ hi))
  have r2 := h2.only ho hG (fun i hi hf => by
    rcases hf with hf | hf | hf
    · exact h2.notst k.st i hi hf
    · exact h2.fr i hi ⟨_, hf⟩
    · exact h2.notjp k.j.row (hf ▸ hi))
  obtain ⟨d', hd'⟩ : ∃ d, x.d = d := ⟨_, rfl⟩
  have hoth : lset L (!u) x u = L u := lset_other' L u x
  have hsame : (lset L (!u) x (!u)).d = d' := by rw [lset_same, hd']
  have hlv : ∀ i, i < wr.heap.size → lvs (lset L (!u) x) i → lvs L i := lvs_set hall
  have r1' : RV q w' (lvs (lset L (!u) x)) vS vQ ps S Q := ⟨r1.s, r1.qs, r1.is, r1.ls, r1.lp, r1.tag, fun i hi hf => by
    obtain ⟨A, hA⟩ := h1.tag i hi
    exact h1.fr i hi (hlv i (heap_lt hA) hf)⟩
  have r2' : RV q w' (lvs (lset L (!u) x)) vS' vQ' ps' r [] := ⟨r2.s, r2.qs, r2.is, r2.ls, r2.lp, r2.tag, fun i hi hf => by
    obtain ⟨A, hA⟩ := h2.tag i hi
    exact h2.fr i hi (hlv i (heap_lt hA) hf)⟩
  obtain ⟨i1, i2⟩ := k.inv
  rw [hd'] at hcase
  have hnn : (L (!u)).d.n = h := k.j.nn _
  cases hcase with
  | full g2 =>
    rw [Bool.xor_false] at hj
    refine .inr (.inl ⟨.inl rfl, fo', s, lset L (!u) x, u, ps, ⟨hbel, k.qB, hsz, hst, hj, fun i => ?_, k.n, hlo, by omega, ⟨?_, ?_⟩, by rw [hoth]; omega⟩, by rw [hoth]; exact hS, by rw [hoth]; exact hQ, r1'⟩)
    · rcases bool_two u i with rfl | rfl
      · rw [hoth]; exact k.ok _
      · rw [hsame]; exact k.ok _
    · show sok (lset L (!u) x u).d.recs; rw [hoth]; exact i1
    · show sok (lset L (!u) x (!u)).d.recs → sgen (lset L (!u) x (!u)).d.recs < sgen (lset L (!u) x u).d.recs; rw [hoth, hsame]; exact i2
  | ok _ _ g2 g3 =>
    rw [Bool.xor_true] at hj
    cases g3 with
    | ok s1 d1 hW hA =>
      obtain ⟨k1, k2, k3, k4, -, k6⟩ := ren_ok (k.ok (!u)) ⟨by rw [srec_len]; omega, by rw [srec_len]; omega⟩ (by rw [hnn]; exact g2) hW hA
      have q1 := hW.lo
      have q2 := hW.hi
      have q3 := hA.lo
      have q4 := hA.hi
      have hf : ∀ j, (L u).d.fr * 64 ≤ j → j < ((L u).d.fr + (L u).d.n) * 64 → s'.f j = s.f j := fun j j1 j2 => by
        rw [k.j.fr] at j1 j2
        rw [k.j.nn] at j2
        refine k6 j ?_
        rw [k.j.fr, hnn]
        exact apart_reg h (!u) j (by rw [Bool.not_not]; exact j1) (by rw [Bool.not_not]; exact j2)
      have hsg := sgen_srec (g := sgen (L u).d.recs + 1) (by omega) r []
      refine .inl ⟨rfl, fo', s', lset L (!u) x, !u, ps', ⟨hbel, k.qB, hsz, hst, hj, fun i => ?_, (hA.n.trans hW.n).trans k.n, by omega, by omega, ⟨?_, ?_⟩, by rw [hsame, k2, hsg]; omega⟩, by rw [hsame, k2, ssnap_srec], by rw [hsame, k2, srecs_srec], r2'⟩
      · rcases bool_two u i with rfl | rfl
        · rw [hoth]; exact (k.ok i).other (hA.n.trans hW.n) hA.on hf
        · rw [hsame]; exact k1
      · show sok (lset L (!u) x (!u)).d.recs; rw [hsame, k2]; exact sok_srec _ _ _
      · show sok (lset L (!u) x (!(!u))).d.recs → sgen (lset L (!u) x (!(!u))).d.recs < sgen (lset L (!u) x (!u)).d.recs
        rw [Bool.not_not, hoth, hsame, k2, hsg]
        intro _; omega
  | torn _ _ g2 g3 =>
    have hT := torn_com (d := fun i => (L i).d) k.ok k.j.fr k.j.nn hh k.inv (m := m) hgen (by omega) (by omega) g2 g3
    rw [hS, hQ] at hT
    have hst4 : s'.off = true ∧ s'.fu = none ∧ s'.n = s.n ∧ s.cnt ≤ s'.cnt ∧ s'.cnt ≤ s.cnt + 2 * h := by
      cases g3 with
      | wipe hT =>
        have q2 := hT.hi
        rw [hnn] at q2
        exact ⟨hT.off, hT.fu, hT.n, hT.lo, by omega⟩
      | app s1 d1 hW hT =>
        have q1 := hW.lo
        have q2 := hW.hi
        have q3 := hT.lo
        have q4 := hT.hi
        rw [hnn] at q2 q4
        exact ⟨hT.off, hT.fu, hT.n.trans hW.n, by omega, by omega⟩
    obtain ⟨p1, p2, p3, p4, p5⟩ := hst4
    exact .inr (.inr ⟨rfl, fo', s', ps, ps', hst, p1, p2, p3.trans k.n, by omega, by omega, hbel, hsz, hT, r1.free (fun _ _ h => h.elim), r2.free (fun _ _ h => h.elim)⟩)
end

end Go.Proofs.Ytbonapdainlpjaa
