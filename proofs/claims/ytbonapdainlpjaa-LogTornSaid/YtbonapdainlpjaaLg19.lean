/- Layer 35 (log): what a live log answers to a record, whatever it is; where the power may go; opened again. -/
import Derived.Test.YtbonapdainlpjaaLg18
set_option linter.unusedSimpArgs false
namespace Go.Proofs.Ytbonapdainlpjaa
open Go.RowKit Go.Sort

structure LTi (w : World) (g gb lg bb bc k : Nat) (W : World) (s : BSt) (d : Lg) (vr : Value) (ps : List Rc) : Prop where
  st : StAt W w.heap.size g gb none s
  lo : LoAt W w.heap.size lg bb bc g vr ps d
  ok : LOk s d
  fr : d.fr = 0
  nn : d.n = 60
  sn : s.n = 60
  fu : s.fu = none
  c0 : 0 ≤ s.cnt
  c1 : s.cnt ≤ 60 * (k + 1 : Nat)
  bel : Below w.heap.size w W

section
variable {w W W' : World} {g gb lg bb bc k : Nat} {s : BSt} {d : Lg} {vr : Value} {ps : List Rc}
theorem LTi.below (h : LTi w g gb lg bb bc k W s d vr ps) (hb : Below W.heap.size W W') : LTi w g gb lg bb bc k W' s d vr ps :=
  ⟨h.st.below hb, h.lo.below hb, h.ok, h.fr, h.nn, h.sn, h.fu, h.c0, h.c1, h.bel.trans (hb.mono h.bel.size)⟩
theorem LTi.next (h : LTi w g gb lg bb bc k W s d vr ps) : LTi w g gb lg bb bc (k + 1) W s d vr ps :=
  ⟨h.st, h.lo, h.ok, h.fr, h.nn, h.sn, h.fu, h.c0, by have := h.c1; omega, h.bel⟩

theorem arg_off {v : Value} {r : List UInt8} (hv : Bs w v r) (hne : r ≠ []) {g' gb' : Nat} {fo : Option Nat} {s' : BSt} (hst : StAt W w.heap.size g' gb' fo s') (hlo : LoAt W w.heap.size lg bb bc g vr ps d) :
    ∀ q, v.ownBlock = some q → ¬ (stF g' gb' fo q ∨ q = lg ∨ q = bb) := by
  intro q hq hf
  have h1 := hv.lt hne q hq
  rcases hf with hf | hf | hf
  · have := (hst.foot q hf).1; omega
  · have := hlo.low; omega
  · have := hlo.lowb; omega

/-- whatever the record: the log goes on as a live one -/
theorem LTi.app (h : LTi w g gb lg bb bc k W s d vr ps) (hk : k ≤ 1000) (v : Value) (r : List UInt8) (hv : Bs w v r) :
    Calls Try.prog 51 #[.pointer (some ⟨lg, 0, none⟩), v] W fun e W' => ∃ E, e = .returned (.int .i64 E) ∧ ∃ s' d' vr' ps', LTi w g gb lg bb bc (k + 1) W' s' d' vr' ps' := by
  by_cases hg : lgood r
  · have hne : r ≠ [] := by intro e; rw [e] at hg; exact absurd hg.1 (by simp)
    by_cases hf : d.n * 64 < d.fin + (lstands r).length
    · refine (lAppend_full W w.heap.size lg bb bc g vr ps d v r h.lo h.ok.live (hv.below h.bel) hg hf).mono fun e W' hh => ?_
      exact ⟨51, hh.1, s, d, vr, ps, (h.below hh.2).next⟩
    · refine (lAppend_any W w.heap.size lg bb bc g gb none vr ps s d v r h.st h.lo h.ok.live h.ok.on h.ok.sync h.ok.tail h.ok.fit h.c0 (by have := h.c1; omega) (hv.below h.bel) (arg_off hv hne h.st h.lo) hg (by omega) h.bel.size).mono fun e W' hh => ?_
      obtain ⟨s', d', vr', ps', he, hst, hlo, hA, hfu, ho, _, _⟩ := hh.ok h.fu
      have hd := hA.d1
      refine ⟨0, he, s', d', vr', ps', hst, hlo, app_ok h.ok hg (by omega) hA, by rw [hd]; exact h.fr, by rw [hd]; exact h.nn, by rw [hA.n]; exact h.sn, hfu, ?_, ?_, ?_⟩
      · have := hA.lo; have := h.c0; omega
      · have h1 := hA.hi; rw [h.nn] at h1; have := h.c1; omega
      · refine h.bel.trans (ho.below (fun q hq => ?_) h.bel.size)
        rcases hq with hq | hq | hq | hq
        · exact (h.st.foot q hq).1
        · rw [hq]; exact h.lo.low
        · rw [hq]; exact h.lo.lowb
        · exact (h.lo.recs.lt q hq).1
  · refine (lAppend_bad W w.heap.size lg bb bc g vr ps d v r h.lo h.ok.live (hv.below h.bel) hg).mono fun e W' hh => ?_
    obtain ⟨he, rfl⟩ := hh
    exact ⟨2, he, s, d, vr, ps, h.next⟩
end

/-- behind the append in which the power may have gone -/
structure TRi (w : World) (g gb lg bb bc : Nat) (W : World) (record : List UInt8) (was : List (List UInt8)) (fin : Nat) (E : Int) (b : Bool) (fo : Option Nat) (s : BSt) (d : Lg) (vr : Value) (ps : List Rc) : Prop where
  st : StAt W w.heap.size g gb fo s
  lo : LoAt W w.heap.size lg bb bc g vr ps d
  out : (E = 0 ∧ b = true) ∨ (E = 50 ∧ d.dead = true ∧ d.recs = was)
  byte : s.f (fin + (lstands record).length - 1) = if b then 165 else 0
  reg : Reg record s.f (if b then was ++ [record] else was)
  sn : s.n = 60
  c0 : 0 ≤ s.cnt
  c1 : s.cnt ≤ 2000
  bel : Below w.heap.size w W

theorem LTi.last {w W : World} {g gb lg bb bc k : Nat} {s : BSt} {d : Lg} {vr : Value} {ps : List Rc} (h : LTi w g gb lg bb bc k W s d vr ps) (hk : k ≤ 12) {W1 : World} {fo : Option Nat} (x y : Int) (hx : 0 ≤ x) (hy : 0 ≤ y) (hst : StAt W1 w.heap.size g gb fo (bset s x y)) (hlo : LoAt W1 w.heap.size lg bb bc g vr ps d)
    (hb1 : Below w.heap.size w W1) (v : Value) (r : List UInt8) (hv : Bs w v r) (h1 : 1 ≤ r.length) (h2 : r.length ≤ 400) (hf : d.fin + (lstands r).length ≤ d.n * 64) :
    Calls Try.prog 51 #[.pointer (some ⟨lg, 0, none⟩), v] W1 fun e W' => ∃ E, e = .returned (.int .i64 E) ∧ ∃ b fo' s' d' vr' ps', TRi w g gb lg bb bc W' r d.recs d.fin E b fo' s' d' vr' ps' ∧ Only (fun q => stF g gb fo q ∨ q = lg ∨ q = bb ∨ vr.ownBlock = some q) W1 W' := by
  have hg : lgood r := ⟨h1, by omega⟩
  have hne : r ≠ [] := by intro e; rw [e] at h1; simp at h1
  have hok := h.ok.set x y hx hy
  have hc : (bset s x y).cnt = s.cnt := by rw [bset_eq s x y hx hy]
  have hn : (bset s x y).n = s.n := by rw [bset_eq s x y hx hy]
  refine (lAppend_any W1 w.heap.size lg bb bc g gb fo vr ps (bset s x y) d v r hst hlo hok.live hok.on hok.sync hok.tail hok.fit (by rw [hc]; exact h.c0) (by rw [hc]; have := h.c1; omega) (hv.below hb1) (arg_off hv hne hst hlo) hg hf hb1.size).mono fun e W' hh => ?_
  obtain ⟨fo', s', d', vr', ps', E, he, hst', hlo', hr, ho, hfo', _, _⟩ := hh
  have hbel : Below w.heap.size w W' := by
    refine hb1.trans (ho.below (fun q hq => ?_) hb1.size)
    rcases hq with hq | hq | hq | hq
    · exact (hst.foot q hq).1
    · rw [hq]; exact hlo.low
    · rw [hq]; exact hlo.lowb
    · exact (hlo.recs.lt q hq).1
  refine ⟨E, he, ?_⟩
  rcases hr with ⟨rfl, _, hA⟩ | ⟨rfl, rfl, rfl, hT⟩
  · have hok' := app_ok hok hg hf hA
    have hd := hA.d1
    have h0' : d'.fr = 0 := by rw [hd]; exact h.fr
    have h60' : d'.n = 60 := by rw [hd]; exact h.nn
    refine ⟨true, fo', s', d', vr', ps', ⟨hst', hlo', .inl ⟨rfl, rfl⟩, ?_, ?_, by rw [hA.n, hn]; exact h.sn, ?_, ?_, hbel⟩, ho⟩
    · have hF := hA.f (d.fin + (lstands r).length - 1)
      have hp : 1 ≤ (lstands r).length := by rw [lstands_len]; omega
      rw [h.fr, Nat.zero_mul, Nat.zero_add, if_pos ⟨Nat.zero_le _, by omega⟩, Nat.sub_zero, show d.fin + (lstands r).length - 1 = d.fin + ((lstands r).length - 1) by omega, lapp_mid hok.blen hf (by omega), last_165] at hF
      rw [show d.fin + (lstands r).length - 1 = d.fin + ((lstands r).length - 1) by omega, hF]
      rfl
    · have := hok'.reg r h0' h60'
      rw [hd] at this
      exact this
    · have := hA.lo; rw [hc] at this; have := h.c0; omega
    · have h3 := hA.hi; rw [hc, h.nn] at h3; have := h.c1; omega
  · obtain ⟨b, hb, hreg⟩ := torn_reg hok h.fr h.nn hg hf hT
    refine ⟨b, fo', s', d', _, _, ⟨hst', hlo', .inr ⟨rfl, hT.dead, hT.recs⟩, hb, hreg, by rw [hT.n, hn]; exact h.sn, ?_, ?_, hbel⟩, ho⟩
    · have := hT.lo; rw [hc] at this; have := h.c0; omega
    · have h3 := hT.hi; rw [hc, h.nn] at h3; have := h.c1; omega

/-- a store that is on, and what stands on it -/
structure TSi (w : World) (g gb : Nat) (W : World) (record : List UInt8) (R : List (List UInt8)) (fo : Option Nat) (s : BSt) : Prop where
  st : StAt W w.heap.size g gb fo s
  reg : Reg record s.f R
  on : s.off = false
  sn : s.n = 60
  c0 : 0 ≤ s.cnt
  c1 : s.cnt ≤ 3000
  bel : Below w.heap.size w W

/-- an open log behind all that -/
structure TOi (w : World) (g gb lg bb bc : Nat) (W : World) (R : List (List UInt8)) (fo : Option Nat) (s : BSt) (d : Lg) (vr : Value) (ps : List Rc) : Prop where
  st : StAt W w.heap.size g gb fo s
  lo : LoAt W w.heap.size lg bb bc g vr ps d
  ok : LOk s d
  fr : d.fr = 0
  nn : d.n = 60
  recs : d.recs = R
  c0 : 0 ≤ s.cnt
  c1 : s.cnt ≤ 4000
  bel : Below w.heap.size w W

def TOpen (w : World) (g gb : Nat) (W : World) (fo : Option Nat) (record : List UInt8) (R : List (List UInt8)) (fu : Option (Int × Int)) (e : Ending) (W' : World) : Prop :=
  ∃ y E, e = .returned (.tuple #[y, .int .i64 E]) ∧ Only (stF g gb fo) W W' ∧ ∃ fo' s', ((E = 0 ∧ ∃ lg bb bc d vr ps, y = .pointer (some ⟨lg, 0, none⟩) ∧ TOi w g gb lg bb bc W' R fo' s' d vr ps) ∨
    (E = 50 ∧ y = .pointer none ∧ fu ≠ none ∧ s'.off = true ∧ StAt W' w.heap.size g gb fo' s' ∧ Reg record s'.f R ∧ s'.n = 60 ∧ 0 ≤ s'.cnt ∧ s'.cnt ≤ 3500 ∧ Below w.heap.size w W'))

set_option maxRecDepth 100000 in
theorem TSi.open_ {w W : World} {g gb : Nat} {record : List UInt8} {R : List (List UInt8)} {fo : Option Nat} {s : BSt} (h : TSi w g gb W record R fo s) (h1 : 1 ≤ record.length) (h2 : record.length ≤ 400) :
    Calls Try.prog 43 #[.pointer (some ⟨g, 0, none⟩), .int .i64 0, .int .i64 60] W (TOpen w g gb W fo record R s.fu) := by
  refine (lOpen_any W w.heap.size g gb fo s 0 60 h.st h.on (by omega) (by rw [h.sn]; omega) h.c0 (by have := h.c1; omega) h.bel.size).mono fun e W' hh => ?_
  obtain ⟨fo', s', d', E, hst, ho, hfo', hr⟩ := hh
  have hrec := h.reg.recs h1 h2
  have hbel : Below w.heap.size w W' := h.bel.trans (ho.below (fun q hq => (h.st.foot q hq).1) h.bel.size)
  rcases hr with ⟨rfl, hW, lg, bb, bc, vr, ps, he, hlo⟩ | ⟨rfl, hT, he⟩
  · obtain ⟨hok, h3, h4, h5, h6⟩ := opened_ok (by rw [h.sn]; omega) hW
    rw [lreg0, hrec] at h5 h6
    refine ⟨_, _, he, ho, fo', s', .inl ⟨rfl, lg, bb, bc, d', vr, ps, rfl, hst, hlo.mono h.bel.size, hok, h3, h4, h5, ?_, ?_, hbel⟩⟩
    · have := hW.lo; have := h.c0; omega
    · have := hW.hi; have := h.c1; omega
  · refine ⟨_, _, he, ho, fo', s', .inr ⟨rfl, rfl, hT.fu0, hT.off, hst, h.reg.zero (fun j => ?_), by rw [hT.n]; exact h.sn, ?_, ?_, hbel⟩⟩
    · have hf := hT.f j
      have hfin : (lopen s 0 60).fin = (lall R).length := by show (lrecs (lreg s 0 60)).2 = _; rw [lreg0, hrec]
      rcases hf with hf | ⟨hf1, hf2, hf3⟩
      · exact .inl hf
      · right
        have hf1' : 0 * 64 + (lopen s 0 60).fin ≤ j := hf1
        have hf2' : j < (0 + 60) * 64 := hf2
        rw [hfin] at hf1'
        exact ⟨by omega, by omega, hf3⟩
    · have := hT.lo; have := h.c0; omega
    · have := hT.hi; have := h.c1; omega

end Go.Proofs.Ytbonapdainlpjaa
