/- Layer 36 (snap): the journal opened anew, in the law's state. -/
import Derived.Test.YtbonapdainlpjaaSp17
set_option linter.unusedSimpArgs false
namespace Go.Proofs.Ytbonapdainlpjaa
open Go.RowKit Go.Sort

section
variable {q : Nat} {w wr w' : World} {B g gb n h m jp : Nat} {fo : Option Nat} {s : BSt} {L : Bool → LV} {u : Bool}
/-- what an opened journal is -/
def Opnd (q : Nat) (w : World) (B g gb n h m : Nat) (wr : World) (fo : Option Nat) (R : Bool → List (List UInt8)) (u : Bool) (e : Ending) (w' : World) : Prop :=
  ∃ jp fo' s' L, e = .returned (.tuple #[.pointer (some ⟨jp, 0, none⟩), .int .i64 0]) ∧ SJ q w B g gb n h m jp w' fo' s' L u ∧ (L u).d.recs = R u ∧ (∀ k, lvs L k → wr.heap.size ≤ k) ∧ Only (stF g gb fo) wr w'

theorem open_any {R : Bool → List (List UInt8)} (hst : StAt wr B g gb fo s) (hon : s.off = false) (hn : s.n = n) (hh : n / 2 = h) (h1 : 1 ≤ h) (hh2 : h ≤ 200) (hlo : 0 ≤ s.cnt) (hhi : s.cnt + 4 * h ≤ 1000 * m) (hm : m ≤ 100000) (hsafe : Safe s (4 * h)) (hbel : Below q w wr) (hqB : q ≤ B) (hB : B ≤ wr.heap.size)
    (hb : Bank s h R) (hI : InvR R u) (hg : sgen (R u) ≤ m) : Calls Try.prog 56 #[.pointer (some ⟨g, 0, none⟩)] wr (Opnd q w B g gb n h m wr fo R u) := by
  obtain ⟨e1, e2⟩ := hI.pick
  have b0 := hb false
  have b1 := hb true
  rw [show bi false * h = 0 by simp [bi]] at b0
  rw [show bi true * h = h by simp [bi]] at b1
  refine (jOpen_any wr B g gb fo s h (R false) (R true) hst hon (by rw [hn]; exact hh) h1 hlo (by omega) hsafe hB b0 b1).mono ?_
  rintro e w' ⟨fo', s', hst', ho, hfo, hk, hr⟩
  rw [e1, e2] at hr
  rcases hr with ⟨_, jp, L, rfl, hj, hjp, hL, hnew⟩ | ⟨h3, _⟩
  · have hrec : ∀ i, (L i).d.recs = R i := fun i => by rw [(hL i).2, e2]
    have hkl := hk.lo
    have hkh := hk.hi
    refine ⟨jp, fo', s', L, rfl, ⟨hbel.trans (ho.below (fun k hk => Nat.le_trans hqB (hst.foot k hk).1) (Nat.le_trans hqB hB)), hqB, Nat.le_trans hB ho.size, hst', hj, fun i => (hL i).1, by rw [hk.n]; exact hn, by omega, by omega, ?_, by rw [hrec]; exact hg⟩, hrec u, fun k ⟨i, hi⟩ => hnew i k hi, ho⟩
    show InvR (fun i => (L i).d.recs) u
    rw [show (fun i => (L i).d.recs) = R from funext hrec]
    exact hI
  · omega

/-- a journal that is well, opened again -/
theorem SJ.reopen (k : SJ q w B g gb n h m jp wr fo s L u) (hh : n / 2 = h) (h1 : 1 ≤ h) (hh2 : h ≤ 200) (hm : m ≤ 90000) (hsafe : Safe s (4 * h)) :
    Calls Try.prog 56 #[.pointer (some ⟨g, 0, none⟩)] wr (Opnd q w B g gb n h (m + 1) wr fo (fun i => (L i).d.recs) u) := by
  have hhi := k.hi
  have hgen := k.gen
  exact open_any (R := fun i => (L i).d.recs) k.st (k.ok u).on k.n hh h1 hh2 k.lo (by omega) (by omega) hsafe k.bel k.qB k.size (Bank.of (d := fun i => (L i).d) k.ok k.j.fr k.j.nn) k.inv (by show sgen (L u).d.recs ≤ m + 1; omega)
/-- what is asked of a journal -/
structure JR (w : World) (jp : Nat) (R : List (List UInt8)) : Prop where
  gen : ∀ V, Below w.heap.size w V → Calls Try.prog 58 #[.pointer (some ⟨jp, 0, none⟩)] V fun e w' => e = .returned (.int .i64 (sgen R : Nat)) ∧ Below V.heap.size V w'
  snap : ∀ V, Below w.heap.size w V → Calls Try.prog 59 #[.pointer (some ⟨jp, 0, none⟩)] V (SnapPost V (ssnap R))
  recs : ∀ V, Below w.heap.size w V → Calls Try.prog 60 #[.pointer (some ⟨jp, 0, none⟩)] V (RecsPost V (srecs R))
theorem JR.of {dead : Bool} {R : List (List UInt8)} (hj : JAt w B jp g L u h dead) (hr : (L u).d.recs = R) (hs : sok R) (hgd : ∀ r ∈ R, lgood r) (hle : sgen R ≤ 4611686018427387904) : JR w jp R := by
  subst hr
  exact ⟨fun V hV => jGeneration_any V B jp g L u h dead (hj.below hV) hle, fun V hV => jSnapshot_any V B jp g L u h dead (hj.below hV) hs hgd, fun V hV => jRecords_any V B jp g L u h dead (hj.below hV) hs⟩
theorem SJ.jr (k : SJ q w B g gb n h m jp wr fo s L u) (hm : m ≤ 100000) : JR wr jp (L u).d.recs := JR.of k.j rfl k.inv.1 (k.ok u).good (by have := k.gen; omega)
end

end Go.Proofs.Ytbonapdainlpjaa
