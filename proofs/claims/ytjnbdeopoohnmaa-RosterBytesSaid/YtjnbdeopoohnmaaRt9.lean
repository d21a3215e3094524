/- Layer 56 (roster), the document's side: Block. -/
import Derived.Test.YtjnbdeopoohnmaaRt8
import Derived.Deep.DeepCutAuto
import Derived.Deep.CutBlock
import Derived.Lib.QuietBelow
import Derived.Lib.SliceRun
set_option linter.unusedSimpArgs false
namespace Go.Proofs.Ytjnbdeopoohnmaa
open Go.RowKit Go.Sort

/-- the place of an account's number; the length: none -/
def aix : List AcD → Int → Nat
  | [], _ => 0
  | a :: r, id => if a.id = id then 0 else aix r id + 1
theorem aix_some : ∀ {D : List AcD} {id : Int} {k : Nat} {a : AcD}, D[k]? = some a → a.id = id → (∀ (j : Nat) (b : AcD), j < k → D[j]? = some b → b.id ≠ id) → aix D id = k
  | [], _, _, _, h, _, _ => by simp at h
  | x :: r, id, 0, a, h, h2, _ => by
    simp at h; subst h
    show (if x.id = id then 0 else _) = 0
    rw [if_pos h2]
  | x :: r, id, k + 1, a, h, h2, h3 => by
    show (if x.id = id then 0 else _) = k + 1
    rw [if_neg (h3 0 x (by omega) rfl), aix_some (by simpa using h) h2 (fun j b hj hb => h3 (j + 1) b (by omega) (by simpa using hb))]
theorem aix_none : ∀ {D : List AcD} {id : Int}, (∀ b ∈ D, b.id ≠ id) → aix D id = D.length
  | [], _, _ => rfl
  | x :: r, id, h => by
    show (if x.id = id then 0 else _) = _
    rw [if_neg (h x (by simp)), aix_none (fun b hb => h b (by simp [hb]))]
    rfl
theorem AIdx.aix {l : List AcX} {id : Int} {r : Option Nat} (h : AIdx l id r) : aix (accD l) id = r.getD l.length := by
  cases r with
  | none =>
    rw [aix_none (fun b hb => ?_), accD_len]
    · rfl
    · obtain ⟨k, hk⟩ := List.getElem?_of_mem hb
      have hkl := (List.getElem?_eq_some_iff.1 hk).1
      rw [accD_len] at hkl
      have h1 := accD_get (List.getElem?_eq_getElem hkl)
      rw [hk] at h1
      cases h1
      exact h k _ hkl (List.getElem?_eq_getElem hkl)
  | some k =>
    obtain ⟨⟨x, hx, he⟩, hno⟩ := h
    show Go.Proofs.Ytjnbdeopoohnmaa.aix (accD l) id = k
    refine aix_some (accD_get hx) he (fun j b hj hb => ?_)
    have hjl : j < l.length := by have := (List.getElem?_eq_some_iff.1 hx).1; omega
    have h1 := accD_get (List.getElem?_eq_getElem hjl)
    rw [hb] at h1
    cases h1
    exact hno j _ hj (List.getElem?_eq_getElem hjl)
/-- an account made another -/
def aput (D : List AcD) (id : Int) (f : AcD → AcD) : List AcD := match D[aix D id]? with
  | none => D
  | some a => D.set (aix D id) (f a)
theorem accD_set (l : List AcX) (k : Nat) (x : AcX) : accD (l.set k x) = (accD l).set k x.1 := by unfold accD; rw [List.map_set]
theorem AIdx.put {l : List AcX} {id : Int} {k : Nat} {x : AcX} (h : AIdx l id (some k)) (hx : l[k]? = some x) (y : AcX) (f : AcD → AcD) (hy : y.1 = f x.1) : accD (l.set k y) = aput (accD l) id f := by
  have h1 := h.aix
  rw [Option.getD_some] at h1
  unfold aput
  rw [h1, accD_get hx, accD_set, hy]

def turnE (D : List AcD) (id : Int) (may : Bool) (e : Int) : Int := if aright D = false ∨ ¬ (1 ≤ id ∧ id ≤ 2147483648) ∨ may = false then 2 else if aix D id = D.length then 30 else e
def bmay (u : Int) : Bool := decide (-1 ≤ u ∧ u ≤ 1099511627776)
def bput (u : Int) (a : AcD) : AcD := ⟨a.id, max a.bl u, a.sp⟩
def blockE (D : List AcD) (id u : Int) : Int := turnE D id (bmay u) 0
def blockL (D : List AcD) (id u : Int) : List AcD := if blockE D id u = 0 then aput D id (bput u) else []
def RosPost (w : World) (L : List AcD) (E : Int) (e : Ending) (w' : World) : Prop := ∃ v M, e = .returned (.tuple #[v, .int .i64 E]) ∧ Acs w' v M ∧ accD M = L ∧ Below w.heap.size w w'
theorem acs_nil (w : World) : Acs w (.slice none 0 0) [] := ⟨Gs.nil _, by simp⟩

set_option maxRecDepth 100000 in
set_option maxHeartbeats 1600000 in
theorem rrtBlock_any (v : Value) (l : List AcX) (id u : Int) (w : World) (h : Acs w v l) (hl : l.length ≤ 100000) (hu : IW u) : Calls Try.prog 31 #[v, .int .i64 id, .int .i64 u] w (RosPost w (blockL (accD l) id u) (blockE (accD l) id u)) := by
  unfold RosPost
  obtain ⟨n, hn⟩ : ∃ n, l.length = n := ⟨_, rfl⟩
  have C1 := Lib.hid (rrtRight_any v l w h)
  have C2 := Lib.hid (fun V => from_any id 1 2147483648 V)
  have C3 := Lib.hid (fun V => from_any u (-1) 1099511627776 V)
  have C4 := Lib.hid (fun V (hV : Below w.heap.size w V) => rrtFind_any v l id V (h.1.below hV))
  have C5 := Lib.hid (fun V (hV : Below w.heap.size w V) k x => rrtWith_any v l k x V (h.1.below hV) hl)
  obtain ⟨a, c, b, o, rfl, h1, h2, hix, hlt', hcell, -⟩ := h.1.open_n layA elA n hn
  have HC := Lib.hid hcell
  have HN := Lib.hid hn
  have HLT := Lib.hid hlt'
  have HIX := Lib.hid hix
  have HH := Lib.hid h
  obtain ⟨b0, hb0⟩ : ∃ b, aright (accD l) = b := ⟨_, rfl⟩
  obtain ⟨b1, hb1⟩ : ∃ b, decide (1 ≤ id ∧ id ≤ 2147483648) = b := ⟨_, rfl⟩
  obtain ⟨b2, hb2⟩ : ∃ b, decide (-1 ≤ u ∧ u ≤ 1099511627776) = b := ⟨_, rfl⟩
  rw [hb0] at C1
  rw [hb1] at C2
  rw [hb2] at C3
  obtain ⟨E, hE⟩ : ∃ E, blockE (accD l) id u = E := ⟨_, rfl⟩
  obtain ⟨L, hL⟩ : ∃ L, blockL (accD l) id u = L := ⟨_, rfl⟩
  have HE : Hid (E = if b0 = false ∨ b1 = false ∨ b2 = false then 2 else if aix (accD l) id = (accD l).length then 30 else 0) := by
    show _ = _
    rw [← hE, ← hb0, ← hb1, ← hb2]
    unfold blockE turnE bmay
    simp only [decide_eq_false_iff_not]
  have HL : Hid (L = if E = 0 then aput (accD l) id (bput u) else []) := by show _ = _; rw [← hL, ← hE]; rfl
  rw [hE, hL]
  clear h hn hcell hlt' hix hb0 hb1 hb2 hE hL
  go_enter Try.func31, Try.ntmps31
  go_wp2_with fail
  refine C1.out.mono ?_
  rintro e w2 ⟨rfl, hb2⟩
  have HB2 := Lib.hid hb2
  clear hb2 C1
  have HBAD : Hid (E = 2 → L = []) := fun h => by rw [HL.out, if_neg (by rw [h]; decide)]
  cases b0 with
  | false =>
    have HEE : Hid (E = 2) := by show _ = _; rw [HE.out]; rfl
    go_wp2
    go_ret2
    exact ⟨.slice none 0 0, [], by rw [HEE.out]; rfl, acs_nil _, by rw [HBAD.out HEE.out]; rfl, HB2.out⟩
  | true =>
  cases b1 with
  | false =>
    have HEE : Hid (E = 2) := by show _ = _; rw [HE.out]; rfl
    go_wp2_with (go_at_call 61; first | ((with_reducible refine (C2.out _).mono ?_); rintro e w' ⟨rfl, rfl⟩) | ((with_reducible refine (C3.out _).mono ?_); rintro e w' ⟨rfl, rfl⟩))
    go_ret2
    exact ⟨.slice none 0 0, [], by rw [HEE.out]; rfl, acs_nil _, by rw [HBAD.out HEE.out]; rfl, HB2.out⟩
  | true =>
  cases b2 with
  | false =>
    have HEE : Hid (E = 2) := by show _ = _; rw [HE.out]; rfl
    go_wp2_with (go_at_call 61; first | ((with_reducible refine (C2.out _).mono ?_); rintro e w' ⟨rfl, rfl⟩) | ((with_reducible refine (C3.out _).mono ?_); rintro e w' ⟨rfl, rfl⟩))
    go_ret2
    exact ⟨.slice none 0 0, [], by rw [HEE.out]; rfl, acs_nil _, by rw [HBAD.out HEE.out]; rfl, HB2.out⟩
  | true =>
  have HE2 : Hid (E = if aix (accD l) id = (accD l).length then 30 else 0) := by show _ = _; rw [HE.out]; simp
  go_wp2_with (go_at_call 61; first | ((with_reducible refine (C2.out _).mono ?_); rintro e w' ⟨rfl, rfl⟩) | ((with_reducible refine (C3.out _).mono ?_); rintro e w' ⟨rfl, rfl⟩))
  refine (C4.out w2 HB2.out).mono ?_
  rintro e w3 ⟨r, hr, rfl, rfl⟩
  have HR := Lib.hid hr
  have hax := hr.aix
  have HAX := Lib.hid hax
  clear C4 hr hax
  cases r with
  | none =>
    have HEE : Hid (E = 30) := by show _ = _; rw [HE2.out, if_pos (by rw [HAX.out, accD_len]; rfl)]
    have HLL : Hid (L = []) := by show _ = _; rw [HL.out, if_neg (by rw [HEE.out]; decide)]
    rw [show aiV none = -1 from rfl]
    go_wp2
    go_ret2
    exact ⟨.slice none 0 0, [], by rw [HEE.out]; rfl, acs_nil _, by rw [HLL.out]; rfl, HB2.out⟩
  | some k =>
    obtain ⟨⟨x, hx, hid⟩, -⟩ := HR.out
    have hkn : k < n := by rw [← HN.out]; exact (List.getElem?_eq_some_iff.1 hx).1
    have HEE : Hid (E = 0) := by show _ = _; rw [HE2.out, if_neg (by rw [HAX.out, accD_len, HN.out, Option.getD_some]; omega)]
    have HLL : Hid (L = aput (accD l) id (bput u)) := by show _ = _; rw [HL.out, if_pos HEE.out]
    have HPUT : Hid (∀ y : AcX, y.1 = bput u x.1 → accD (l.set k y) = L) := fun y hy => by rw [HLL.out]; exact HR.out.put hx y _ hy
    rw [show aiV (some k) = (k : Int) from rfl]
    have e1 : ¬ (k : Int) < 0 := by omega
    have m0 := HC.out k x hx 0 _ rfl
    have m1 := HC.out k x hx 1 _ rfl
    have m2 := HC.out k x hx 2 _ rfl
    rw [Nat.add_zero] at m0
    rw [← HB2.out.cell (by exact HLT.out k hkn)] at m0 m1 m2
    have hixk := fun W => HIX.out W k hkn
    have HXM := Lib.hid (List.mem_of_getElem? hx)
    obtain ⟨⟨xid, bl, sp⟩, ⟨xa, xn, xc⟩⟩ := x
    unfold Sl3.v at m2
    unfold bput at HPUT
    simp only at m0 m1 m2 HPUT
    have hal : Below w2.heap.size w2 (w2.alloc (.cells #[.int .i64 xid, .int .i64 bl, .slice xa xn xc] 43)) := (Below.refl _ _).alloc (Nat.le_refl _) _
    have hr4 : (w2.alloc (.cells #[.int .i64 xid, .int .i64 bl, .slice xa xn xc] 43)).heap[w2.heap.size]? = some (.cells #[.int .i64 xid, .int .i64 bl, .slice xa xn xc] 43 (0, 0)) := heap_alloc_new _ _
    obtain ⟨p, hp⟩ : ∃ p, w2.heap.size = p := ⟨_, rfl⟩
    obtain ⟨W4, hW4⟩ : ∃ W, w2.alloc (.cells #[.int .i64 xid, .int .i64 bl, .slice xa xn xc] 43) = W := ⟨_, rfl⟩
    rw [hW4] at hal hr4
    have HAL := Lib.hid (HB2.out.trans (hal.mono HB2.out.size))
    rw [hp] at hr4
    have HP := Lib.hid hp
    obtain ⟨g0, g1, g2⟩ := acct_cells hr4
    have f1 := row_free hr4 1
    have HXV : Hid (∀ V, Below w.heap.size w V → AcV V (⟨xid, bl, sp⟩, (xa, xn, xc))) := fun V hV => (HH.out.below hV).2 _ HXM.out
    have HFIN : Hid (∀ V b', Below w.heap.size w V → (b' = max bl u) → Calls Try.prog 62 #[.slice a n c, .int .i64 (k : Nat), .agg #[.int .i64 xid, .int .i64 b', .slice xa xn xc]] V fun e w' => ∃ v, e = .returned v ∧ (∃ M, Acs w' v M ∧ accD M = L) ∧ Below w.heap.size w w') := fun V b' hV hb' => by
      refine (C5.out V hV k (⟨xid, b', sp⟩, (xa, xn, xc))).mono ?_
      rintro e w' ⟨v', rfl, hg, hb⟩
      have hbw := hV.trans (hb.mono hV.size)
      refine ⟨v', rfl, ⟨_, ⟨hg.gs, fun y hy => ?_⟩, HPUT.out _ (by rw [hb'])⟩, hbw⟩
      rcases List.mem_or_eq_of_mem_set hy with h1 | h1
      · exact (HH.out.below hbw).2 y h1
      · subst h1
        have h2 := HXV.out w' hbw
        refine ⟨h2.1, h2.2.1, ?_, h2.2.2.2⟩
        have h3 := h2.2.2.1
        simp only at h3
        show IW b'
        rw [hb']
        unfold IW at *
        omega
    clear hx hid hkn hal hr4 C5 HC HLT HIX
    by_cases e5 : bl < u
    · have o1 : Only (fun k => k = p) W4 (W4.setCell ⟨p, 1, none⟩ (.int .i64 u)) := set_only W4 p 1 _
      have hb5 := HAL.out.trans (o1.below (B := w.heap.size) (fun k hk => by have := HB2.out.size; have := HP.out; omega) HAL.out.size)
      have CF := Lib.hid (HFIN.out _ u hb5 (by omega))
      clear o1 hb5
      go_wp2_with fail
      refine CF.out.mono ?_
      rintro e w6 ⟨v6, rfl, ⟨M, hM1, hM2⟩, hb6⟩
      have HM1 := Lib.hid hM1
      have HM2 := Lib.hid hM2
      have HB6 := Lib.hid hb6
      clear hM1 hM2 hb6
      go_wp2
      go_ret2
      exact ⟨_, M, by rw [HEE.out]; rfl, HM1.out, HM2.out, HB6.out⟩
    · have CF := Lib.hid (HFIN.out _ bl HAL.out (by omega))
      go_wp2_with fail
      refine CF.out.mono ?_
      rintro e w6 ⟨v6, rfl, ⟨M, hM1, hM2⟩, hb6⟩
      have HM1 := Lib.hid hM1
      have HM2 := Lib.hid hM2
      have HB6 := Lib.hid hb6
      clear hM1 hM2 hb6
      go_wp2
      go_ret2
      exact ⟨_, M, by rw [HEE.out]; rfl, HM1.out, HM2.out, HB6.out⟩
end Go.Proofs.Ytjnbdeopoohnmaa
