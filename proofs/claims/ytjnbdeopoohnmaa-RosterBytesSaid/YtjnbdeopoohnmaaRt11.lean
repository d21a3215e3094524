/- Layer 56 (roster): turn. -/
import Derived.Test.YtjnbdeopoohnmaaRt10
import Derived.Deep.RegionLaw
import Derived.Deep.DeepCutAuto
import Derived.Deep.CutBlock
import Derived.Lib.QuietBelow
import Derived.Lib.SliceRun
set_option linter.unusedSimpArgs false
namespace Go.Proofs.Ytjnbdeopoohnmaa
open Go.RowKit Go.Sort

/-- what turn's closure does to an account in a row of the call's own -/
def How (w : World) (F : Nat) (caps : Array Value) (hE : AcD → Int) (hf : AcD → AcD) : Prop :=
  ∀ (W : World) (G cap i C : Nat) (M : List AcX) (x : AcX), Below w.heap.size w W → Row 3 csA W 43 G cap M → M[i]? = some x → aone x.1 = true → Gw 2 csS W C 49 (Sl3.v x.2) x.1.sp → G < C → C ≤ W.heap.size → w.heap.size ≤ G →
    Calls Try.prog F (#[.pointer (some ⟨G, i * 3, none⟩)] ++ caps) W fun e w' => ∃ y : AcX, e = .returned (.int .i64 (hE x.1)) ∧ y.1 = hf x.1 ∧ Row 3 csA w' 43 G cap (M.set i y) ∧ AcV w' y ∧ Below w.heap.size W w'

def turnR (D : List AcD) (id : Int) (may : Bool) (hE : AcD → Int) : Int := if aright D = false ∨ ¬ (1 ≤ id ∧ id ≤ 2147483648) ∨ may = false then 2 else match D[aix D id]? with
  | none => 30
  | some a => hE a
def turnL (D : List AcD) (id : Int) (may : Bool) (hE : AcD → Int) (hf : AcD → AcD) : List AcD := if turnR D id may hE = 0 then aput D id hf else []

/-- in a list that is right the place tells -/
theorem PlaceIs.idx {l : List AcX} {id : Int} {i : Nat} (h : PlaceIs l id i) (hr : aright (accD l) = true) : AIdx l id (if phas l id i = true then some i else none) := by
  obtain ⟨hup, -, -⟩ := aright_up hr
  have hlo : ∀ (j : Nat) (y : AcX), j < i → l[j]? = some y → y.1.id ≠ id := fun j y hj hy => by have := h.lo j y hj hy; omega
  by_cases hp : phas l id i = true
  · rw [if_pos hp]
    unfold phas at hp
    cases hx : l[i]? with
    | none => rw [hx] at hp; cases hp
    | some x =>
      rw [hx] at hp
      exact ⟨⟨x, hx, of_decide_eq_true hp⟩, hlo⟩
  · rw [if_neg hp]
    show ANo l id l.length
    intro j y hj hy
    by_cases hji : j < i
    · exact hlo j y hji hy
    · by_cases hje : j = i
      · subst hje
        unfold phas at hp
        rw [hy] at hp
        simpa using hp
      · obtain ⟨x, hx⟩ : ∃ x, l[i]? = some x := ⟨_, List.getElem?_eq_getElem (by omega)⟩
        have h1 := h.hi x hx
        have h2 := List.pairwise_iff_getElem.1 hup i j (by rw [accD_len]; omega) (by rw [accD_len]; exact hj) (by omega)
        have e1 := accD_get hx
        have e2 := accD_get hy
        rw [List.getElem?_eq_getElem (by rw [accD_len]; omega)] at e1
        rw [List.getElem?_eq_getElem (by rw [accD_len]; exact hj)] at e2
        rw [Option.some.inj e1, Option.some.inj e2] at h2
        have h3 : x.1.id < y.1.id := h2
        omega

set_option maxRecDepth 100000 in
set_option maxHeartbeats 1600000 in
theorem rtTurn_any (v : Value) (l : List AcX) (id : Int) (may : Bool) (F : Nat) (caps : Array Value) (hE : AcD → Int) (hf : AcD → AcD) (w : World) (h : Acs w v l) (hl : ∀ x ∈ l, x.1.sp.length ≤ 100000) (HOW : Hid (How w F caps hE hf)) (hcf : ∀ (args : Array Value) (W : World), (callFunc F args).run Try.prog W = .ok (.enter F args) W) :
    Calls Try.prog 48 #[v, .int .i64 id, .bool may, .func (Fn.func F) #[] caps] w (RosPost w (turnL (accD l) id may hE hf) (turnR (accD l) id may hE)) := by
  unfold RosPost
  obtain ⟨n, hn⟩ : ∃ n, l.length = n := ⟨_, rfl⟩
  have C1 := Lib.hid (rtRight_any v l w h)
  have C2 := Lib.hid (fun V => within_any id 1 2147483648 V)
  have C4 := Lib.hid (fun V (hV : Below w.heap.size w V) => rtPlace_any v l id V (h.1.below hV))
  have C5 := Lib.hid (fun V (hV : Below w.heap.size w V) (hl : l.length ≤ 100000) => aClone_any v l V (h.1.below hV) hl)
  obtain ⟨a, c, b, o, rfl, h1, h2, -, -, -, -⟩ := h.1.open_n layA elA n hn
  have HN := Lib.hid hn
  have HH := Lib.hid h
  have HSL := Lib.hid hl
  obtain ⟨b0, hb0⟩ : ∃ b, aright (accD l) = b := ⟨_, rfl⟩
  obtain ⟨b1, hb1⟩ : ∃ b, decide (1 ≤ id ∧ id ≤ 2147483648) = b := ⟨_, rfl⟩
  rw [hb0] at C1
  rw [hb1] at C2
  obtain ⟨E, hEE⟩ : ∃ E, turnR (accD l) id may hE = E := ⟨_, rfl⟩
  obtain ⟨L, hL⟩ : ∃ L, turnL (accD l) id may hE hf = L := ⟨_, rfl⟩
  have HE : Hid (E = if b0 = false ∨ b1 = false ∨ may = false then 2 else match (accD l)[aix (accD l) id]? with
      | none => 30
      | some a => hE a) := by
    show _ = _
    rw [← hEE, ← hb0, ← hb1]
    unfold turnR
    simp only [decide_eq_false_iff_not]
  have HL : Hid (L = if E = 0 then aput (accD l) id hf else []) := by show _ = _; rw [← hL, ← hEE]; rfl
  have HR0 := Lib.hid hb0
  rw [hEE, hL]
  clear h hn hb0 hb1 hEE hL hl
  go_enter Try.func48, Try.ntmps48
  go_wp2_with fail
  refine C1.out.mono ?_
  rintro e w2 ⟨rfl, hb2⟩
  have HB2 := Lib.hid hb2
  clear hb2 C1
  have HBAD : Hid (E = 2 → L = []) := fun h => by rw [HL.out, if_neg (by rw [h]; decide)]
  cases b0 with
  | false =>
    have HEE : Hid (E = 2) := by show _ = _; rw [HE.out]; rfl
    go_wp2
    go_ret2
    exact ⟨.slice none 0 0, [], by rw [HEE.out]; rfl, acs_nil _, by rw [HBAD.out HEE.out]; rfl, HB2.out⟩
  | true =>
  cases b1 with
  | false =>
    have HEE : Hid (E = 2) := by show _ = _; rw [HE.out]; rfl
    go_wp2_with (go_at_call 47; (with_reducible refine (C2.out _).mono ?_); rintro e w' ⟨rfl, rfl⟩)
    go_ret2
    exact ⟨.slice none 0 0, [], by rw [HEE.out]; rfl, acs_nil _, by rw [HBAD.out HEE.out]; rfl, HB2.out⟩
  | true =>
  cases may with
  | false =>
    have HEE : Hid (E = 2) := by show _ = _; rw [HE.out]; rfl
    go_wp2_with (go_at_call 47; (with_reducible refine (C2.out _).mono ?_); rintro e w' ⟨rfl, rfl⟩)
    go_ret2
    exact ⟨.slice none 0 0, [], by rw [HEE.out]; rfl, acs_nil _, by rw [HBAD.out HEE.out]; rfl, HB2.out⟩
  | true =>
  have HE2 : Hid (E = match (accD l)[aix (accD l) id]? with
      | none => 30
      | some a => hE a) := by show _ = _; rw [HE.out]; simp
  go_wp2_with (go_at_call 47; (with_reducible refine (C2.out _).mono ?_); rintro e w' ⟨rfl, rfl⟩)
  refine (C4.out w2 HB2.out).mono ?_
  rintro e w3 ⟨i, hpl, rfl, hb3⟩
  have HB3 := Lib.hid (HB2.out.trans (hb3.mono HB2.out.size))
  have hr := hpl.idx HR0.out
  have HR := Lib.hid hr
  have hax := hr.aix
  have HAX := Lib.hid hax
  clear C4 hr hax hb3 hpl
  obtain ⟨ph, hph⟩ : ∃ b, phas l id i = b := ⟨_, rfl⟩
  rw [hph] at HR HAX ⊢
  clear hph
  cases ph with
  | false =>
    have HEE : Hid (E = 30) := by show _ = _; rw [HE2.out, HAX.out]; simp [accD_len]
    have HLL : Hid (L = []) := by show _ = _; rw [HL.out, if_neg (by rw [HEE.out]; decide)]
    go_wp2
    go_ret2
    exact ⟨.slice none 0 0, [], by rw [HEE.out]; rfl, acs_nil _, by rw [HLL.out]; rfl, HB3.out⟩
  | true =>
    obtain ⟨⟨x, hx, hid⟩, -⟩ : AIdx l id (some i) := HR.out
    have HAX2 : Hid (aix (accD l) id = i) := HAX.out
    have hin : i < n := by rw [← HN.out]; exact (List.getElem?_eq_some_iff.1 hx).1
    have HEE : Hid (E = hE x.1) := by show _ = _; rw [HE2.out, HAX2.out, accD_get hx]
    have HX := Lib.hid hx
    have hn4 : l.length ≤ 4096 := by have := (aright_up HR0.out).2.2; rwa [accD_len] at this
    have C6 := Lib.hid (C5.out w3 HB3.out (by omega))
    have HN4 := Lib.hid hn4
    have HIN := Lib.hid hin
    clear C5 hx hid hn4 hin HE HE2
    go_wp2_with fail
    refine C6.out.mono ?_
    rintro e w4 ⟨v4, rfl, hg4, hb4⟩
    obtain ⟨G, cap, hs4, hBG, hrow4⟩ := hg4.row (by intro h0; have := HX.out; rw [h0] at this; simp at this)
    rw [HN.out] at hs4
    subst hs4
    have HB4 := Lib.hid (HB3.out.trans (hb4.mono HB3.out.size))
    have hixi := own_ixA G n cap i HIN.out
    have c2 := hrow4.cell layA HX.out (j := 2) rfl
    have HROW4 := Lib.hid hrow4
    have HBG := Lib.hid hBG
    have HXA : Hid (aone x.1 = true) := (aright_up HR0.out).2.1 _ (List.mem_of_getElem? (accD_get HX.out))
    have HXV := Lib.hid ((HH.out.below HB4.out).2 x (List.mem_of_getElem? HX.out))
    have hxl := HSL.out x (List.mem_of_getElem? HX.out)
    have CC := Lib.hid (sClone_any (Sl3.v x.2) x.1.sp w4 HXV.out.1 hxl)
    obtain ⟨⟨xid, bl, sp⟩, ⟨xa, xn, xc⟩⟩ := x
    unfold Sl3.v at c2 CC
    simp only at c2 CC
    clear hg4 hb4 hBG hrow4 hxl C6
    go_wp2_with fail
    refine CC.out.mono ?_
    rintro e w5 ⟨v5, rfl, hg5, hb5⟩
    have HB5 := Lib.hid (HB4.out.trans (hb5.mono HB4.out.size))
    obtain ⟨a5, c5, rfl⟩ := hg5.gs.shape
    obtain ⟨m5, hm5⟩ : ∃ m, sp.length = m := ⟨_, rfl⟩
    rw [hm5] at hg5 ⊢
    have hrow5 := HROW4.out.below hb5
    have f2 := hrow5.free (i * 3 + 2)
    have c2' := hrow5.cell layA HX.out (j := 2) rfl
    unfold Sl3.v at c2'
    simp only at c2'
    obtain ⟨k1, k2⟩ := hrow5.pokeG layA (y := ((⟨xid, bl, sp⟩, (a5, m5, c5)) : AcX)) (u := .slice a5 m5 c5) HX.out (by omega : 2 < 3) rfl
    have HK1 := Lib.hid k1
    have HK2 := Lib.hid k2
    have HG5 := Lib.hid hg5
    have HSZ := Lib.hid hb5.size
    have HGL := Lib.hid hrow5.lt
    clear hg5 hb5 hrow5 k1 k2 c2 CC hm5
    have hsz3 : w.heap.size ≤ G := Nat.le_trans HB3.out.size HBG.out
    have hG4 : G < w4.heap.size := HROW4.out.lt
    have hb6 : Below w.heap.size w (w5.setCell ⟨G, i * 3 + 2, none⟩ (.slice a5 m5 c5)) := HB5.out.trans (HK2.out.below (fun k hk => by omega) HB5.out.size)
    have hg6 : Gw 2 csS (w5.setCell ⟨G, i * 3 + 2, none⟩ (.slice a5 m5 c5)) w4.heap.size 49 (.slice a5 m5 c5) sp := HG5.out.onlyR HK2.out (fun k hk hf => by have := (HG5.out.lt k hk).1; omega)
    have CH := HOW.out (w5.setCell ⟨G, i * 3 + 2, none⟩ (.slice a5 m5 c5)) G cap i w4.heap.size _ ((⟨xid, bl, sp⟩, (a5, m5, c5)) : AcX) hb6 HK1.out (by rw [List.getElem?_set_self (by rw [HN.out]; exact HIN.out)]) HXA.out hg6 hG4 (Nat.le_trans HSZ.out HK2.out.size) hsz3
    have CHH := Lib.hid CH
    have HB6 := Lib.hid hb6
    have HEE2 : Hid (E = hE ⟨xid, bl, sp⟩) := HEE.out
    clear hsz3 hG4 hb6 hg6 CH HOW
    go_wp2_with fail
    refine CHH.out.mono ?_
    rintro e w7 ⟨y, rfl, hy1, hrow7, hyv, hb7⟩
    rw [List.set_set] at hrow7
    have hb7 := HB6.out.trans hb7
    have HB7 := Lib.hid hb7
    have hfinal : Acs w7 (.slice (some ⟨G, 0, none⟩) n cap) (l.set i y) := by
      have h1 := (hrow7.gw layA (B := 0) (Nat.zero_le _)).gs
      rw [List.length_set, HN.out] at h1
      refine ⟨h1, fun z hz => ?_⟩
      rcases List.mem_or_eq_of_mem_set hz with h2 | h2
      · exact (HH.out.below hb7).2 z h2
      · rw [h2]; exact hyv
    have hput : accD (l.set i y) = aput (accD l) id hf := AIdx.put (show AIdx l id (some i) from HR.out) HX.out y hf hy1
    have HFI := Lib.hid hfinal
    have HPU := Lib.hid hput
    clear hy1 hrow7 hyv hb7 hfinal hput CHH
    obtain ⟨E2, hE2⟩ : ∃ E2, hE ⟨xid, bl, sp⟩ = E2 := ⟨_, rfl⟩
    rw [hE2] at HEE2 ⊢
    clear hE2
    by_cases hz : E2 = 0
    · have e9 : (E2 != 0) = false := by simpa using hz
      have HLL : Hid (L = aput (accD l) id hf) := by show _ = _; rw [HL.out, if_pos (HEE2.out.trans hz)]
      have HEZ : Hid (E = 0) := HEE2.out.trans hz
      clear hz
      go_wp2
      go_ret2
      exact ⟨_, _, by rw [HEZ.out]; rfl, HFI.out, by rw [HLL.out]; exact HPU.out, HB7.out⟩
    · have e9 : (E2 != 0) = true := by simpa using hz
      have HLL : Hid (L = []) := by show _ = _; rw [HL.out, if_neg (by rw [HEE2.out]; exact hz)]
      clear hz
      go_wp2
      go_ret2
      exact ⟨.slice none 0 0, [], by rw [HEE2.out]; rfl, acs_nil _, by rw [HLL.out]; rfl, HB7.out⟩
end Go.Proofs.Ytjnbdeopoohnmaa
