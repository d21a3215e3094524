/- Layer 36 (snap): a bank made new. -/
import Derived.Test.YtbonapdainlpjaaSp2
import Derived.Deep.RegionHeld3
import Derived.Deep.DrawnRows
set_option linter.unusedSimpArgs false
namespace Go.Proofs.Ytbonapdainlpjaa
open Go.RowKit Go.Sort

inductive RenR (s : BSt) (d : Lg) (r : List UInt8) (s' : BSt) (d' : Lg) : Int → Prop
  | ok (s1 : BSt) (d1 : Lg) (h1 : WipeR s d 0 d.n s1 d1) (h2 : AppOk s1 { d1 with fin := 0, recs := [] } r d.n s' d') : RenR s d r s' d' 0
  | wipe (h : TornR s d 0 d.n s' d') : RenR s d r s' d' 50
  | app (s1 : BSt) (d1 : Lg) (h1 : WipeR s d 0 d.n s1 d1) (h2 : TornA s1 { d1 with fin := 0, recs := [] } (lapp { d1 with fin := 0, recs := [] } r) d.n s' d') : RenR s d r s' d' 50

def RenewPost (w : World) (B lg bb bc g gb : Nat) (fo : Option Nat) (vr : Value) (ps : List Rc) (s : BSt) (d : Lg) (r : List UInt8) (e : Ending) (w' : World) : Prop :=
  ∃ fo' s' d' vr' ps' E, e = .returned (.int .i64 E) ∧ StAt w' B g gb fo' s' ∧ LoAt w' B lg bb bc g vr' ps' d' ∧ RenR s d r s' d' E ∧
    Only (fun k => stF g gb fo k ∨ k = lg ∨ k = bb) w w' ∧ (∀ k, fo' = some k → fo = some k ∨ w.heap.size ≤ k) ∧ (∀ k, vr'.ownBlock = some k → vr.ownBlock = some k ∨ w.heap.size ≤ k) ∧
    (∀ x ∈ ps', x ∈ ps ∨ ∀ k, x.v.ownBlock = some k → w.heap.size ≤ k)

theorem LoAt.fresh {w : World} {B lg bb bc g : Nat} {vr : Value} {ps : List Rc} {d : Lg} (h : LoAt w B lg bb bc g vr ps d) : ∀ k, loAll lg bb vr ps k → k < w.heap.size := fun k hk => by
  obtain ⟨A, t, h1, _⟩ := h.tag hk
  exact heap_lt h1

theorem renew_fin {w W0 w1 V w3 : World} {B lg bb bc g gb : Nat} {fo fo1 : Option Nat} {vr : Value} {ps : List Rc} {s s1 : BSt} {d d1 : Lg} {r : List UInt8} {e : Ending} (hal : Below w.heap.size w W0)
    (hw : WipeR s d 0 d.n s1 d1) (ho1 : Only (fun k => stF g gb fo k ∨ k = lg ∨ k = bb) W0 w1) (hf1 : ∀ k, fo1 = some k → fo = some k ∨ W0.heap.size ≤ k) (hV : Below w1.heap.size w1 V)
    (h : AppendPost V B lg bb bc g gb fo1 (.slice none 0 0) [] s1 { d1 with fin := 0, recs := [] } r e w3) : RenewPost w B lg bb bc g gb fo vr ps s d r e w3 := by
  obtain ⟨fo', s', d', vr', ps', E, he, hst, hlo, hr, ho, hfo, hv, hp⟩ := h
  have z0 : w.heap.size ≤ W0.heap.size := hal.size
  have z1 : W0.heap.size ≤ w1.heap.size := ho1.size
  have z2 : w1.heap.size ≤ V.heap.size := hV.size
  have hn : d1.n = d.n := by rw [hw.d1]
  refine ⟨fo', s', d', vr', ps', E, he, hst, hlo, ?_, ?_, ?_, ?_, ?_⟩
  · rcases hr with ⟨rfl, _, hA⟩ | ⟨rfl, _, _, hT⟩
    · have hA' : AppOk s1 { d1 with fin := 0, recs := [] } r d1.n s' d' := hA
      exact .ok s1 d1 hw (by rw [← hn]; exact hA')
    · have hT' : TornA s1 { d1 with fin := 0, recs := [] } (lapp { d1 with fin := 0, recs := [] } r) d1.n s' d' := hT
      exact .app s1 d1 hw (by rw [← hn]; exact hT')
  · have o1 : Only (fun k => stF g gb fo k ∨ k = lg ∨ k = bb) w W0 := .of_below' hal
    have o2 := (o1.trans' ho1 (fun k hk => .inl hk)).trans' (Only.of_below' (F := fun _ => False) hV) (fun k hk => hk.elim)
    refine o2.trans' ho (fun k hk => ?_)
    rcases hk with (hk | hk | hk) | hk | hk | hk
    · exact .inl (.inl (.inl hk))
    · exact .inl (.inl (.inr (.inl hk)))
    · rcases hf1 k hk with h1 | h1
      · exact .inl (.inl (.inr (.inr h1)))
      · exact .inr (Nat.le_trans z0 h1)
    · exact .inl (.inr (.inl hk))
    · exact .inl (.inr (.inr hk))
    · simp [Value.ownBlock] at hk
  · intro k hk
    rcases hfo k hk with h1 | h1
    · rcases hf1 k h1 with h2 | h2
      · exact .inl h2
      · exact .inr (Nat.le_trans z0 h2)
    · exact .inr (by omega)
  · intro k hk
    rcases hv with h1 | h1
    · rw [h1] at hk; simp [Value.ownBlock] at hk
    · have := h1 k hk; exact .inr (by omega)
  · intro x hx
    rcases hp x hx with h1 | h1
    · simp at h1
    · exact .inr fun k hk => by have := h1 k hk; omega

set_option maxRecDepth 100000 in
set_option maxHeartbeats 1600000 in
theorem sRenew_any (w : World) (B lg bb bc g gb : Nat) (fo : Option Nat) (vr : Value) (ps : List Rc) (s : BSt) (d : Lg) (gn : Nat) (v : Value) (sn : List UInt8) (hs : StAt w B g gb fo s) (h : LoAt w B lg bb bc g vr ps d)
    (hok : LOk s d) (hc0 : 0 ≤ s.cnt) (hc : s.cnt ≤ 3000000000000000000) (hv : Bs w v sn) (hvd : sn ≠ [] → ∀ k, v.ownBlock = some k → ¬ (stF g gb fo k ∨ k = lg ∨ k = bb))
    (hl : sn.length ≤ 262136) (hf : (lstands (srec gn sn)).length ≤ d.n * 64) (hB : B ≤ w.heap.size) :
    Calls Try.prog 101 #[.agg #[.pointer (some ⟨lg, 0, none⟩)], .int .u64 (gn : Int), v] w (RenewPost w B lg bb bc g gb fo vr ps s d (srec gn sn)) := by
  have hal : Below w.heap.size w (w.alloc (.cells #[.pointer (some ⟨lg, 0, none⟩)] 136)) := (Below.refl _ _).alloc (Nat.le_refl _) _
  have CC := Lib.hid (lClear_any _ B lg bb bc g gb fo vr ps s d (hs.below hal) (h.below hal) hok.live hok.on hok.sync hok.fit hc0 (by omega))
  have hr : (w.alloc (.cells #[.pointer (some ⟨lg, 0, none⟩)] 136)).heap[w.heap.size]? = some (.cells #[.pointer (some ⟨lg, 0, none⟩)] 136 (0, 0)) := heap_alloc_new _ _
  have hk0 : (w.alloc (.cells #[.pointer (some ⟨lg, 0, none⟩)] 136)).cell? ⟨w.heap.size, 0, none⟩ = some (.pointer (some ⟨lg, 0, none⟩)) := cell_of_row _ _ _ _ _ _ hr
  have hv0 := hv.below hal
  have HST0 := Lib.hid (hs.below hal)
  have HLO0 := Lib.hid (h.below hal)
  obtain ⟨W0, hW0⟩ : ∃ W0, w.alloc (.cells #[.pointer (some ⟨lg, 0, none⟩)] 136) = W0 := ⟨_, rfl⟩
  rw [hW0] at CC hr hk0 hv0 hal HST0 HLO0
  have HR := Lib.hid hr
  have HOK := Lib.hid hok
  have HC0 := Lib.hid hc0
  have HC := Lib.hid hc
  have HV := Lib.hid hv0
  have HVD := Lib.hid hvd
  have HAL := Lib.hid hal
  have HF := Lib.hid hf
  have HBB := Lib.hid hB
  have HL := Lib.hid hl
  have HN2 := Lib.hid h.n2
  clear hr hs h hok hc0 hc hv hvd hal hf hB hv0 hl
  go_enter Try.func101, Try.ntmps101
  go_wp2_with fail
  try rw [hW0]
  refine CC.out.mono ?_
  rintro e w1 ⟨fo1, s1, d1, vr1, ps1, E, rfl, hst1, hlo1, hcase, ho1, hfo1⟩
  rcases hcase with ⟨rfl, rfl, rfl, dW, hW, rfl⟩ | ⟨rfl, rfl, rfl, hT⟩
  · have hnb : ¬ (stF g gb fo w.heap.size ∨ w.heap.size = lg ∨ w.heap.size = bb) := by
      rintro (hk | hk | hk)
      · obtain ⟨A, t, h1, h2⟩ := HST0.out.tag hk
        have := tags_apart HR.out h1
        subst this
        rcases h2 with h2 | h2 | h2 <;> exact absurd h2 (by decide)
      · have h1 := HLO0.out.row
        rw [← hk] at h1
        exact absurd (tags_apart HR.out h1) (by decide)
      · obtain ⟨cur, h1, _⟩ := HLO0.out.b.row
        rw [← hk] at h1
        exact absurd (tags_apart HR.out h1) (by decide)
    have hr1 : w1.heap[w.heap.size]? = some (.cells #[.pointer (some ⟨lg, 0, none⟩)] 136 (0, 0)) := (ho1.block _ (heap_lt HR.out) hnb).trans HR.out
    have KS : Hid (∀ V, Below w1.heap.size w1 V → V.cell? ⟨w.heap.size, 0, none⟩ = some (.pointer (some ⟨lg, 0, none⟩))) := fun V hV =>
      cell_of_row V _ _ _ _ _ ((hV.block _ (heap_lt hr1)).trans hr1)
    have hv1 : Bs w1 v sn := HV.out.only' ho1 HVD.out
    have CR := Lib.hid (fun V (hV : Below w1.heap.size w1 V) => sRecord_any gn v sn V (hv1.below hV) HL.out)
    have hok1 := clear_ok HOK.out hW
    have hcn : 0 ≤ s1.cnt ∧ s1.cnt ≤ 4000000000000000000 := by
      have h1 := hW.lo; have h2 := hW.hi; have h3 := HC0.out; have h4 := HC.out; have h5 := HN2.out
      omega
    have hnn : dW.n = d.n := by rw [hW.d1]
    have CA : Hid (∀ V x, Below w1.heap.size w1 V → Ob V w1.heap.size 5 x (srec gn sn) → Calls Try.prog 51 #[.pointer (some ⟨lg, 0, none⟩), x] V (AppendPost V B lg bb bc g gb fo1 (.slice none 0 0) [] s1 { dW with fin := 0, recs := [] } (srec gn sn))) := fun V x hV hx =>
      lAppend_any V B lg bb bc g gb fo1 _ _ s1 _ x (srec gn sn) (hst1.below hV) (hlo1.below hV) hok1.live hok1.on hok1.sync hok1.tail hok1.fit hcn.1 hcn.2 hx.bs
        (fun k hk hf => by
          have h1 := (hx.lt k hk).1
          rcases hf with hf | hf | hf
          · have := (hst1.foot k hf).2; omega
          · have := heap_lt hlo1.row; omega
          · have := hlo1.b.lt; omega)
        ⟨by rw [srec_len]; omega, by rw [srec_len]; have := HL.out; omega⟩ (by have := HF.out; rw [← hnn] at this; show 0 + (lstands (srec gn sn)).length ≤ dW.n * 64; omega)
        (Nat.le_trans (Nat.le_trans HBB.out (HAL.out.size)) (Nat.le_trans ho1.size hV.size))
    have FIN : Hid (∀ V w3 e, Below w1.heap.size w1 V → AppendPost V B lg bb bc g gb fo1 (.slice none 0 0) [] s1 { dW with fin := 0, recs := [] } (srec gn sn) e w3 → RenewPost w B lg bb bc g gb fo vr ps s d (srec gn sn) e w3 ∧ w3.cell? ⟨w.heap.size, 0, none⟩ = some (.pointer (some ⟨lg, 0, none⟩))) :=
      fun V w3 e hV h => ⟨renew_fin HAL.out hW ho1 hfo1 hV h, by
        have hrV := (hV.block _ (heap_lt hr1)).trans hr1
        obtain ⟨_, _, _, _, _, _, _, _, _, _, ho3, _⟩ := h
        refine cell_of_row w3 _ _ _ _ _ ((ho3.block _ (heap_lt hrV) ?_).trans hrV)
        rintro (hk | hk | hk | hk)
        · obtain ⟨A, t, h1, h2⟩ := hst1.tag hk
          have := tags_apart hr1 h1
          subst this
          rcases h2 with h2 | h2 | h2 <;> exact absurd h2 (by decide)
        · exact hnb (.inr (.inl hk))
        · exact hnb (.inr (.inr hk))
        · simp [Value.ownBlock] at hk⟩
    have c1 := KS.out w1 (Below.refl _ _)
    have e0 : ((0 : Int) != 0) = false := by decide
    clear hst1 hlo1 ho1 hfo1 hW hok1 hcn hnn hr1 hnb hv1 hk0 HST0 HLO0 CC hW0
    go_wp2_with fail
    go_region_held3 (fun W => W.cell? ⟨w.heap.size, 0, none⟩ = some (.pointer (some ⟨lg, 0, none⟩))) (first
      | (with_reducible exact K4.out)
      | (with_reducible exact KS.out _ B3)
      | (with_reducible exact KS.out _ (bw_dr (Below.refl _ _)))) (first
      | (go_at_call 117; (with_reducible refine (CR.out _ (bw_dr (Below.refl _ _))).mono ?_); rintro e w3 ⟨v3, rfl, ho3, hb3⟩; have B3 : Below w1.heap.size w1 w3 := (bw_dr (Below.refl _ _)).trans (hb3.mono (by simp)); have HO3 := Lib.hid (ho3.mono (by simp : w1.heap.size ≤ w1.drew.heap.size)); clear ho3 hb3)
      | (go_at_call 51; (with_reducible refine (CA.out _ _ B3 HO3.out).mono ?_); intro e w4 hpost; have HP := Lib.hid (FIN.out _ _ _ B3 hpost).1; have K4 := Lib.hid (FIN.out _ _ _ B3 hpost).2; obtain ⟨_, _, _, _, _, E, rfl, -⟩ := hpost))
    go_wp2
    go_ret
    exact HP.out
  · have e0 : ((50 : Int) != 0) = true := by decide
    have FIN : RenewPost w B lg bb bc g gb fo vr1 ps1 s d (srec gn sn) (.returned (.int .i64 50)) w1 :=
      ⟨fo1, s1, d1, vr1, ps1, 50, rfl, hst1, hlo1, .wipe hT, (Only.of_below' HAL.out).trans' ho1 (fun k hk => .inl hk), fun k hk => (hfo1 k hk).imp id (Nat.le_trans HAL.out.size ·), fun k hk => .inl hk, fun x hx => .inl hx⟩
    have HFIN := Lib.hid FIN
    clear FIN hst1 hlo1 ho1 hfo1 hT CC
    go_wp2
    go_ret
    exact HFIN.out
end Go.Proofs.Ytbonapdainlpjaa
