/- Layer 35 (log): the chapter's example. -/
import Derived.Test.YtbonapdainlpjaaLg14
set_option linter.unusedSimpArgs false
namespace Go.Proofs.Ytbonapdainlpjaa
open Go.RowKit Go.Sort

/-- no power goes: the open log -/
theorem OpenPost.ok {w w' : World} {B g gb : Nat} {fo : Option Nat} {s : BSt} {fr n : Nat} {e : Ending} (h : OpenPost w B g gb fo s fr n e w') (hf : s.fu = none) (hfo : fo = none) (hfit : fr + n ≤ s.n) :
    ∃ s' d' lg bb bc vr ps, e = .returned (.tuple #[.pointer (some ⟨lg, 0, none⟩), .int .i64 0]) ∧ StAt w' B g gb none s' ∧ LoAt w' w.heap.size lg bb bc g vr ps d' ∧ Only (stF g gb none) w w' ∧ LOk s' d' ∧ d'.fr = fr ∧ d'.n = n ∧ d'.recs = (lrecs (lreg s fr n)).1 ∧ d'.fin = (lrecs (lreg s fr n)).2 ∧ s'.fu = none ∧ s'.n = s.n ∧
      s.cnt ≤ s'.cnt ∧ s'.cnt ≤ s.cnt + n ∧ (∀ j, s'.f j = if fr * 64 + (lrecs (lreg s fr n)).2 ≤ j ∧ j < (fr + n) * 64 then 0 else s.f j) := by
  subst hfo
  obtain ⟨fo', s', d', E, hst, ho, hfo', hr⟩ := h
  rcases hr with ⟨rfl, hw, lg, bb, bc, vr, ps, he, hlo⟩ | ⟨_, ht, _⟩
  · obtain ⟨h1, h2, h3, h4, h5⟩ := opened_ok hfit hw
    have hfu := hw.fu hf
    obtain rfl := hst.fo_none hfu
    exact ⟨s', d', lg, bb, bc, vr, ps, he, hst, hlo, ho, h1, h2, h3, h4, h5, hfu, hw.n, hw.lo, hw.hi, hw.f⟩
  · exact absurd hf ht.fu0

/-- the parts of an append that went well, where no power goes -/
theorem AppendPost.ok {w w' : World} {B lg bb bc g gb : Nat} {fo : Option Nat} {vr : Value} {ps : List Rc} {s : BSt} {d : Lg} {r : List UInt8} {e : Ending} (h : AppendPost w B lg bb bc g gb fo vr ps s d r e w') (hf : s.fu = none) :
    ∃ s' d' vr' ps', e = .returned (.int .i64 0) ∧ StAt w' B g gb none s' ∧ LoAt w' B lg bb bc g vr' ps' d' ∧ AppOk s d r d.n s' d' ∧ s'.fu = none ∧ Only (fun k => stF g gb fo k ∨ k = lg ∨ k = bb ∨ vr.ownBlock = some k) w w' ∧
      (vr'.ownBlock = vr.ownBlock ∨ ∀ k, vr'.ownBlock = some k → w.heap.size ≤ k) ∧ (∀ x ∈ ps', x ∈ ps ∨ ∀ k, x.v.ownBlock = some k → w.heap.size ≤ k) := by
  obtain ⟨fo', s', d', vr', ps', E, he, hst, hlo, hr, ho, hfo', hv, hp⟩ := h
  rcases hr with ⟨rfl, _, hA⟩ | ⟨_, _, _, hT⟩
  · have hfu := hA.fu hf
    obtain rfl := hst.fo_none hfu
    exact ⟨s', d', vr', ps', he, hst, hlo, hA, hfu, ho, hv, hp⟩
  · exact absurd hf hT.fu0

theorem LoAt.only' {w w' : World} {B lg bb bc g : Nat} {vr : Value} {ps : List Rc} {d : Lg} (h : LoAt w B lg bb bc g vr ps d) (hb : Below w.heap.size w w') : LoAt w' B lg bb bc g vr ps d := h.below hb

set_option maxRecDepth 100000 in
set_option maxHeartbeats 3200000 in
theorem lAwake_any (w : World) : Calls Try.prog 41 #[] w fun e w' => e = .returned (.bool true) ∧ Below w.heap.size w w' := by
  have CN := Lib.hid (bNew_any 2 (by omega) (by omega) w)
  rw [show ((2 : Nat) : Int) = 2 from rfl] at CN
  obtain ⟨B, hB⟩ : ∃ B, w.heap.size = B := ⟨_, rfl⟩
  rw [hB] at CN
  have HB := Lib.hid hB
  clear hB
  go_enter Try.func41, Try.ntmps41
  go_wp2_with fail
  refine CN.out.mono ?_
  rintro e w1 ⟨rfl, hb1, hst1⟩
  have hB1 : B ≤ w1.heap.size := by have := hb1.size; have := HB.out; omega
  have CO := Lib.hid (lOpen_any w1 B (B + 1) B none (bzero 2) 0 2 hst1 rfl (by omega) (by show 0 + 2 ≤ 2; omega) (by decide) (by decide) hB1)
  rw [show ((0 : Nat) : Int) = 0 from rfl, show ((2 : Nat) : Int) = 2 from rfl] at CO
  have HST1 := Lib.hid hst1
  have HB1 := Lib.hid hb1
  have HBB1 := Lib.hid hB1
  clear hst1 hb1 hB1 CN
  go_wp2_with fail
  refine CO.out.mono ?_
  intro e w2 hpost
  obtain ⟨s2, d2, lg, bb, bc, vr, ps, rfl, hst2, hlo2, ho2, hok2, hfr2, hn2, hrec2, hfin2, hfu2, hsn2, hlo, hhi, hf2⟩ := hpost.ok rfl rfl (by show 0 + 2 ≤ 2; omega)
  rw [lreg_zero, lrecs_zeros] at hrec2 hfin2
  simp only at hrec2 hfin2
  have hlo2' := hlo2.mono HBB1.out
  have hal : Below w2.heap.size w2 (w2.alloc (.cells #[.int .u8 9] 5)) := (Below.refl _ _).alloc (Nat.le_refl _) _
  have hlit := (ob_lit w2 5 #[.int .u8 9] [9] 1 rfl (by decide) rfl).bs
  have hB2 : B ≤ w2.heap.size := Nat.le_trans HBB1.out ho2.size
  have CA := Lib.hid (lAppend_any (w2.alloc (.cells #[.int .u8 9] 5)) B lg bb bc (B + 1) B none vr ps s2 d2 _ [9] (hst2.below hal) (hlo2'.below hal) hok2.live hok2.on hok2.sync hok2.tail hok2.fit (by have := hlo; unfold bzero at this; simp only at this; omega) (by have := hhi; unfold bzero at this; simp only at this; omega) hlit
    (by
      intro k hk hf
      simp only [Value.ownBlock, Option.some.injEq] at hk
      rcases hf with hf | hf | hf
      · have := (hst2.foot k hf).2; omega
      · have := heap_lt hlo2.row; omega
      · have := hlo2.b.lt; omega) ⟨by simp, by simp⟩ (by rw [hfin2, hn2, stands9]; decide) (Nat.le_trans hB2 hal.size))
  have HOK2 := Lib.hid hok2
  have HFU2 := Lib.hid hfu2
  have HFIN2 := Lib.hid hfin2
  have HFR2 := Lib.hid hfr2
  have HN2 := Lib.hid hn2
  have HSN2 := Lib.hid hsn2
  have HB2 : Hid (Below B w (w2.alloc (.cells #[.int .u8 9] 5))) :=
    (HB1.out.trans (ho2.below (fun k hk => (HST1.out.foot k hk).1) HBB1.out)).trans (hal.mono hB2)
  have HAB := Lib.hid (Nat.le_trans hB2 hal.size)
  have HLOB := Lib.hid (show B ≤ lg ∧ B ≤ bb from ⟨hlo2'.low, hlo2'.lowb⟩)
  have HVR := Lib.hid (fun k hk => (hlo2'.recs.lt k hk).1)
  have HST2 := Lib.hid hst2
  clear hpost hst2 hlo2 ho2 hok2 hfr2 hn2 hrec2 hfin2 hfu2 hsn2 hlo hhi hf2 hlo2' hal hlit hB2 CO
  go_wp2_with fail
  refine CA.out.mono ?_
  intro e w3 hpost
  obtain ⟨s3, d3, vr3, ps3, rfl, hst3, hlo3, hA3, hfu3, ho3, -, -⟩ := hpost.ok HFU2.out
  have hn3 : s3.n = 2 := by rw [hA3.n, HSN2.out]; rfl
  have HB3 : Hid (Below B w w3) := by
    refine HB2.out.trans (ho3.below (fun k hk => ?_) HAB.out)
    rcases hk with hk | hk | hk | hk
    · exact (HST2.out.foot k hk).1
    · rw [hk]; exact HLOB.out.1
    · rw [hk]; exact HLOB.out.2
    · exact HVR.out k hk
  have HBW3 : Hid (B ≤ w3.heap.size) := Nat.le_trans HAB.out ho3.size
  have hfin3 : d3.fin = 3 := by rw [hA3.d1]; show d2.fin + _ = 3; rw [HFIN2.out, stands9]; rfl
  have CI := Lib.hid (bImage_any (B + 1) B none s3 B w3 hst3)
  have hby : ∀ (j : Nat) (x : UInt8), ([1, 9, 165] : List UInt8)[j]? = some x → (bimg s3)[j]? = some x := by
    intro j x hx
    have hj : j < 3 := (List.getElem?_eq_some_iff.1 hx).1
    unfold bimg
    rw [List.getElem?_map, hn3, List.getElem?_range (by omega)]
    have hF := hA3.f j
    have hm := lapp_mid (d := d2) (r := [9]) HOK2.out.blen (by rw [HFIN2.out, HN2.out, stands9]; decide) (j := j) (by rw [stands9]; exact hj)
    rw [HFIN2.out, Nat.zero_add, stands9, hx] at hm
    rw [HFR2.out, HN2.out, Nat.zero_mul, Nat.zero_add, if_pos ⟨Nat.zero_le _, by omega⟩, Nat.sub_zero, hm] at hF
    show some (s3.f j) = some x
    rw [hF]
    rfl
  have hil : (bimg s3).length = 128 := by unfold bimg; rw [List.length_map, List.length_range, hn3]
  have CE3 : ∀ V, Below w3.heap.size w3 V → Calls Try.prog 47 #[.pointer (some ⟨lg, 0, none⟩)] V fun e w' => e = .returned (.int .i64 3) ∧ w' = V := fun V hV => by
    have := lEnd_any V B lg bb bc (B + 1) vr3 ps3 d3 (hlo3.below hV)
    rw [hfin3] at this
    exact this
  have CE := Lib.hid CE3
  have HBY := Lib.hid hby
  have HIL := Lib.hid hil
  clear hpost hst3 hlo3 hA3 hfu3 ho3 hn3 hfin3 hby hil CE3 CA
  go_wp2_with fail
  refine CI.out.mono ?_
  rintro e w4 ⟨v4, rfl, ho4, hb4⟩
  obtain ⟨a, c, adr, rfl, ha1, ha2, ha3, ha4, ha5⟩ := Bs.open_n elB ho4.bs 128 HIL.out
  have i0 := fun W => ha3 W 0 (by omega) (by omega)
  have i1 := fun W => ha3 W 1 (by omega) (by omega)
  have i2 := fun W => ha3 W 2 (by omega) (by omega)
  have k0 := ha5 0 1 (HBY.out 0 1 rfl)
  have k1 := ha5 1 9 (HBY.out 1 9 rfl)
  have k2 := ha5 2 165 (HBY.out 2 165 rfl)
  have CE4 := Lib.hid (CE.out w4 hb4)
  have HB4 := Lib.hid (HB3.out.trans (hb4.mono HBW3.out))
  simp only [Int.toNat_zero, Int.toNat_one, show (2 : Int).toNat = 2 from rfl] at i0 i1 i2
  clear ha1 ha2 ha3 ha4 ha5 ho4 hb4 CI
  go_wp2_with (go_at_call 47; refine CE4.out.mono ?_; rintro e w' ⟨rfl, rfl⟩)
  go_ret
  exact ⟨rfl, by rw [HB.out]; exact HB4.out⟩

end Go.Proofs.Ytbonapdainlpjaa
