/- Layer 35 (log): a block of the region written. -/
import Derived.Test.YtbonapdainlpjaaLg3
import Derived.Deep.RegionHeld3
import Derived.Deep.DrawnRows
import Derived.Lib.SliceRun
set_option linter.unusedSimpArgs false
namespace Go.Proofs.Ytbonapdainlpjaa
open Go.RowKit Go.Sort

theorem bwrE_cases (s : BSt) (i : Int) (l : List UInt8) (h0 : 0 ≤ i) (h1 : i < s.n) (hl : l.length = 64) : bwrE s i l = 0 ∨ bwrE s i l = 50 := by
  unfold bwrE bmayE
  cases s.off with
  | true => right; simp
  | false =>
    rw [if_pos (by rw [if_neg (by simp), if_pos ⟨h0, h1⟩]), if_pos hl]
    cases s.fu with
    | none => left; rfl
    | some x =>
      obtain ⟨a, b⟩ := x
      by_cases h : a = 0
      · right; simp [h]
      · left; simp [h]

set_option maxRecDepth 100000 in
set_option maxHeartbeats 1600000 in
theorem lWrite_any (w : World) (B lg bb bc g gb : Nat) (fo : Option Nat) (vr : Value) (ps : List Rc) (s : BSt) (d : Lg) (i : Nat) (v : Value) (l : List UInt8) (hs : StAt w B g gb fo s) (h : LoAt w B lg bb bc g vr ps d)
    (hv : Bs w v l) (hl : l.length = 64) (hd : ∀ k, v.ownBlock = some k → ¬ stF g gb fo k) (hi : i < d.n) (hfit : d.fr + d.n ≤ s.n) (hc0 : 0 ≤ s.cnt) (hc : s.cnt ≤ 4611686018427387904) :
    Calls Try.prog 99 #[.pointer (some ⟨lg, 0, none⟩), .int .i64 (i : Int), v] w
      (LWPost w B lg bb bc g gb fo vr ps (bwrS s ((d.fr : Int) + i) l) (if bwrE s ((d.fr : Int) + i) l = 0 then { d with b := lput d.b i l } else { d with dead := true }) (bwrE s ((d.fr : Int) + i) l)) := by
  have hcs := h.cells
  obtain ⟨c0, c1, -, -, -, -, -⟩ := hcs
  have hf2 := h.f2
  have hn2 := h.n2
  have HH := Lib.hid h
  have HSS := Lib.hid hs
  have HV := Lib.hid hv
  have HD := Lib.hid hd
  have HL := Lib.hid hl
  have hbw := Below.refl w.heap.size w
  have CW := Lib.hid (bWrite_any g gb fo s ((d.fr : Int) + i) v l B w.drew (hs.below hbw.drew) (hv.below hbw.drew) hd hc0 hc)
  unfold WritePost at CW
  have hEc := bwrE_cases s ((d.fr : Int) + i) l (by omega) (by have := hs.n2; omega) hl
  obtain ⟨E, hE⟩ : ∃ E, bwrE s ((d.fr : Int) + i) l = E := ⟨_, rfl⟩
  rw [hE] at CW hEc ⊢
  obtain ⟨s', hs'⟩ : ∃ s', bwrS s ((d.fr : Int) + i) l = s' := ⟨_, rfl⟩
  rw [hs'] at CW ⊢
  obtain ⟨d', hd'⟩ : ∃ d', (if E = 0 then { d with b := lput d.b i l } else { d with dead := true } : Lg) = d' := ⟨_, rfl⟩
  rw [hd']
  have HD' := Lib.hid hd'
  clear hd'
  obtain ⟨fr, hfr⟩ : ∃ fr, d.fr = fr := ⟨_, rfl⟩
  rw [hfr] at c1 CW hf2
  have hw : IntKind.i64.wrap ((fr : Int) + i) = (fr : Int) + i := IntWalk.i64_in _ (by omega)
  have keepS : Hid (∀ V : World, Only (stF g gb fo) w V → V.cell? ⟨lg, 0, none⟩ = some (.pointer (some ⟨g, 0, none⟩)) ∧ V.cell? ⟨lg, 1, none⟩ = some (.int .i64 fr)) := fun V hV => by
    have := (HH.out.only hV (HH.out.apart HSS.out)).cells
    rw [hfr] at this
    exact ⟨this.1, this.2.1⟩
  have HEC := Lib.hid hEc
  have HI := Lib.hid hi
  clear h hs hv hd hl hE hs' hbw hfr hEc hfit hc0 hc c0 c1
  go_enter Try.func99, Try.ntmps99
  go_wp2_with fail
  go_region_held3 (fun W => W.cell? ⟨lg, 0, none⟩ = some (.pointer (some ⟨g, 0, none⟩)) ∧ W.cell? ⟨lg, 1, none⟩ = some (.int .i64 fr)) (first
      | (with_reducible exact keepS.out _ O1)
      | (with_reducible exact keepS.out _ (only_drew (Only.refl _ _)))) (first
      | (go_at_call 31; (with_reducible refine CW.out.mono ?_); rintro e w1 ⟨rfl, ⟨fo', hst1, ho1, hfr1⟩⟩; have O1 : Only (stF g gb fo) w w1 := (only_drew (Only.refl _ w)).trans ho1))
  have HST1 := Lib.hid hst1
  have HFR1 := Lib.hid hfr1
  have hlo1 := HH.out.only O1 (HH.out.apart HSS.out)
  have HLO1 := Lib.hid hlo1
  have HO1 := Lib.hid O1
  have hcs1 := hlo1.cells
  obtain ⟨-, -, -, c3, -, -, c6⟩ := hcs1
  have f6 := row_free hlo1.row 6
  have hcap := hlo1.cap
  clear hst1 hfr1 ho1 hlo1 O1
  rcases HEC.out with h0 | h0
  · subst h0
    have e0 : ((0 : Int) != 0) = false := by decide
    have CP := Lib.hid (lPart_any lg bb bc d.n i w1 c3 HI.out hn2 hcap.1)
    have hv1 := HV.out.only HO1.out HD.out
    obtain ⟨av, cv, hsv⟩ := hv1.shape
    rw [HL.out] at hsv
    subst hsv
    have hset := HLO1.out.setB i l HI.out HL.out
    have hcopy : (Builtin.copy_ #[43, 43] 3 #[.slice (some ⟨bb, i * 64, none⟩) 64 (bc - i * 64), .slice av 64 cv]).run Try.prog w1 = .ok (goInt 64) (w1.setCells bb (i * 64) (l.map bv)) := by
      obtain ⟨_, a', c', he, _, _, h5, h6⟩ := hv1
      simp only [Value.slice.injEq] at he
      obtain ⟨rfl, _, rfl⟩ := he
      rcases h6 with h6 | ⟨b2, off, rfl, _, h7⟩
      · rw [HL.out] at h6; omega
      · obtain ⟨cur, k1, k2, k3⟩ := HLO1.out.b.row
        have hr := run_copy_n (P := Try.prog) w1 43 43 3 5 1 bb (i * 64) 64 (bc - i * 64) ⟨b2, off, none⟩ 64 cv (l.map bv) Try.underlying43 (by obtain ⟨i0, hi0, _, hs0, _⟩ := elB.2.1; rw [hi0]; exact congrArg some hs0) (by simp [HL.out]) (fun j u hu => by rw [Addr.add_lit]; exact h7 j u hu)
          (fun j hj => HLO1.out.b.some _ (by have := HI.out; rw [List.length_map, HL.out] at hj; omega)) (fun j hj => HLO1.out.b.free _) (bv_one l)
        exact hr
    have HSET := Lib.hid hset
    have hcop := Lib.hid hcopy
    clear hset hcopy hv1
    go_wp2_with (first | (go_at_call 115; refine CP.out.mono ?_; rintro e w2 ⟨rfl, rfl⟩) | (refine wpList_copy_n _ rfl _ _ 43 43 rfl _ _ rfl rfl hcop.out ?_))
    go_ret
    refine ⟨fo', rfl, HST1.out.only HSET.out.2 ?_, ?_, ?_, ?_⟩
    · rintro k hk rfl
      exact HLO1.out.apart HST1.out _ (.inl (.inr (.inl rfl))) hk
    · rw [← HD'.out]
      first | rw [if_pos rfl] | rw [if_pos trivial]
      exact HSET.out.1
    · exact Only.trans' (HO1.out.mono (fun k _ hk => Or.inl hk)) HSET.out.2 (fun k hk => .inl (.inr (.inr hk)))
    · exact HFR1.out
  · subst h0
    have e0 : ((50 : Int) != 0) = true := by decide
    have hset := Lib.hid (HLO1.out.setDead true)
    go_wp2
    go_ret
    refine ⟨fo', rfl, HST1.out.only (set_only w1 lg 6 _) ?_, ?_, ?_, ?_⟩
    · rintro k hk rfl
      exact HLO1.out.apart HST1.out _ (.inl (.inl rfl)) hk
    · rw [← HD'.out]
      first | rw [if_neg (by decide)] | rw [if_neg (fun h => h)]
      exact hset.out
    · exact Only.trans' (HO1.out.mono (fun k _ hk => Or.inl hk)) (set_only w1 lg 6 _) (fun k hk => .inl (.inr (.inl hk)))
    · exact HFR1.out

end Go.Proofs.Ytbonapdainlpjaa
