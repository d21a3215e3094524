/- Layer 35 (log): the log's row set anew; Clear. -/
import Derived.Test.YtbonapdainlpjaaLg8
set_option linter.unusedSimpArgs false
namespace Go.Proofs.Ytbonapdainlpjaa
open Go.RowKit Go.Sort

/-- the end and the records set anew -/
theorem LoAt.upd {w W : World} {B lg bb bc g : Nat} {vr vr' : Value} {ps ps' : List Rc} {d : Lg} {fin' : Nat} {recs' : List (List UInt8)} (h : LoAt w B lg bb bc g vr ps d) (ho : Only (fun k => k = lg) w W)
    (hr : W.heap[lg]? = some (.cells (loRow g bb bc vr' { d with fin := fin', recs := recs' }) 128 (0, 0))) (hg : Gw 1 csP w B 43 vr' ps') (he : ∀ p ∈ ps', Ob w B 5 p.v p.2 ∧ p.v.ownBlock ≠ some bb) (hi : rbs ps' = recs') (hf : fin' ≤ d.n * 64) (hl : ps'.length ≤ fin') :
    LoAt W B lg bb bc g vr' ps' { d with fin := fin', recs := recs' } := by
  obtain ⟨n1, n2, n3, n4⟩ := h.ne_b
  refine ⟨h.low, h.lowb, hr, h.b.only ho (fun e => n1 e.symm), h.blen, h.n1, h.n2, h.f2, hg.only ho (fun k hk e => ?_), fun p hp => ⟨(he p hp).1.only ho (fun k hk e => ?_), (he p hp).2⟩, hi, hf, hl⟩
  · subst e
    obtain ⟨A, hA⟩ := hg.tag _ hk
    exact absurd (tags_apart h.row hA) (by decide)
  · subst e
    obtain ⟨A, hA⟩ := (he p hp).1.tag _ hk
    exact absurd (tags_apart h.row hA) (by decide)

/-- what Clear leaves -/
def ClearPost (w : World) (B lg bb bc g gb : Nat) (fo : Option Nat) (vr : Value) (ps : List Rc) (s : BSt) (d : Lg) (e : Ending) (w' : World) : Prop :=
  ∃ fo' s' d' vr' ps' E, e = .returned (.int .i64 E) ∧ StAt w' B g gb fo' s' ∧ LoAt w' B lg bb bc g vr' ps' d' ∧
    ((E = 0 ∧ vr' = .slice none 0 0 ∧ ps' = [] ∧ ∃ d1, WipeR s d 0 d.n s' d1 ∧ d' = { d1 with fin := 0, recs := [] }) ∨ (E = 50 ∧ vr' = vr ∧ ps' = ps ∧ TornR s d 0 d.n s' d')) ∧
    Only (fun k => stF g gb fo k ∨ k = lg ∨ k = bb) w w' ∧ (∀ k, fo' = some k → fo = some k ∨ w.heap.size ≤ k)

set_option maxRecDepth 100000 in
set_option maxHeartbeats 1600000 in
theorem lClear_any (w : World) (B lg bb bc g gb : Nat) (fo : Option Nat) (vr : Value) (ps : List Rc) (s : BSt) (d : Lg) (hs : StAt w B g gb fo s) (h : LoAt w B lg bb bc g vr ps d)
    (hd : d.dead = false) (hon : s.off = false) (hsync : Sync s d) (hfit : d.fr + d.n ≤ s.n) (hc0 : 0 ≤ s.cnt) (hc : s.cnt ≤ 4000000000000000000) :
    Calls Try.prog 53 #[.pointer (some ⟨lg, 0, none⟩)] w (ClearPost w B lg bb bc g gb fo vr ps s d) := by
  have hcs := h.cells
  obtain ⟨c0, -, -, -, -, -, c6⟩ := hcs
  rw [hd] at c6
  have C := Lib.hid (lIs_any lg g w c0)
  have CW := Lib.hid (lWipe_any w B lg bb bc g gb fo vr ps s d 0 hs h hon hsync hfit hc0 hc)
  rw [show ((0 : Nat) : Int) = 0 from rfl] at CW
  clear h hs hd hon hsync hfit hc0 hc
  go_enter Try.func53, Try.ntmps53
  go_wp2_with (go_at_call 93; refine C.out.mono ?_; rintro e w' ⟨rfl, rfl⟩)
  refine CW.out.mono ?_
  rintro e w2 ⟨fo', s', d', E, rfl, hst, hlo, hR, ho, hf⟩
  have HST := Lib.hid hst
  have HLO := Lib.hid hlo
  have HO := Lib.hid ho
  have HF := Lib.hid hf
  rcases hR with ⟨rfl, hR⟩ | ⟨rfl, hR⟩
  · have HR := Lib.hid hR
    have hcs := hlo.cells
    obtain ⟨-, -, -, -, c4, c5, -⟩ := hcs
    have f4 := row_free hlo.row 4
    have f5 := row_free hlo.row 5
    have e0 : ((0 : Int) != 0) = false := by decide
    clear hst hlo ho hf hR C CW c0 c6
    go_wp2
    go_ret
    have o1 : Only (fun k => k = lg) w2 ((w2.setCell ⟨lg, 4, none⟩ (.int .i64 0)).setCell ⟨lg, 5, none⟩ (.slice none 0 0)) := (set_only w2 lg 4 _).trans (set_only _ lg 5 _)
    refine ⟨fo', s', _, .slice none 0 0, [], 0, rfl, HST.out.only o1 ?_, HLO.out.upd (fin' := 0) (recs' := []) o1 (row_setCell (row_setCell HLO.out.row 4 _) 5 _) (Gw.nil _ _ _) (by simp) rfl (Nat.zero_le _) (by simp), .inl ⟨rfl, rfl, rfl, _, HR.out, rfl⟩, ?_, HF.out⟩
    · rintro k hk rfl
      exact HLO.out.apart HST.out _ (.inl (.inl rfl)) hk
    · exact HO.out.trans' o1 (fun k hk => .inl (.inr (.inl hk)))
  · have HR := Lib.hid hR
    have e0 : ((50 : Int) != 0) = true := by decide
    clear hst hlo ho hf hR C CW
    go_wp2
    go_ret
    exact ⟨fo', s', d', vr, ps, 50, rfl, HST.out, HLO.out, .inr ⟨rfl, rfl, rfl, HR.out⟩, HO.out, HF.out⟩

theorem lClear_dead (w : World) (B lg bb bc g : Nat) (vr : Value) (ps : List Rc) (d : Lg) (h : LoAt w B lg bb bc g vr ps d) (hd : d.dead = true) :
    Calls Try.prog 53 #[.pointer (some ⟨lg, 0, none⟩)] w fun e w' => e = .returned (.int .i64 50) ∧ w' = w := by
  have hcs := h.cells
  obtain ⟨c0, -, -, -, -, -, c6⟩ := hcs
  rw [hd] at c6
  have C := Lib.hid (lIs_any lg g w c0)
  clear h hd
  go_enter Try.func53, Try.ntmps53
  go_wp2_with (go_at_call 93; refine C.out.mono ?_; rintro e w' ⟨rfl, rfl⟩)
  go_ret
  exact ⟨rfl, rfl⟩
theorem lClear_nil (w : World) : Calls Try.prog 53 #[.pointer none] w fun e w' => e = .returned (.int .i64 1) ∧ w' = w := by
  go_enter Try.func53, Try.ntmps53
  go_wp2_with (go_at_call 93; refine (lIs_nil w).mono ?_; rintro e w' ⟨rfl, rfl⟩)
  go_ret
  exact ⟨rfl, rfl⟩

end Go.Proofs.Ytbonapdainlpjaa
