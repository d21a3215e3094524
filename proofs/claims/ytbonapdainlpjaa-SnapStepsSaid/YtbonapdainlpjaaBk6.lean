/- Layer 34 (block): Write with a fuse that does not blow. -/
import Derived.Test.YtbonapdainlpjaaBk5
import Derived.Deep.DeepCutAuto
set_option linter.unusedSimpArgs false
namespace Go.Proofs.Ytbonapdainlpjaa
open Go.RowKit Go.Sort

/-- the fuse's row -/
theorem StAt.fuse {w : World} {B g gb hf : Nat} {fa fb : Int} {s : BSt} (h : StAt w B g gb (some hf) s) (hfu : s.fu = some (fa, fb)) :
    w.heap[hf]? = some (.cells #[.int .i64 fa, .int .i64 fb] 126 (0, 0)) ∧ B ≤ hf ∧ 0 ≤ fa ∧ fa ≤ 9223372036854775807 ∧ 0 ≤ fb ∧ fb ≤ 9223372036854775807 := by
  rcases h.fus with ⟨h1, _⟩ | ⟨k, a, b, h1, h2, h3, h4, h5, h6, h7, h8⟩
  · cases h1
  · cases h1
    rw [hfu] at h2
    cases h2
    exact ⟨h8, h3, h4, h5, h6, h7⟩
theorem StAt.fdec {w : World} {B g gb hf : Nat} {fa fb : Int} {s : BSt} (h : StAt w B g gb (some hf) s) (hfu : s.fu = some (fa, fb)) (hfa : fa ≠ 0) :
    StAt (w.setCell ⟨hf, 0, none⟩ (.int .i64 (fa - 1))) B g gb (some hf) ⟨s.n, s.f, s.off, some (fa - 1, fb), s.cnt⟩ := by
  obtain ⟨fr, fl, fa0, fa1, fb0, fb1⟩ := h.fuse hfu
  have o := set_only w hf 0 (.int .i64 (fa - 1))
  refine ⟨h.low, h.lowb, h.n1, h.n2, ?_, ?_, .inr ⟨hf, fa - 1, fb, rfl, rfl, fl, by omega, by omega, fb0, fb1, row_setCell fr 0 _⟩⟩
  · rw [o.block g (heap_lt h.row) (fun e => ne_tag h.row fr (by decide) e)]; exact h.row
  · rw [o.block gb (heap_lt h.blk) (fun e => ne_tag h.blk fr (by decide) e)]; exact h.blk

set_option maxRecDepth 100000 in
set_option maxHeartbeats 800000 in
theorem bWrite_fuse (g gb hf : Nat) (fa fb : Int) (s : BSt) (i : Int) (v : Value) (l : List UInt8) (B : Nat) (w : World) (h : StAt w B g gb (some hf) s) (hfu : s.fu = some (fa, fb)) (hfa : fa ≠ 0) (hl : Bs w v l) (hd : v.ownBlock ≠ some gb) (hg : v.ownBlock ≠ some g) (hgf : v.ownBlock ≠ some hf) (h0 : bmayE s i = 0) (h64 : l.length = 64) (hc0 : 0 ≤ s.cnt) (hc : s.cnt ≤ 4611686018427387904) :
    Calls Try.prog 31 #[.pointer (some ⟨g, 0, none⟩), .int .i64 i, v] w (WritePost w B g gb (some hf) s i l) := by
  unfold WritePost
  obtain ⟨hoff, hi0, hi1⟩ := bgood h0
  obtain ⟨fr, fl, fa0, fa1, fb0, fb1⟩ := h.fuse hfu
  have hS : bwrS s i l = ⟨s.n, bput s.f (i.toNat * 64) l, s.off, some (fa - 1, fb), s.cnt + 1⟩ := by
    unfold bwrS
    rw [if_pos ⟨h0, h64⟩, hfu]
    exact if_neg hfa
  have hE : bwrE s i l = 0 := by unfold bwrE; rw [if_pos h0, if_pos h64, hfu]; exact if_neg hfa
  rw [hS, hE]
  have HM := Lib.hid (bmay_any g gb (some hf) s i B w h)
  rw [h0] at HM
  have hcn0 := h.cnt (s.cnt + 1)
  have hcn := hcn0.fdec hfu hfa
  have c3 : w.cell? ⟨g, 3, none⟩ = some (.int .i64 s.cnt) := by rw [cell_of_row w g 3 _ _ _ h.row]; rfl
  have f3 := row_free h.row 3
  obtain ⟨W0, hW0⟩ : ∃ W0, w.setCell ⟨g, 3, none⟩ (.int .i64 (s.cnt + 1)) = W0 := ⟨_, rfl⟩
  rw [hW0] at hcn0 hcn
  obtain ⟨W1, hW1⟩ : ∃ W1, W0.setCell ⟨hf, 0, none⟩ (.int .i64 (fa - 1)) = W1 := ⟨_, rfl⟩
  rw [hW1] at hcn
  obtain ⟨gr, gl, _, _, _, _⟩ := hcn0.fuse hfu
  have ho1 : Only (fun k => k = g ∨ k = hf) w W1 := by rw [← hW1, ← hW0]; exact ((set_only w g 3 _).mono fun k _ hk => .inl hk).trans ((set_only _ hf 0 _).mono fun k _ hk => .inr hk)
  have hl1 : Bs W1 v l := hl.only ho1 fun k hk e => by rcases e with rfl | rfl; exact hg hk; exact hgf hk
  have b0 : W0.cell? ⟨g, 2, none⟩ = some (.pointer (some ⟨hf, 0, none⟩)) := by rw [cell_of_row W0 g 2 _ _ _ hcn0.row]; rfl
  have b1 : W0.cell? ⟨hf, 0, none⟩ = some (.int .i64 fa) := by rw [cell_of_row W0 hf 0 _ _ _ gr]; rfl
  have b2 := row_free gr 0
  have c0 : W1.cell? ⟨g, 0, none⟩ = some (.slice (some ⟨gb, 0, none⟩) s.n s.n) := by rw [cell_of_row W1 g 0 _ _ _ hcn.row]; rfl
  have c2 : W1.cell? ⟨g, 2, none⟩ = some (.pointer (some ⟨hf, 0, none⟩)) := by rw [cell_of_row W1 g 2 _ _ _ hcn.row]; rfl
  have hix := run_bix gb s.n i hi0 hi1
  have hsz : (rowb (s.n * 64) s.f).size = s.n * 64 := rowb_len _ _
  have hth : W1.there gb (i.toNat * 64) 64 := fun j hj => by
    refine ⟨?_, row_free hcn.blk _⟩
    rw [cell_of_row W1 gb _ _ _ _ hcn.blk, rowb_get _ (by show _ < s.n * 64; omega)]
    rfl
  obtain ⟨a, c, rfl⟩ := hl.shape
  obtain ⟨cs, hcs⟩ : ∃ cs, l.map bv = cs := ⟨_, rfl⟩
  have hcl : cs.length = 64 := by rw [← hcs, List.length_map, h64]
  have hone : ∀ u ∈ cs, u.oneCell' = true := by rw [← hcs]; exact bv_one _
  obtain ⟨bb, oo, ha, hra⟩ : ∃ bb oo, a = some ⟨bb, oo, none⟩ ∧ W1.rangeAt bb oo cs := by
    obtain ⟨_, a', c', he, _, _, _, h5⟩ := hl1
    simp only [Value.slice.injEq] at he
    obtain ⟨rfl, _, _⟩ := he
    rcases h5 with h5 | ⟨b, off, rfl, _, hc⟩
    · omega
    · exact ⟨b, off, rfl, by rw [← hcs]; exact hc⟩
  subst ha
  have hbb : bb ≠ gb := fun e => hd (by rw [e]; rfl)
  have hgg : g ≠ gb := ne_tag h.row h.blk (by decide)
  have har := run_arrayAt (some ⟨bb, oo, none⟩) c
  have hu := Try.underlying124
  have hii : (Try.prog.info? 124).map (·.size) = some cs.length := by rw [hcl]; kernel_rfl
  have fin : StPost w B g gb (some hf) ⟨s.n, bput s.f (i.toNat * 64) l, s.off, some (fa - 1, fb), s.cnt + 1⟩ (W1.drew.setCells gb (i.toNat * 64) cs) := by
    rw [← hcs]
    obtain ⟨q1, q2⟩ := (hcn.below (Below.refl _ _).drew).put (i.toNat * 64) l
    exact ⟨some hf, q1, (ho1.mono fun k _ hk => by rcases hk with rfl | rfl; exact .inl rfl; exact .inr (.inr rfl)).trans (((Only.refl (stF g gb (some hf)) W1) |> only_drew).trans (q2.mono fun k _ hk => .inr (.inl hk))), fun k hk => .inl hk⟩
  have FIN := Lib.hid fin
  obtain ⟨n, hn⟩ : ∃ n, s.n = n := ⟨_, rfl⟩
  obtain ⟨ct, hct⟩ : ∃ n, s.cnt = n := ⟨_, rfl⟩
  rw [hct] at c3 hW0 hc0 hc
  rw [hn] at c0 hix hi1
  rw [h64]
  have HHN := Lib.hid hn
  have HHC := Lib.hid hct
  clear h hl hl1 hd hg h0 h64 hfu hS hE hcn ho1 hcs hoff hsz hn hct fin hcn0 fr gr
  have e9 : (fa == 0) = false := by simpa using hfa
  clear hfa
  go_enter Try.func31, Try.ntmps31
  go_wp2_with fail
  refine HM.out.mono ?_
  rintro e w2 ⟨rfl, rfl⟩
  go_upto_region 13 with fail
  go_region_held (fun w' => w'.cell? ⟨g, 0, none⟩ = some (.slice (some ⟨gb, 0, none⟩) n n) ∧ w'.rangeAt bb oo cs ∧ w'.there gb (i.toNat * 64) 64) (first | go_keep_ranges | (go_split_ands; exact ⟨by rw [setCells_cell _ _ _ _ _ hgg]; assumption, World.rangeAt_setCells_apart (by assumption) _ _ _ (.inl hbb), World.there_setCells (by assumption) _ _ _⟩)) (fail)
  go_wp2
  go_ret
  exact ⟨rfl, FIN.out⟩

end Go.Proofs.Ytbonapdainlpjaa
