/- Layer 34 (block): Write that blows the fuse. -/
import Derived.Test.YtbonapdainlpjaaBk6
import Derived.Deep.DeepCutAuto
import Derived.Deep.RegionLaw
set_option linter.unusedSimpArgs false
namespace Go.Proofs.Ytbonapdainlpjaa
open Go.RowKit Go.Sort

theorem setRow_on (w : World) (g : Nat) (cs : Array Value) : Only (fun k => k = g) w (w.setRow g cs) := ⟨rfl, rfl, rfl, by simp [World.setRow], fun k _ h => setRow_other w g k cs h⟩

section
variable {P : Program} {t elem : TypeId} {w : World} {ops : Array Oper} {o : Oper} {a : Act} {Q : Exit → Act → World → Prop} {K : Act → World → Prop} {F : Prop}
theorem wp_copy_rowb (d s : Operand) (dT sT : TypeId) (ho : o.op = .call { callee := .builtin .copy, args := #[d, s], argTypes := #[dT, sT] })
    (hu : P.underlying dT = some (.slice elem)) (hsz : (P.info? elem).map (·.size) = some 1) (g off n : Nat) (f : Nat → UInt8) (hg : w.heap[g]? = some (.cells (rowb n f) t (0, 0))) (dLen dCap sLen sCap : Nat) (sp : Option Addr)
    (hd : a.eval d = .slice (some ⟨g, off, none⟩) dLen dCap) (hs : a.eval s = .slice sp sLen sCap) (l : List UInt8) (hlen : l.length = sLen) (hle : sLen ≤ dLen) (hsrc : Bs w (.slice sp sLen sCap) l) (hfit : off + l.length ≤ n)
    (h : ∀ w', Hid (w'.heap[g]? = some (.cells (rowb n (bput f off l)) t (0, 0))) → Only (fun k => k = g) w w' → K (a.put o.dst (goInt l.length)) w') : Oper.wp P o a w K Q := by
  by_cases h0 : l.length = 0
  · obtain rfl : l = [] := List.eq_nil_of_length_eq_zero h0
    have hrun := run_copy_none (P := P) w dT sT o.type elem (some ⟨g, off, none⟩) sp dLen dCap sLen sCap hu hsz (by rw [← hlen]; simp)
    unfold Oper.wp
    simp [execOp, ho, resolve, invoke, builtin, hd, hs, hrun, Result.andThen]
    exact h w (show _ = _ by rw [hg, show bput f off [] = f by funext j; unfold bput; rw [if_neg (by simp)]]) (.refl _ _)
  · obtain ⟨ad, rfl, hc⟩ := hsrc.src (by omega)
    have hrun := run_copy_row (P := P) w dT sT o.type elem g off dLen dCap ad sLen sCap _ t (l.map bv) hu hsz hg (by rw [List.length_map, hlen]; exact (Nat.min_eq_left hle).symm) hc (by rw [rowb_len, List.length_map]; exact hfit) (bv_one l)
    have e := rowb_splice n f off l hfit
    unfold splice at e
    rw [List.append_assoc, e, List.length_map] at hrun
    unfold Oper.wp
    simp [execOp, ho, resolve, invoke, builtin, hd, hs, hrun, Result.andThen]
    exact h _ (setRow_heap w g _ _ t _ hg) (setRow_on w g _)
theorem step_copy_rowb (hgd : o.guard = none) (d s : Operand) (dT sT : TypeId) (ho : o.op = .call { callee := .builtin .copy, args := #[d, s], argTypes := #[dT, sT] })
    (hu : P.underlying dT = some (.slice elem)) (hsz : (P.info? elem).map (·.size) = some 1) (g off n : Nat) (f : Nat → UInt8) (hg : w.heap[g]? = some (.cells (rowb n f) t (0, 0))) (dLen dCap sLen sCap : Nat) (sp : Option Addr)
    (hd : a.eval d = .slice (some ⟨g, off, none⟩) dLen dCap) (hs : a.eval s = .slice sp sLen sCap) (l : List UInt8) (hlen : l.length = sLen) (hle : sLen ≤ dLen) (hsrc : Bs w (.slice sp sLen sCap) l) (hfit : off + l.length ≤ n)
    (h : ∀ w', Hid (w'.heap[g]? = some (.cells (rowb n (bput f off l)) t (0, 0))) → Only (fun k => k = g) w w' → K (a.put o.dst (goInt l.length)) w') : if Region.wanted o (yielded ops a.tmps) = true then Oper.wp P o a w K Q else F := by
  have hw : Region.wanted o (yielded ops a.tmps) = true := by simp [Region.wanted, hgd]
  rw [if_pos hw]
  exact wp_copy_rowb d s dT sT ho hu hsz g off n f hg dLen dCap sLen sCap sp hd hs l hlen hle hsrc hfit h
theorem wpList_copy_rowb {rest : List Oper} (hgd : o.guard = none) (d s : Operand) (dT sT : TypeId) (ho : o.op = .call { callee := .builtin .copy, args := #[d, s], argTypes := #[dT, sT] })
    (hu : P.underlying dT = some (.slice elem)) (hsz : (P.info? elem).map (·.size) = some 1) (g off n : Nat) (f : Nat → UInt8) (hg : w.heap[g]? = some (.cells (rowb n f) t (0, 0))) (dLen dCap sLen sCap : Nat) (sp : Option Addr)
    (hd : a.eval d = .slice (some ⟨g, off, none⟩) dLen dCap) (hs : a.eval s = .slice sp sLen sCap) (l : List UInt8) (hlen : l.length = sLen) (hle : sLen ≤ dLen) (hsrc : Bs w (.slice sp sLen sCap) l) (hfit : off + l.length ≤ n)
    (h : ∀ w', Hid (w'.heap[g]? = some (.cells (rowb n (bput f off l)) t (0, 0))) → Only (fun k => k = g) w w' → wpList P ops Q rest (a.put o.dst (goInt l.length)) w') : wpList P ops Q (o :: rest) a w :=
  wpList_plain hgd fun _ hK => wp_copy_rowb d s dT sT ho hu hsz g off n f hg dLen dCap sLen sCap sp hd hs l hlen hle hsrc hfit fun w' h1 h2 => hK _ _ (h w' h1 h2)
end

/-- the store goes off -/
theorem StAt.blow {w : World} {B g gb : Nat} {fo : Option Nat} {s : BSt} (h : StAt w B g gb fo s) :
    StAt ((w.setCell ⟨g, 1, none⟩ (.bool true)).setCell ⟨g, 2, none⟩ (.pointer none)) B g gb none ⟨s.n, s.f, true, none, s.cnt⟩ :=
  h.upd ((set_only w g 1 _).trans (set_only _ g 2 _)) (row_setCell (row_setCell h.row 1 _) 2 _) (.inl ⟨rfl, rfl⟩)

theorem run_upto (a : Option Addr) (n c m : Nat) (hm : m ≤ n) (hn : n ≤ c) (W : World) : (Instr.sliceAt 43 (.slice a n c) none (some (.int .i64 (m : Int))) none).run Try.prog W = .ok (.slice a m c) W := by
  have hT := elB.1
  have hel : Try.prog.elem 43 = 5 := by simp [Program.elem, hT]
  have hs := elB.sizeOf
  rw [run_sliceAt_slice (h := by rw [hel]; exact hT), run_slice_h (ht := by rw [hel]; exact hT) (h0 := by omega) (h2 := by omega), hel, hs]
  simp [Result.andThen, sliced, Addr.add_zero']
  try omega

set_option maxRecDepth 100000 in
set_option maxHeartbeats 800000 in
theorem bWrite_blow (g gb hf : Nat) (fb : Int) (s : BSt) (i : Int) (v : Value) (l : List UInt8) (B : Nat) (w : World) (h : StAt w B g gb (some hf) s) (hfu : s.fu = some (0, fb)) (hl : Bs w v l) (hd : v.ownBlock ≠ some gb) (hg : v.ownBlock ≠ some g) (h0 : bmayE s i = 0) (h64 : l.length = 64) (hc0 : 0 ≤ s.cnt) (hc : s.cnt ≤ 4611686018427387904) :
    Calls Try.prog 31 #[.pointer (some ⟨g, 0, none⟩), .int .i64 i, v] w (WritePost w B g gb (some hf) s i l) := by
  unfold WritePost
  obtain ⟨hoff, hi0, hi1⟩ := bgood h0
  obtain ⟨fr, fl, fa0, fa1, fb0, fb1⟩ := h.fuse hfu
  have hS : bwrS s i l = ⟨s.n, bput s.f (i.toNat * 64) (l.take (min fb 64).toNat), true, none, s.cnt + 1⟩ := by
    unfold bwrS
    rw [if_pos ⟨h0, h64⟩, hfu]
    rfl
  have hE : bwrE s i l = 50 := by unfold bwrE; rw [if_pos h0, if_pos h64, hfu]; rfl
  rw [hS, hE]
  have HM := Lib.hid (bmay_any g gb (some hf) s i B w h)
  rw [h0] at HM
  have hcn := h.cnt (s.cnt + 1)
  have c3 : w.cell? ⟨g, 3, none⟩ = some (.int .i64 s.cnt) := by rw [cell_of_row w g 3 _ _ _ h.row]; rfl
  have f3 := row_free h.row 3
  obtain ⟨W1, hW1⟩ : ∃ W1, w.setCell ⟨g, 3, none⟩ (.int .i64 (s.cnt + 1)) = W1 := ⟨_, rfl⟩
  have ho1 : Only (fun k => k = g) w W1 := by rw [← hW1]; exact set_only w g 3 _
  have hl1 : Bs W1 v l := hl.only ho1 fun k hk e => hg (by rw [hk, e])
  rw [hW1] at hcn
  obtain ⟨gr, _, _, _, _, _⟩ := hcn.fuse hfu
  have c0 : W1.cell? ⟨g, 0, none⟩ = some (.slice (some ⟨gb, 0, none⟩) s.n s.n) := by rw [cell_of_row W1 g 0 _ _ _ hcn.row]; rfl
  have c2 : W1.cell? ⟨g, 2, none⟩ = some (.pointer (some ⟨hf, 0, none⟩)) := by rw [cell_of_row W1 g 2 _ _ _ hcn.row]; rfl
  have b0 : W1.cell? ⟨hf, 0, none⟩ = some (.int .i64 0) := by rw [cell_of_row W1 hf 0 _ _ _ gr]; rfl
  have b1 : W1.cell? ⟨hf, 1, none⟩ = some (.int .i64 fb) := by rw [cell_of_row W1 hf 1 _ _ _ gr]; rfl
  have hix := run_bix gb s.n i hi0 hi1
  have hsl := run_bsl gb (i.toNat * 64)
  obtain ⟨a, c, rfl⟩ := hl.shape
  obtain ⟨_, hnc, _⟩ := hl.len_eq
  obtain ⟨m, hm⟩ : ∃ m, (min fb 64).toNat = m := ⟨_, rfl⟩
  have hmi : (if 64 < fb then 64 else fb) = (m : Int) := by rw [← hm]; split <;> omega
  have hm64 : m ≤ 64 := by omega
  rw [hm]
  rw [h64] at hnc hl1 ⊢
  have hup := run_upto a 64 c m hm64 hnc
  have hlm : (l.take m).length = m := by rw [List.length_take]; omega
  have hsrc : Bs W1 (.slice a m c) (l.take m) := hl1.take m (by omega)
  have fin : ∀ W4 : World, W4.heap[gb]? = some (.cells (rowb (s.n * 64) (bput s.f (i.toNat * 64) (l.take m))) 124 (0, 0)) → Only (fun k => k = gb) W1.drew W4 →
      W4.cell? ⟨g, 1, none⟩ = some (.bool s.off) ∧ W4.cell? ⟨g, 2, none⟩ = some (.pointer (some ⟨hf, 0, none⟩)) ∧ W4.frozen? ⟨g, 1, none⟩ = false ∧ W4.frozen? ⟨g, 2, none⟩ = false ∧
      Hid (StPost w B g gb (some hf) ⟨s.n, bput s.f (i.toNat * 64) (l.take m), true, none, s.cnt + 1⟩ ((W4.setCell ⟨g, 1, none⟩ (.bool true)).setCell ⟨g, 2, none⟩ (.pointer none))) := by
    intro W4 r4 o4
    have hD := hcn.below (Below.refl _ _).drew
    have h4 : StAt W4 B g gb (some hf) ⟨s.n, bput s.f (i.toNat * 64) (l.take m), s.off, s.fu, s.cnt + 1⟩ := by
      refine ⟨h.low, h.lowb, h.n1, h.n2, ?_, r4, ?_⟩
      · rw [o4.block g (heap_lt hD.row) (fun e => ne_tag h.row h.blk (by decide) e)]; exact hD.row
      · exact hD.fus.only o4 fun k hk => by cases hk; exact fun e => ne_tag fr h.blk (by decide) e
    refine ⟨by rw [cell_of_row W4 g 1 _ _ _ h4.row]; rfl, by rw [cell_of_row W4 g 2 _ _ _ h4.row]; rfl, row_free h4.row 1, row_free h4.row 2, none, h4.blow, ?_, fun k hk => by cases hk⟩
    have o5 : Only (fun k => k = g) W4 ((W4.setCell ⟨g, 1, none⟩ (.bool true)).setCell ⟨g, 2, none⟩ (.pointer none)) := (set_only W4 g 1 _).trans (set_only _ g 2 _)
    exact (ho1.mono fun k _ hk => .inl hk).trans (((Only.refl (stF g gb (some hf)) W1) |> only_drew).trans ((o4.mono fun k _ hk => .inr (.inl hk)).trans (o5.mono fun k _ hk => .inl hk)))
  have hfit : i.toNat * 64 + (l.take m).length ≤ s.n * 64 := by rw [hlm]; omega
  have HBK := Lib.hid (hcn.below (Below.refl _ _).drew).blk
  have HSR := Lib.hid hsrc.drew
  have FIN := Lib.hid fin
  have HLM := Lib.hid hlm
  have HFT := Lib.hid hfit
  have HM64 := Lib.hid hm64
  obtain ⟨n, hn⟩ : ∃ n, s.n = n := ⟨_, rfl⟩
  obtain ⟨ct, hct⟩ : ∃ n, s.cnt = n := ⟨_, rfl⟩
  rw [hct] at c3 hW1 hc0 hc
  rw [hn] at c0 hix hi1
  clear h hl hl1 hd hg h0 h64 hfu hS hE hcn ho1 hoff hn hct fin hfit hlm hm64 hsrc fr gr hm hnc
  go_enter Try.func31, Try.ntmps31
  go_wp2_with fail
  refine HM.out.mono ?_
  rintro e w2 ⟨rfl, rfl⟩
  go_upto_region 8 with fail
  go_region_law (refine step_copy_rowb rfl (.tmp 45) (.tmp 55) 43 43 rfl Try.underlying43 (by kernel_rfl) gb (i.toNat * 64) (s.n * 64) s.f HBK.out 64 64 m c a rfl rfl (l.take m) HLM.out HM64.out HSR.out HFT.out ?_; intro w4 r4 o4; obtain ⟨d1, d2, f1, f2, HP⟩ := FIN.out w4 r4.out o4; clear r4 o4)
  all_goals
    go_wp2
    go_ret
    exact ⟨rfl, HP.out⟩

/-- the blocks of a slice are none of the store's -/
def SOff (g gb : Nat) (fo : Option Nat) (v : Value) : Prop := ∀ k, v.ownBlock = some k → ¬ stF g gb fo k

theorem bWrite_any (g gb : Nat) (fo : Option Nat) (s : BSt) (i : Int) (v : Value) (l : List UInt8) (B : Nat) (w : World) (h : StAt w B g gb fo s) (hl : Bs w v l) (hd : SOff g gb fo v) (hc0 : 0 ≤ s.cnt) (hc : s.cnt ≤ 4611686018427387904) :
    Calls Try.prog 31 #[.pointer (some ⟨g, 0, none⟩), .int .i64 i, v] w (WritePost w B g gb fo s i l) := by
  by_cases h0 : bmayE s i = 0
  · by_cases h64 : l.length = 64
    · have d1 : v.ownBlock ≠ some gb := fun e => hd gb e (.inr (.inl rfl))
      have d2 : v.ownBlock ≠ some g := fun e => hd g e (.inl rfl)
      have hf := h.fus
      rcases hf with ⟨rfl, _⟩ | ⟨k, a, b, rfl, hfu, _⟩
      · exact bWrite_plain g gb s i v l B w h hl d1 d2 h0 h64 hc0 hc
      · by_cases ha : a = 0
        · subst ha
          exact bWrite_blow g gb k b s i v l B w h hfu hl d1 d2 h0 h64 hc0 hc
        · exact bWrite_fuse g gb k a b s i v l B w h hfu ha hl d1 d2 (fun e => hd k e (.inr (.inr rfl))) h0 h64 hc0 hc
    · exact bWrite_no g gb fo s i v l B w h hl (.inr h64)
  · exact bWrite_no g gb fo s i v l B w h hl (.inl h0)

end Go.Proofs.Ytbonapdainlpjaa
