/- Layer 34 (block): Write. -/
import Derived.Test.YtbonapdainlpjaaBk4
import Derived.Deep.DeepCutAuto
set_option linter.unusedSimpArgs false
namespace Go.Proofs.Ytbonapdainlpjaa
open Go.RowKit Go.Sort

def bput (f : Nat → UInt8) (o : Nat) (l : List UInt8) : Nat → UInt8 := fun j => if o ≤ j ∧ j < o + l.length then l[j - o]?.getD 0 else f j

theorem bput_cons (f : Nat → UInt8) (o : Nat) (x : UInt8) (r : List UInt8) : bput (fun j => if j = o then x else f j) (o + 1) r = bput f o (x :: r) := by
  funext j
  unfold bput
  show (if o + 1 ≤ j ∧ j < o + 1 + r.length then r[j - (o + 1)]?.getD 0 else if j = o then x else f j) = _
  by_cases h1 : j = o
  · subst h1
    rw [if_neg (by omega), if_pos rfl, if_pos (by simp)]
    simp
  · by_cases h2 : o + 1 ≤ j ∧ j < o + 1 + r.length
    · rw [if_pos h2, if_pos (by simp; omega), show j - o = (j - (o + 1)) + 1 by omega, List.getElem?_cons_succ]
    · rw [if_neg h2, if_neg h1, if_neg (by simp; omega)]

theorem setCells_rowb {g n t : Nat} : ∀ (l : List UInt8) (w : World) (f : Nat → UInt8) (o : Nat), w.heap[g]? = some (.cells (rowb n f) t (0, 0)) →
    (w.setCells g o (l.map bv)).heap[g]? = some (.cells (rowb n (bput f o l)) t (0, 0)) ∧ Only (fun k => k = g) w (w.setCells g o (l.map bv))
  | [], w, f, o, h => ⟨by rw [show bput f o [] = f by funext j; unfold bput; rw [if_neg (by simp)]]; exact h, Only.refl _ _⟩
  | x :: r, w, f, o, h => by
    have h1 := setCell_eq_setRow w g o (rowb n f) t _ (bv x) h
    have h2 : (w.setCell ⟨g, o, none⟩ (bv x)).heap[g]? = some (.cells (rowb n fun j => if j = o then x else f j) t (0, 0)) := by rw [h1, rowb_set]; exact setRow_heap w g _ _ t _ h
    obtain ⟨k1, k2⟩ := setCells_rowb r (w.setCell ⟨g, o, none⟩ (bv x)) _ (o + 1) h2
    rw [bput_cons] at k1
    exact ⟨k1, (set_only w g o (bv x)).trans k2⟩

/-- what a write answers, and the store behind it -/
def bwrE (s : BSt) (i : Int) (l : List UInt8) : Int :=
  if bmayE s i = 0 then (if l.length = 64 then (match s.fu with | some (a, _) => if a = 0 then 50 else 0 | none => 0) else 2) else bmayE s i
def bwrS (s : BSt) (i : Int) (l : List UInt8) : BSt :=
  if bmayE s i = 0 ∧ l.length = 64 then
    (match s.fu with
    | none => ⟨s.n, bput s.f (i.toNat * 64) l, s.off, none, s.cnt + 1⟩
    | some (a, b) => if a = 0 then ⟨s.n, bput s.f (i.toNat * 64) (l.take (min b 64).toNat), true, none, s.cnt + 1⟩ else ⟨s.n, bput s.f (i.toNat * 64) l, s.off, some (a - 1, b), s.cnt + 1⟩)
  else s

def WritePost (w : World) (B g gb : Nat) (fo : Option Nat) (s : BSt) (i : Int) (l : List UInt8) (e : Ending) (w' : World) : Prop :=
  e = .returned (.int .i64 (bwrE s i l)) ∧ StPost w B g gb fo (bwrS s i l) w'

theorem StPost.refl {w : World} {B g gb : Nat} {fo : Option Nat} {s : BSt} (h : StAt w B g gb fo s) : StPost w B g gb fo s w := ⟨fo, h, .refl _ _, fun _ hk => .inl hk⟩

set_option maxRecDepth 100000 in
theorem bWrite_no (g gb : Nat) (fo : Option Nat) (s : BSt) (i : Int) (v : Value) (l : List UInt8) (B : Nat) (w : World) (h : StAt w B g gb fo s) (hl : Bs w v l) (hno : bmayE s i ≠ 0 ∨ l.length ≠ 64) :
    Calls Try.prog 31 #[.pointer (some ⟨g, 0, none⟩), .int .i64 i, v] w (WritePost w B g gb fo s i l) := by
  unfold WritePost
  have hS : bwrS s i l = s := by unfold bwrS; rw [if_neg (by rintro ⟨h1, h2⟩; rcases hno with h | h <;> omega)]
  rw [hS]
  have HP := Lib.hid (StPost.refl h)
  have HM := Lib.hid (bmay_any g gb fo s i B w h)
  obtain ⟨E, hE⟩ : ∃ E, bmayE s i = E := ⟨_, rfl⟩
  unfold bwrE
  rw [hE] at HM hno ⊢
  obtain ⟨a, c, rfl⟩ := hl.shape
  obtain ⟨m, hm⟩ : ∃ m, l.length = m := ⟨_, rfl⟩
  rw [hm] at hno ⊢
  clear h hS hE hl hm
  go_enter Try.func31, Try.ntmps31
  go_wp2_with fail
  refine HM.out.mono ?_
  rintro e w2 ⟨rfl, rfl⟩
  by_cases h0 : E = 0
  · have h64 : m ≠ 64 := by rcases hno with h | h; exact absurd h0 h; exact h
    subst h0
    have e1 : ((m : Int) != 64) = true := by simp; omega
    go_wp2
    go_ret
    exact ⟨rfl, HP.out⟩
  · go_wp2
    go_ret
    exact ⟨rfl, HP.out⟩

end Go.Proofs.Ytbonapdainlpjaa
namespace Go.Proofs.Ytbonapdainlpjaa
open Go.RowKit Go.Sort

theorem bgood {s : BSt} {i : Int} (h0 : bmayE s i = 0) : s.off = false ∧ 0 ≤ i ∧ i < s.n := by
  unfold bmayE at h0
  split at h0
  · omega
  · next hb =>
    split at h0
    · next h => exact ⟨by simpa using hb, h.1, h.2⟩
    · omega

theorem setCells_cell (w : World) (b o : Nat) (vs : List Value) (a : Addr) (h : a.block ≠ b) : (w.setCells b o vs).cell? a = w.cell? a := World.cell?_setCells_out b vs o w a (fun hb _ => absurd hb h)

theorem run_arrayAt (a : Option Addr) (c : Nat) (W : World) : (Instr.arrayAt 124 (.slice a 64 c)).run Try.prog W = .ok (.pointer a) W := by
  have hu := Try.underlying124
  simp [Instr.arrayAt, run_underlying hu, Sem.run_bind]

/-- the count is set, the store stands -/
theorem StAt.cnt {w : World} {B g gb : Nat} {fo : Option Nat} {s : BSt} (h : StAt w B g gb fo s) (c : Int) : StAt (w.setCell ⟨g, 3, none⟩ (.int .i64 c)) B g gb fo ⟨s.n, s.f, s.off, s.fu, c⟩ :=
  h.upd (set_only w g 3 _) (row_setCell h.row 3 _) (h.fus.only (set_only w g 3 _) fun k hk => by
    rintro rfl
    rcases h.fus with ⟨h1, _⟩ | ⟨k', a, b, h1, h2, h3, h4, h5, h6, h7, h8⟩
    · rw [h1] at hk; cases hk
    · rw [h1] at hk; cases hk
      exact ne_tag h8 h.row (by decide) rfl)

/-- bytes are put into the blocks -/
theorem StAt.put {w : World} {B g gb : Nat} {fo : Option Nat} {s : BSt} (h : StAt w B g gb fo s) (o : Nat) (l : List UInt8) :
    StAt (w.setCells gb o (l.map bv)) B g gb fo ⟨s.n, bput s.f o l, s.off, s.fu, s.cnt⟩ ∧ Only (fun k => k = gb) w (w.setCells gb o (l.map bv)) := by
  obtain ⟨k1, k2⟩ := setCells_rowb l w s.f o h.blk
  refine ⟨⟨h.low, h.lowb, h.n1, h.n2, ?_, k1, ?_⟩, k2⟩
  · rw [k2.block g (heap_lt h.row) (fun e => ne_tag h.row h.blk (by decide) e)]
    exact h.row
  · refine h.fus.only k2 fun k hk => ?_
    rintro rfl
    rcases h.fus with ⟨h1, _⟩ | ⟨k', a, b, h1, h2, h3, h4, h5, h6, h7, h8⟩
    · rw [h1] at hk; cases hk
    · rw [h1] at hk; cases hk
      exact ne_tag h8 h.blk (by decide) rfl

set_option maxRecDepth 100000 in
set_option maxHeartbeats 800000 in
theorem bWrite_plain (g gb : Nat) (s : BSt) (i : Int) (v : Value) (l : List UInt8) (B : Nat) (w : World) (h : StAt w B g gb none s) (hl : Bs w v l) (hd : v.ownBlock ≠ some gb) (hg : v.ownBlock ≠ some g) (h0 : bmayE s i = 0) (h64 : l.length = 64) (hc0 : 0 ≤ s.cnt) (hc : s.cnt ≤ 4611686018427387904) :
    Calls Try.prog 31 #[.pointer (some ⟨g, 0, none⟩), .int .i64 i, v] w (WritePost w B g gb none s i l) := by
  unfold WritePost
  obtain ⟨hoff, hi0, hi1⟩ := bgood h0
  have hfu : s.fu = none := by rcases h.fus with ⟨_, h⟩ | ⟨k, a, b, h1, _⟩; exact h; cases h1
  have hS : bwrS s i l = ⟨s.n, bput s.f (i.toNat * 64) l, s.off, none, s.cnt + 1⟩ := by unfold bwrS; rw [if_pos ⟨h0, h64⟩, hfu]
  have hE : bwrE s i l = 0 := by unfold bwrE; rw [if_pos h0, if_pos h64, hfu]
  rw [hS, hE]
  have HM := Lib.hid (bmay_any g gb none s i B w h)
  rw [h0] at HM
  have hcn := h.cnt (s.cnt + 1)
  have c3 : w.cell? ⟨g, 3, none⟩ = some (.int .i64 s.cnt) := by rw [cell_of_row w g 3 _ _ _ h.row]; rfl
  have f3 := row_free h.row 3
  obtain ⟨W1, hW1⟩ : ∃ W1, w.setCell ⟨g, 3, none⟩ (.int .i64 (s.cnt + 1)) = W1 := ⟨_, rfl⟩
  have ho1 : Only (fun k => k = g) w W1 := by rw [← hW1]; exact set_only w g 3 _
  have hl1 : Bs W1 v l := hl.only ho1 fun k hk e => hg (by rw [hk, e])
  rw [hW1] at hcn
  have c0 : W1.cell? ⟨g, 0, none⟩ = some (.slice (some ⟨gb, 0, none⟩) s.n s.n) := by rw [cell_of_row W1 g 0 _ _ _ hcn.row]; rfl
  have c2 : W1.cell? ⟨g, 2, none⟩ = some (.pointer none) := by rw [cell_of_row W1 g 2 _ _ _ hcn.row]; rfl
  have hix := run_bix gb s.n i hi0 hi1
  have hsz : (rowb (s.n * 64) s.f).size = s.n * 64 := rowb_len _ _
  have hth : W1.there gb (i.toNat * 64) 64 := fun j hj => by
    refine ⟨?_, row_free hcn.blk _⟩
    rw [cell_of_row W1 gb _ _ _ _ hcn.blk, rowb_get _ (by show _ < s.n * 64; omega)]
    rfl
  obtain ⟨a, c, rfl⟩ := hl.shape
  obtain ⟨cs, hcs⟩ : ∃ cs, l.map bv = cs := ⟨_, rfl⟩
  have hcl : cs.length = 64 := by rw [← hcs, List.length_map, h64]
  have hone : ∀ u ∈ cs, u.oneCell' = true := by rw [← hcs]; exact bv_one _
  obtain ⟨bb, oo, ha, hra⟩ : ∃ bb oo, a = some ⟨bb, oo, none⟩ ∧ W1.rangeAt bb oo cs := by
    obtain ⟨_, a', c', he, _, _, _, h5⟩ := hl1
    simp only [Value.slice.injEq] at he
    obtain ⟨rfl, _, _⟩ := he
    rcases h5 with h5 | ⟨b, off, rfl, _, hc⟩
    · omega
    · exact ⟨b, off, rfl, by rw [← hcs]; exact hc⟩
  subst ha
  have hbb : bb ≠ gb := fun e => hd (by rw [e]; rfl)
  have hgg : g ≠ gb := ne_tag h.row h.blk (by decide)
  have har := run_arrayAt (some ⟨bb, oo, none⟩) c
  have hu := Try.underlying124
  have hii : (Try.prog.info? 124).map (·.size) = some cs.length := by rw [hcl]; kernel_rfl
  have fin : StPost w B g gb none ⟨s.n, bput s.f (i.toNat * 64) l, s.off, none, s.cnt + 1⟩ (W1.drew.setCells gb (i.toNat * 64) cs) := by
    rw [← hcs]
    obtain ⟨q1, q2⟩ := (hcn.below (Below.refl _ _).drew).put (i.toNat * 64) l
    rw [hfu] at q1
    exact ⟨none, q1, (ho1.mono fun k _ hk => .inl hk).trans (((Only.refl (stF g gb none) W1) |> only_drew).trans (q2.mono fun k _ hk => .inr (.inl hk))), fun k hk => by cases hk⟩
  have FIN := Lib.hid fin
  obtain ⟨n, hn⟩ : ∃ n, s.n = n := ⟨_, rfl⟩
  obtain ⟨ct, hct⟩ : ∃ n, s.cnt = n := ⟨_, rfl⟩
  rw [hct] at c3 hW1 hc0 hc
  rw [hn] at c0 hix hi1
  rw [h64]
  have HHN := Lib.hid hn
  have HHC := Lib.hid hct
  clear h hl hl1 hd hg h0 h64 hfu hS hE hcn ho1 hcs hoff hsz hn hct fin
  go_enter Try.func31, Try.ntmps31
  go_wp2_with fail
  refine HM.out.mono ?_
  rintro e w2 ⟨rfl, rfl⟩
  go_upto_region 13 with fail
  go_region_held (fun w' => w'.cell? ⟨g, 0, none⟩ = some (.slice (some ⟨gb, 0, none⟩) n n) ∧ w'.rangeAt bb oo cs ∧ w'.there gb (i.toNat * 64) 64) (first | go_keep_ranges | (go_split_ands; exact ⟨by rw [setCells_cell _ _ _ _ _ hgg]; assumption, World.rangeAt_setCells_apart (by assumption) _ _ _ (.inl hbb), World.there_setCells (by assumption) _ _ _⟩)) (fail)
  go_wp2
  go_ret
  exact ⟨rfl, FIN.out⟩

end Go.Proofs.Ytbonapdainlpjaa
