/- Layer 35 (log): a log in the heap; its small methods; a block written. -/
import Derived.Test.YtbonapdainlpjaaLg2
import Derived.Test.YtbonapdainlpjaaBk7
import Derived.Test.YtbonapdainlpjaaRset2
import Derived.Deep.RegionHeld3
import Derived.Deep.DrawnRows
import Derived.Lib.SliceRun
set_option linter.unusedSimpArgs false
namespace Go.Proofs.Ytbonapdainlpjaa
open Go.RowKit Go.Sort

def csU (x : UInt8) : List Value := [bv x]
theorem layU : Lay 1 csU := ⟨fun _ => rfl, fun a u h => by simp only [csU, List.mem_singleton] at h; subst h; rfl, by decide⟩
theorem gcU (l : List UInt8) : gcells csU l = l.map bv := by
  induction l with
  | nil => rfl
  | cons x l ih => simp only [gcells, List.flatMap_cons, List.map_cons] at *; rw [ih]; rfl
theorem Row.ob {w : World} {B e g cap : Nat} {l : List UInt8} (h : Row 1 csU w e g cap l) (hB : B ≤ g) : Ob w B e (.slice (Option.some ⟨g, 0, none⟩) l.length cap) l := by
  have := h.gw layU hB
  unfold Gw at this
  rw [gcU] at this
  exact this
theorem Row.bs {w : World} {e g cap : Nat} {l : List UInt8} (h : Row 1 csU w e g cap l) : Bs w (.slice (Option.some ⟨g, 0, none⟩) l.length cap) l := (h.ob (Nat.le_refl _)).bs
theorem Row.only {w w' : World} {F : Nat → Prop} {α : Type} {s e g cap : Nat} {cs : α → List Value} {l : List α} (h : Row s cs w e g cap l) (ho : Only F w w') (hd : ¬ F g) : Row s cs w' e g cap l := by
  obtain ⟨cur, h1, h2, h3⟩ := h.row
  exact ⟨h.le, h.mx, cur, (ho.block g (heap_lt h1) hd).trans h1, h2, h3⟩
theorem Gw.only {α : Type} {s : Nat} {cs : α → List Value} {w w' : World} {B e : Nat} {v : Value} {l : List α} {F : Nat → Prop} (h : Gw s cs w B e v l) (ho : Only F w w') (hd : ∀ k, v.ownBlock = some k → ¬ F k) : Gw s cs w' B e v l := by
  refine ⟨h.1, ?_⟩
  rcases h.2 with h2 | ⟨g, cap, cur, rfl, hb, hg, r⟩
  · exact .inl h2
  · refine .inr ⟨g, cap, cur, rfl, hb, ?_, r⟩
    rw [ho.block g (Array.getElem?_eq_some_iff.1 hg).1 (hd g rfl)]
    exact hg
theorem Gw.tag {α : Type} {s : Nat} {cs : α → List Value} {w : World} {B e : Nat} {v : Value} {l : List α} (h : Gw s cs w B e v l) : ∀ k, v.ownBlock = some k → ∃ A, w.heap[k]? = some (.cells A e (0, 0)) := by
  rcases h.2 with ⟨rfl, _⟩ | ⟨g, cap, cur, rfl, _, hg, _⟩
  · intro k hk; simp [Value.ownBlock] at hk
  · intro k hk
    simp only [Value.ownBlock, Option.some.injEq] at hk
    subst hk
    exact ⟨_, hg⟩
theorem Ob.tag {w : World} {B e : Nat} {v : Value} {l : List UInt8} (h : Ob w B e v l) : ∀ k, v.ownBlock = some k → ∃ A, w.heap[k]? = some (.cells A e (0, 0)) := by
  rcases h.2 with ⟨rfl, _⟩ | ⟨g, cap, cur, rfl, _, hg, _⟩
  · intro k hk; simp [Value.ownBlock] at hk
  · intro k hk
    simp only [Value.ownBlock, Option.some.injEq] at hk
    subst hk
    exact ⟨_, hg⟩

/-- a log as plain data: its first block, how many, the region's bytes, the records, the end, dead or not -/
structure Lg where
  fr : Nat
  n : Nat
  b : List UInt8
  recs : List (List UInt8)
  fin : Nat
  dead : Bool

def loRow (g bb bc : Nat) (vr : Value) (d : Lg) : Array Value := #[.pointer (some ⟨g, 0, none⟩), .int .i64 d.fr, .int .i64 d.n, .slice (some ⟨bb, 0, none⟩) (d.n * 64 : Nat) bc, .int .i64 d.fin, vr, .bool d.dead]

structure LoAt (w : World) (B lg bb bc g : Nat) (vr : Value) (ps : List Rc) (d : Lg) : Prop where
  low : B ≤ lg
  lowb : B ≤ bb
  row : w.heap[lg]? = some (.cells (loRow g bb bc vr d) 128 (0, 0))
  b : Row 1 csU w 5 bb bc d.b
  blen : d.b.length = d.n * 64
  n1 : 1 ≤ d.n
  n2 : d.n ≤ 32768
  f2 : d.fr ≤ 32768
  recs : Gw 1 csP w B 43 vr ps
  each : ∀ p ∈ ps, Ob w B 5 p.v p.2 ∧ p.v.ownBlock ≠ some bb
  is : rbs ps = d.recs
  fin : d.fin ≤ d.n * 64
  few : ps.length ≤ d.fin

/-- the log's own blocks; and with its records' -/
def loF (lg bb : Nat) (vr : Value) (k : Nat) : Prop := k = lg ∨ k = bb ∨ vr.ownBlock = some k
def loAll (lg bb : Nat) (vr : Value) (ps : List Rc) (k : Nat) : Prop := loF lg bb vr k ∨ ∃ p ∈ ps, p.v.ownBlock = some k

section
variable {w w' : World} {B lg bb bc g gb : Nat} {fo : Option Nat} {s : BSt} {vr : Value} {ps : List Rc} {d : Lg} {F : Nat → Prop}
theorem LoAt.only (h : LoAt w B lg bb bc g vr ps d) (ho : Only F w w') (hd : ∀ k, loAll lg bb vr ps k → ¬ F k) : LoAt w' B lg bb bc g vr ps d :=
  ⟨h.low, h.lowb, (ho.block lg (heap_lt h.row) (hd lg (.inl (.inl rfl)))).trans h.row, h.b.only ho (hd bb (.inl (.inr (.inl rfl)))), h.blen, h.n1, h.n2, h.f2,
    h.recs.only ho fun k hk => hd k (.inl (.inr (.inr hk))), fun p hp => ⟨(h.each p hp).1.only ho fun k hk => hd k (.inr ⟨p, hp, hk⟩), (h.each p hp).2⟩, h.is, h.fin, h.few⟩
theorem LoAt.below (h : LoAt w B lg bb bc g vr ps d) (hb : Below w.heap.size w w') : LoAt w' B lg bb bc g vr ps d :=
  h.only (F := fun _ => False) (.of_below hb) fun _ _ h => h
theorem LoAt.tag (h : LoAt w B lg bb bc g vr ps d) {k : Nat} (hk : loAll lg bb vr ps k) : ∃ A t, w.heap[k]? = some (.cells A t (0, 0)) ∧ (t = 128 ∨ t = 5 ∨ t = 43) := by
  rcases hk with (rfl | rfl | hk) | ⟨p, hp, hk⟩
  · exact ⟨_, _, h.row, .inl rfl⟩
  · obtain ⟨cur, h1, _⟩ := h.b.row
    exact ⟨_, _, h1, .inr (.inl rfl)⟩
  · obtain ⟨A, hA⟩ := h.recs.tag k hk
    exact ⟨_, _, hA, .inr (.inr rfl)⟩
  · obtain ⟨A, hA⟩ := (h.each p hp).1.tag k hk
    exact ⟨_, _, hA, .inr (.inl rfl)⟩
theorem StAt.tag (h : StAt w B g gb fo s) {k : Nat} (hk : stF g gb fo k) : ∃ A t, w.heap[k]? = some (.cells A t (0, 0)) ∧ (t = 121 ∨ t = 124 ∨ t = 126) := by
  rcases hk with rfl | rfl | hk
  · exact ⟨_, _, h.row, .inl rfl⟩
  · exact ⟨_, _, h.blk, .inr (.inl rfl)⟩
  · rcases h.fus with ⟨h1, _⟩ | ⟨k', a, b, h1, h2, h3, h4, h5, h6, h7, h8⟩
    · rw [h1] at hk; cases hk
    · rw [h1] at hk; cases hk
      exact ⟨_, _, h8, .inr (.inr rfl)⟩
theorem tags_apart {A A' : Array Value} {t t' k : Nat} (h : w.heap[k]? = some (.cells A t (0, 0))) (h' : w.heap[k]? = some (.cells A' t' (0, 0))) : t = t' := by
  rw [h] at h'; simp at h'; exact h'.2
/-- a store's blocks are none of a log's -/
theorem LoAt.apart {B' : Nat} (h : LoAt w B lg bb bc g vr ps d) (hs : StAt w B' g gb fo s) : ∀ k, loAll lg bb vr ps k → ¬ stF g gb fo k := by
  intro k hk hf
  obtain ⟨A, t, h1, h2⟩ := h.tag hk
  obtain ⟨A', t', h3, h4⟩ := hs.tag hf
  have := tags_apart h1 h3
  subst this
  rcases h2 with rfl | rfl | rfl <;> rcases h4 with h4 | h4 | h4 <;> exact absurd h4 (by decide)
theorem LoAt.cell (h : LoAt w B lg bb bc g vr ps d) (j : Nat) : w.cell? ⟨lg, j, none⟩ = (loRow g bb bc vr d)[j]? := cell_of_row w lg j _ _ _ h.row
theorem LoAt.bs (h : LoAt w B lg bb bc g vr ps d) : Bs w (.slice (some ⟨bb, 0, none⟩) (d.n * 64 : Nat) bc) d.b := by rw [← h.blen]; exact h.b.bs
theorem LoAt.cap (h : LoAt w B lg bb bc g vr ps d) : d.n * 64 ≤ bc ∧ bc ≤ 9223372036854775807 := by
  have h1 := h.b.le
  rw [h.blen] at h1
  exact ⟨h1, by simpa [maxLen] using h.b.mx⟩
end

/-- the cells of the log's row, each -/
theorem LoAt.cells {w : World} {B lg bb bc g : Nat} {vr : Value} {ps : List Rc} {d : Lg} (h : LoAt w B lg bb bc g vr ps d) :
    w.cell? ⟨lg, 0, none⟩ = some (.pointer (some ⟨g, 0, none⟩)) ∧ w.cell? ⟨lg, 1, none⟩ = some (.int .i64 d.fr) ∧ w.cell? ⟨lg, 2, none⟩ = some (.int .i64 d.n) ∧ w.cell? ⟨lg, 3, none⟩ = some (.slice (some ⟨bb, 0, none⟩) (d.n * 64 : Nat) bc) ∧
      w.cell? ⟨lg, 4, none⟩ = some (.int .i64 d.fin) ∧ w.cell? ⟨lg, 5, none⟩ = some vr ∧ w.cell? ⟨lg, 6, none⟩ = some (.bool d.dead) :=
  ⟨h.cell 0, h.cell 1, h.cell 2, h.cell 3, h.cell 4, h.cell 5, h.cell 6⟩

/-! the methods that only read -/
theorem lIs_any (lg g : Nat) (w : World) (h : w.cell? ⟨lg, 0, none⟩ = some (.pointer (some ⟨g, 0, none⟩))) : Calls Try.prog 93 #[.pointer (some ⟨lg, 0, none⟩)] w fun e w' => e = .returned (.bool true) ∧ w' = w := by
  go_enter Try.func93, Try.ntmps93
  go_wp2
  go_ret
  exact ⟨rfl, rfl⟩
theorem lIs_nil (w : World) : Calls Try.prog 93 #[.pointer none] w fun e w' => e = .returned (.bool false) ∧ w' = w := by
  go_enter Try.func93, Try.ntmps93
  go_wp2
  go_ret
  exact ⟨rfl, rfl⟩

theorem run_lpart (bb n bc i : Nat) (hi : i < n) (hc : n * 64 ≤ bc) (W : World) :
    (Instr.sliceAt 43 (.slice (some ⟨bb, 0, none⟩) (n * 64) bc) (some (.int .i64 ((i : Int) * 64))) (some (.int .i64 (((i : Int) + 1) * 64))) none).run Try.prog W = .ok (.slice (some ⟨bb, i * 64, none⟩) 64 (bc - i * 64)) W := by
  have hT := elB.1
  have hel : Try.prog.elem 43 = 5 := by simp [Program.elem, hT]
  have hs := elB.sizeOf
  have e1 : ((i : Int) * 64).toNat = i * 64 := by omega
  have e2 : (((i : Int) + 1) * 64).toNat = (i + 1) * 64 := by omega
  rw [run_sliceAt_slice (h := by rw [hel]; exact hT), run_slice_lh (ht := by rw [hel]; exact hT) (h0 := by omega) (h1 := by omega) (h2 := by omega), hel, hs]
  simp only [Result.andThen, sliced, e1, e2]
  rw [if_neg (by omega), show (i + 1) * 64 - i * 64 = 64 by omega]
  simp [Addr.add_lit]

theorem lPart_any (lg bb bc n i : Nat) (w : World) (h : w.cell? ⟨lg, 3, none⟩ = some (.slice (some ⟨bb, 0, none⟩) (n * 64) bc)) (hi : i < n) (hn : n ≤ 32768) (hc : n * 64 ≤ bc) :
    Calls Try.prog 115 #[.pointer (some ⟨lg, 0, none⟩), .int .i64 (i : Int)] w fun e w' => e = .returned (.slice (some ⟨bb, i * 64, none⟩) 64 (bc - i * 64)) ∧ w' = w := by
  have hr := run_lpart bb n bc i hi hc
  obtain ⟨N, hN⟩ : ∃ N, n * 64 = N := ⟨_, rfl⟩
  rw [hN] at h hr
  have hi' : (i : Int) ≤ 32768 := by omega
  clear hN
  go_enter Try.func115, Try.ntmps115
  go_wp2
  go_ret
  exact ⟨rfl, rfl⟩

set_option maxRecDepth 100000 in
theorem cloneBB_any (y : Value) (m : List Rc) (w : World) (hy : Gs 1 csP w y m) (hm : m.length ≤ 10000000) :
    Calls Try.prog 94 #[y] w fun e w' => ∃ v, e = .returned v ∧ Gw 1 csP w' w.heap.size 43 v m ∧ Below w.heap.size w w' := by
  obtain ⟨a, c, hs⟩ := hy.shape
  subst hs
  cases a with
  | none =>
    have hm0 : m = [] ∧ c = 0 := by
      obtain ⟨_, a', c', he, h2, h3, h4, h5⟩ := hy
      simp only [Value.slice.injEq] at he
      obtain ⟨rfl, _, rfl⟩ := he
      have := h4 rfl
      exact ⟨List.eq_nil_of_length_eq_zero (by omega), this⟩
    obtain ⟨rfl, rfl⟩ := hm0
    have hq := fun W => Lib.run_eql_slice_nil (P := Try.prog) W 65 43 none 0 0 0 0 Try.underlying65
    rw [show (([] : List Rc).length) = 0 from rfl]
    go_enter Try.func94, Try.ntmps94
    go_wp2
    go_ret
    exact ⟨_, rfl, Gw.nil _ _ _, Below.refl _ _⟩
  | some ad =>
    have hq := fun W => Lib.run_eql_slice_nil (P := Try.prog) W 65 43 (some ad) m.length c 0 0 Try.underlying65
    have hal : Below w.heap.size w (w.alloc (.cells #[] 43)) := (Below.refl _ _).alloc (Nat.le_refl _) _
    have hown : Gw 1 csP (w.alloc (.cells #[] 43)) w.heap.size 43 (.slice (some ⟨w.heap.size, 0, none⟩) 0 0) [] := gw_lit layP w 43 #[] [] 0 rfl (by decide) rfl
    have hrd := hy.below hal
    have hz := hal.size
    go_enter Try.func94, Try.ntmps94
    go_wp2_with (at_builtin; go_must (refine wpList_append_gs layP hown hrd elOB (by simp; omega) (by simp; omega) hz ?_ _ _ rfl rfl rfl rfl); intro v3 w3 ho3 hg3 hb3 _)
    go_ret
    refine ⟨_, rfl, ?_, hal.trans hb3⟩
    simpa using ho3

section
variable (w : World) (B lg bb bc g : Nat) (vr : Value) (ps : List Rc) (d : Lg)
theorem lEnd_any (h : LoAt w B lg bb bc g vr ps d) : Calls Try.prog 47 #[.pointer (some ⟨lg, 0, none⟩)] w fun e w' => e = .returned (.int .i64 (d.fin : Int)) ∧ w' = w := by
  obtain ⟨c0, -, -, -, c4, -, -⟩ := h.cells
  have C := Lib.hid (lIs_any lg g w c0)
  clear h
  go_enter Try.func47, Try.ntmps47
  go_wp2_with (go_at_call 93; refine C.out.mono ?_; rintro e w' ⟨rfl, rfl⟩)
  go_ret
  exact ⟨rfl, rfl⟩
theorem lEnd_nil : Calls Try.prog 47 #[.pointer none] w fun e w' => e = .returned (.int .i64 0) ∧ w' = w := by
  go_enter Try.func47, Try.ntmps47
  go_wp2_with (go_at_call 93; refine (lIs_nil w).mono ?_; rintro e w' ⟨rfl, rfl⟩)
  go_ret
  exact ⟨rfl, rfl⟩
theorem lRecords_any (h : LoAt w B lg bb bc g vr ps d) : Calls Try.prog 46 #[.pointer (some ⟨lg, 0, none⟩)] w fun e w' => ∃ v, e = .returned v ∧ Gw 1 csP w' w.heap.size 43 v ps ∧ Below w.heap.size w w' := by
  obtain ⟨c0, -, -, -, -, c5, -⟩ := h.cells
  have C := Lib.hid (lIs_any lg g w c0)
  have CC := Lib.hid (cloneBB_any vr ps w h.recs.gs (by have := h.few; have := h.fin; have := h.n2; omega))
  clear h
  go_enter Try.func46, Try.ntmps46
  go_wp2_with (first | (go_at_call 93; refine C.out.mono ?_; rintro e w' ⟨rfl, rfl⟩) | (go_at_call 94; refine CC.out.mono ?_; rintro e w1 ⟨v1, rfl, ho1, hb1⟩))
  go_ret
  exact ⟨_, rfl, ho1, hb1⟩
theorem lRecords_nil : Calls Try.prog 46 #[.pointer none] w fun e w' => e = .returned (.slice none 0 0) ∧ w' = w := by
  go_enter Try.func46, Try.ntmps46
  go_wp2_with (go_at_call 93; refine (lIs_nil w).mono ?_; rintro e w' ⟨rfl, rfl⟩)
  go_ret
  exact ⟨rfl, rfl⟩
end

/-! a block written -/
def lput (b : List UInt8) (i : Nat) (l : List UInt8) : List UInt8 := b.take (i * 64) ++ l ++ b.drop (i * 64 + l.length)
theorem lput_len (b : List UInt8) (i : Nat) (l : List UInt8) (h : i * 64 + l.length ≤ b.length) : (lput b i l).length = b.length := by simp [lput]; omega

/-- what a write leaves -/
def LWPost (w : World) (B lg bb bc g gb : Nat) (fo : Option Nat) (vr : Value) (ps : List Rc) (s' : BSt) (d' : Lg) (E : Int) (e : Ending) (w' : World) : Prop :=
  ∃ fo', e = .returned (.int .i64 E) ∧ StAt w' B g gb fo' s' ∧ LoAt w' B lg bb bc g vr ps d' ∧ Only (fun k => stF g gb fo k ∨ k = lg ∨ k = bb) w w' ∧ (∀ k, fo' = some k → fo = some k ∨ w.heap.size ≤ k)

theorem LoAt.ne_b {w : World} {B lg bb bc g : Nat} {vr : Value} {ps : List Rc} {d : Lg} (h : LoAt w B lg bb bc g vr ps d) : lg ≠ bb ∧ vr.ownBlock ≠ some bb ∧ vr.ownBlock ≠ some lg ∧ ∀ p ∈ ps, p.v.ownBlock ≠ some lg := by
  obtain ⟨cur, hb, _⟩ := h.b.row
  refine ⟨ne_tag h.row hb (by decide), fun e => ?_, fun e => ?_, fun p hp e => ?_⟩
  · obtain ⟨A, hA⟩ := h.recs.tag _ e
    exact absurd (tags_apart hb hA) (by decide)
  · obtain ⟨A, hA⟩ := h.recs.tag _ e
    exact absurd (tags_apart h.row hA) (by decide)
  · obtain ⟨A, hA⟩ := (h.each p hp).1.tag _ e
    exact absurd (tags_apart h.row hA) (by decide)

/-- the log's row set anew -/
theorem LoAt.setDead {w : World} {B lg bb bc g : Nat} {vr : Value} {ps : List Rc} {d : Lg} (h : LoAt w B lg bb bc g vr ps d) (q : Bool) :
    LoAt (w.setCell ⟨lg, 6, none⟩ (.bool q)) B lg bb bc g vr ps { d with dead := q } := by
  obtain ⟨n1, n2, n3, n4⟩ := h.ne_b
  have ho := set_only w lg 6 (.bool q)
  exact ⟨h.low, h.lowb, row_setCell h.row 6 _, h.b.only ho (fun e => n1 e.symm), h.blen, h.n1, h.n2, h.f2, h.recs.only ho (fun k hk e => n3 (by rw [← e]; exact hk)),
    fun p hp => ⟨(h.each p hp).1.only ho (fun k hk e => n4 p hp (by rw [← e]; exact hk)), (h.each p hp).2⟩, h.is, h.fin, h.few⟩
/-- the region's bytes written over -/
theorem LoAt.setB {w : World} {B lg bb bc g : Nat} {vr : Value} {ps : List Rc} {d : Lg} (h : LoAt w B lg bb bc g vr ps d) (i : Nat) (l : List UInt8) (hi : i < d.n) (hl : l.length = 64) :
    LoAt (w.setCells bb (i * 64) (l.map bv)) B lg bb bc g vr ps { d with b := lput d.b i l } ∧ Only (fun k => k = bb) w (w.setCells bb (i * 64) (l.map bv)) := by
  obtain ⟨n1, n2, n3, n4⟩ := h.ne_b
  have hc := h.cap
  have hb := h.blen
  have hle : i * 64 + l.length ≤ d.b.length := by rw [hb, hl]; omega
  obtain ⟨k1, k2⟩ := h.b.over layU (i * 64) (by omega) l (by omega)
  rw [gcU, Nat.mul_one] at k1 k2
  refine ⟨⟨h.low, h.lowb, ?_, ?_, ?_, h.n1, h.n2, h.f2, h.recs.only k2 (fun k hk e => n2 (by rw [← e]; exact hk)), fun p hp => ⟨(h.each p hp).1.only k2 (fun k hk e => (h.each p hp).2 (by rw [← e]; exact hk)), (h.each p hp).2⟩, h.is, h.fin, h.few⟩, k2⟩
  · exact (k2.block lg (heap_lt h.row) n1).trans h.row
  · exact k1
  · show (lput d.b i l).length = d.n * 64
    rw [lput_len _ _ _ hle, hb]

end Go.Proofs.Ytbonapdainlpjaa
