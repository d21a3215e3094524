/- Layer 38 (op): Shape, Changes, Few, both sides' small functions. -/
import Derived.Test.YticpmkdlnjnfgaaOp0
import Derived.Test.YticpmkdlnjnfgaaVarint
import Derived.Deep.RegionHeld3
import Derived.Lib.QuietBelow
import Derived.OwnWalk
set_option linter.unusedSimpArgs false
namespace Go.Proofs.Yticpmkdlnjnfgaa
open Go.RowKit

theorem info_op : (Try.prog.info? 44).map (fun i => (i.zero, i.size, i.bytes)) = some (some (.agg #[.int .i64 0, .int .i64 0, .int .i64 0, .int .i64 0, .slice none 0 0, .slice none 0 0, .slice none 0 0]), 7, 104) := by kernel_rfl

theorem info_oi : (Try.prog.info? 3).map (fun i => (i.zero, i.size, i.bytes)) = some (some (.int .i64 0), 1, 8) := by kernel_rfl
theorem elOI : ElTy Try.prog 98 3 (.int .i64 0) 1 8 := ⟨Try.underlying98, info_parts info_oi, rfl, by decide⟩

theorem opShape_any (k : Int) (w : World) : Calls Try.prog 24 #[.int .i64 k] w fun e w' => e = .returned (.tuple #[.int .i64 (opN k : Int), .int .i64 (opK k : Int), .bool (opIs k)]) ∧ w' = w := by
  by_cases hb : 1 ≤ k ∧ k ≤ 11
  · have h : k = 1 ∨ k = 2 ∨ k = 3 ∨ k = 4 ∨ k = 5 ∨ k = 6 ∨ k = 7 ∨ k = 8 ∨ k = 9 ∨ k = 10 ∨ k = 11 := by omega
    clear hb
    rcases h with rfl | rfl | rfl | rfl | rfl | rfl | rfl | rfl | rfl | rfl | rfl
    all_goals
      go_enter Try.func24, Try.ntmps24
      go_wp2
      go_ret3
      exact ⟨rfl, rfl⟩
  · have e : opIs k = false := by unfold opIs; simpa using hb
    have e1 : opN k = 0 := by unfold opN; repeat' (rw [if_neg (by omega)])
    have e2 : opK k = 0 := by unfold opK; repeat' (rw [if_neg (by omega)])
    rw [e, e1, e2]
    have h1 : k ≠ 1 := by omega
    have h2 : k ≠ 2 := by omega
    have h3 : k ≠ 3 := by omega
    have h4 : k ≠ 4 := by omega
    have h5 : k ≠ 5 := by omega
    have h6 : k ≠ 6 := by omega
    have h7 : k ≠ 7 := by omega
    have h8 : k ≠ 8 := by omega
    have h9 : k ≠ 9 := by omega
    have h10 : k ≠ 10 := by omega
    have h11 : k ≠ 11 := by omega
    go_enter Try.func24, Try.ntmps24
    go_wp2
    go_ret3
    exact ⟨rfl, rfl⟩

set_option maxRecDepth 100000 in
theorem ropShape_any (k : Int) (w : World) : Calls Try.prog 25 #[.int .i64 k] w fun e w' => e = .returned (.tuple #[.int .i64 (opN k : Int), .int .i64 (opK k : Int), .bool (opIs k)]) ∧ Below w.heap.size w w' := by
  by_cases hb : 1 ≤ k ∧ k ≤ 11
  · obtain ⟨i, rfl⟩ : ∃ i : Nat, k = i := ⟨k.toNat, by omega⟩
    have hi1 : 1 ≤ i := by omega
    have hi2 : i < 12 := by omega
    clear hb
    obtain ⟨W, hW⟩ : ∃ W, (w.alloc (.cells #[.int .i64 0, .int .i64 1, .int .i64 3, .int .i64 0, .int .i64 0, .int .i64 1, .int .i64 0, .int .i64 0, .int .i64 0, .int .i64 2, .int .i64 2, .int .i64 2] 3)).alloc
        (.cells #[.int .i64 0, .int .i64 0, .int .i64 0, .int .i64 2, .int .i64 3, .int .i64 1, .int .i64 1, .int .i64 1, .int .i64 1, .int .i64 0, .int .i64 0, .int .i64 0] 3) = W := ⟨_, rfl⟩
    have hbl : Below w.heap.size w W := by rw [← hW]; exact ((Below.refl _ _).alloc (Nat.le_refl _) _).alloc (by simp) _
    have hc : W.cell? ⟨w.heap.size, i, none⟩ = some (.int .i64 (opN i : Int)) ∧ W.cell? ⟨w.heap.size + 1, i, none⟩ = some (.int .i64 (opK i : Int)) ∧ opIs i = true := by
      rw [← hW]
      have r0 : ∀ (A C : Array Value) (T U : Nat), ((w.alloc (.cells A T)).alloc (.cells C U)).heap[w.heap.size]? = some (.cells A T (0, 0)) := fun A C T U => by rw [alloc_get, if_neg (by simp)]; exact heap_alloc_new _ _
      have r1 : ∀ (A C : Array Value) (T U : Nat), ((w.alloc (.cells A T)).alloc (.cells C U)).heap[w.heap.size + 1]? = some (.cells C U (0, 0)) := fun A C T U => by rw [alloc_get, if_pos (by simp)]
      rw [cell_of_row _ _ _ _ _ _ (r0 _ _ _ _), cell_of_row _ _ _ _ _ _ (r1 _ _ _ _)]
      have h : i = 1 ∨ i = 2 ∨ i = 3 ∨ i = 4 ∨ i = 5 ∨ i = 6 ∨ i = 7 ∨ i = 8 ∨ i = 9 ∨ i = 10 ∨ i = 11 := by omega
      rcases h with rfl | rfl | rfl | rfl | rfl | rfl | rfl | rfl | rfl | rfl | rfl <;> exact ⟨rfl, rfl, rfl⟩
    obtain ⟨c0, c1, h3⟩ := hc
    rw [h3]
    have hT := Try.underlying98
    have hel : Try.prog.elem 98 = 3 := by simp [Program.elem, hT]
    have hix : ∀ b (V : World), (Instr.indexAt 98 (.slice (some ⟨b, 0, none⟩) 12 12) (.int .i64 (i : Int))).run Try.prog V = .ok (.pointer (some ⟨b, i, none⟩)) V := fun b V => by
      rw [run_indexAt_slice V 98 _ 12 12 .i64 i (by rw [hel]; exact hT), if_pos ⟨by omega, by omega⟩, hel, elOI.sizeOf]
      simp [Result.andThen, Addr.add_lit]
    have hx0 := hix w.heap.size
    have hx1 := hix (w.heap.size + 1)
    obtain ⟨n, hn⟩ : ∃ n, opN i = n := ⟨_, rfl⟩
    obtain ⟨m, hm⟩ : ∃ n, opK i = n := ⟨_, rfl⟩
    rw [hn] at c0 ⊢
    rw [hm] at c1 ⊢
    have HW := Lib.hid hW
    have HB := Lib.hid hbl
    clear hix hW hbl hn hm h3
    go_enter Try.func25, Try.ntmps25
    go_wp2_with fail
    rw [HW.out]
    go_quiet (fail)
    go_wp2
    go_ret3
    exact ⟨rfl, below_drewN HB.out nq⟩
  · have e : opIs k = false := by unfold opIs; simpa using hb
    have e1 : opN k = 0 := by unfold opN; repeat' (rw [if_neg (by omega)])
    have e2 : opK k = 0 := by unfold opK; repeat' (rw [if_neg (by omega)])
    rw [e, e1, e2]
    by_cases h1 : k < 1
    · clear hb
      go_enter Try.func25, Try.ntmps25
      go_wp2
      go_ret3
      exact ⟨rfl, ((Below.refl _ _).alloc (Nat.le_refl _) _).alloc (by simp) _⟩
    · have h2 : 11 < k := by omega
      clear hb
      go_enter Try.func25, Try.ntmps25
      go_wp2
      go_ret3
      exact ⟨rfl, ((Below.refl _ _).alloc (Nat.le_refl _) _).alloc (by simp) _⟩

theorem opChanges_any (k : Int) (w : World) : Calls Try.prog 30 #[.int .i64 k] w fun e w' => e = .returned (.bool (opIs k && (k != 4 && k != 11))) ∧ w' = w := by
  have HS := Lib.hid (opShape_any k w)
  obtain ⟨b, hb⟩ : ∃ b, opIs k = b := ⟨_, rfl⟩
  rw [hb] at HS ⊢
  obtain ⟨n, hn⟩ : ∃ n, opN k = n := ⟨_, rfl⟩
  obtain ⟨m, hm⟩ : ∃ n, opK k = n := ⟨_, rfl⟩
  rw [hn, hm] at HS
  clear hb hn hm
  go_enter Try.func30, Try.ntmps30
  go_wp2_with fail
  refine HS.out.mono ?_
  rintro e w2 ⟨rfl, rfl⟩
  cases b with
  | false =>
    go_wp2
    go_ret
    exact ⟨rfl, rfl⟩
  | true =>
    by_cases h4 : k = 4
    · subst h4
      go_wp2
      go_ret
      exact ⟨rfl, rfl⟩
    · by_cases h11 : k = 11
      · subst h11
        go_wp2
        go_ret
        exact ⟨rfl, rfl⟩
      · go_wp2
        go_ret
        exact ⟨rfl, rfl⟩

/-- an operation as a value -/
def OpD.agg (o : OpD) (va vb vc : Value) : Value := .agg #[.int .i64 o.k, .int .i64 o.x0, .int .i64 o.x1, .int .i64 o.x2, va, vb, vc]
def OpD.row (o : OpD) (va vb vc : Value) : Array Value := #[.int .i64 o.k, .int .i64 o.x0, .int .i64 o.x1, .int .i64 o.x2, va, vb, vc]
def opFew (o : OpD) : Bool := decide (o.a.length ≤ 3000) && (decide (o.b.length ≤ 3000) && decide (o.c.length ≤ 3000))

theorem opFew_any (o : OpD) (va vb vc : Value) (w : World) (ha : Bs w va o.a) (hb : Bs w vb o.b) (hc : Bs w vc o.c) :
    Calls Try.prog 23 #[o.agg va vb vc] w fun e w' => e = .returned (.bool (opFew o)) ∧ Below w.heap.size w w' := by
  obtain ⟨k, x0, x1, x2, a, b, c⟩ := o
  obtain ⟨pa, ca, rfl⟩ := ha.shape
  obtain ⟨pb, cb, rfl⟩ := hb.shape
  obtain ⟨pc, cc, rfl⟩ := hc.shape
  unfold opFew OpD.agg
  simp only
  obtain ⟨na, hna⟩ : ∃ n, a.length = n := ⟨_, rfl⟩
  obtain ⟨nb, hnb⟩ : ∃ n, b.length = n := ⟨_, rfl⟩
  obtain ⟨nc, hnc⟩ : ∃ n, c.length = n := ⟨_, rfl⟩
  rw [hna, hnb, hnc]
  clear ha hb hc hna hnb hnc
  have HB := Lib.hid ((Below.refl w.heap.size w).alloc (Nat.le_refl _) (.cells #[.int .i64 k, .int .i64 x0, .int .i64 x1, .int .i64 x2, .slice pa na ca, .slice pb nb cb, .slice pc nc cc] 44))
  go_enter Try.func23, Try.ntmps23
  by_cases h1 : na ≤ 3000
  · have e1 : (na : Int) ≤ 3000 := by omega
    by_cases h2 : nb ≤ 3000
    · have e2 : (nb : Int) ≤ 3000 := by omega
      by_cases h3 : nc ≤ 3000
      · have e3 : (nc : Int) ≤ 3000 := by omega
        go_wp2
        go_ret
        exact ⟨by simp [h1, h2, h3], HB.out⟩
      · have e3 : ¬ (nc : Int) ≤ 3000 := by omega
        go_wp2
        go_ret
        exact ⟨by simp [h1, h2, h3], HB.out⟩
    · have e2 : ¬ (nb : Int) ≤ 3000 := by omega
      go_wp2
      go_ret
      exact ⟨by simp [h1, h2], HB.out⟩
  · have e1 : ¬ (na : Int) ≤ 3000 := by omega
    go_wp2
    go_ret
    exact ⟨by simp [h1], HB.out⟩

theorem ropPart_any (o : OpD) (va vb vc : Value) (i : Nat) (hi : i < 3) (w : World) :
    Calls Try.prog 69 #[o.agg va vb vc, .int .i64 (i : Int)] w fun e w' => e = .returned (if i = 0 then va else if i = 1 then vb else vc) ∧ Below w.heap.size w w' := by
  obtain ⟨k, x0, x1, x2, a, b, c⟩ := o
  unfold OpD.agg
  simp only
  have HB := Lib.hid ((Below.refl w.heap.size w).alloc (Nat.le_refl _) (.cells #[.int .i64 k, .int .i64 x0, .int .i64 x1, .int .i64 x2, va, vb, vc] 44))
  have h : i = 0 ∨ i = 1 ∨ i = 2 := by omega
  rcases h with rfl | rfl | rfl
  all_goals
    go_enter Try.func69, Try.ntmps69
    go_wp2
    go_ret
    exact ⟨rfl, HB.out⟩

end Go.Proofs.Yticpmkdlnjnfgaa
