/- Op4: Op0, Op1, Op2, Op3, Op4 as one text. -/
import Derived.Test.YtjnbdeopoohnmaaGreatDoorRspec
import Derived.Test.YtjnbdeopoohnmaaGreatDoorVBspec
import Derived.Test.YtjnbdeopoohnmaaGreatDoorBase
import Derived.Test.YtjnbdeopoohnmaaGreatDoorVarint
import Derived.Test.YtjnbdeopoohnmaaGreatDoorFrameWhole
import Derived.Deep.RegionHeld3
import Derived.Lib.QuietBelow
import Derived.OwnWalk
import Derived.StillTailTactics
/- Layer 38 (op): operations as plain data. No function of the program stands here. -/
namespace Go.Proofs.YtjnbdeopoohnmaaGreatDoor
open Go.RowKit

structure OpD where
  k : Int
  x0 : Int
  x1 : Int
  x2 : Int
  a : List UInt8
  b : List UInt8
  c : List UInt8

/-- how many numbers, how many bytes; is there such a kind -/
def opN (k : Int) : Nat := if k = 1 then 1 else if k = 2 then 3 else if k = 5 then 1 else if k = 9 then 2 else if k = 10 then 2 else if k = 11 then 2 else 0
def opK (k : Int) : Nat := if k = 3 then 2 else if k = 4 then 3 else if k = 5 then 1 else if k = 6 then 1 else if k = 7 then 1 else if k = 8 then 1 else 0
def opIs (k : Int) : Bool := decide (1 ≤ k ∧ k ≤ 11)

def OpD.num (o : OpD) (i : Nat) : Int := if i = 0 then o.x0 else if i = 1 then o.x1 else o.x2
def OpD.part (o : OpD) (i : Nat) : List UInt8 := if i = 0 then o.a else if i = 1 then o.b else o.c
def numOk (n i : Nat) (x : Int) : Bool := decide (0 ≤ x) && (decide (x ≤ 4611686018427387904) && (decide (i < n) || decide (x = 0)))
def partOk (k i : Nat) (l : List UInt8) : Bool := decide (l.length ≤ 1048576) && (decide (i < k) || decide (l.length = 0))
def numsOk (o : OpD) (m : Nat) : Bool := (List.range m).all fun i => numOk (opN o.k) i (o.num i)
def partsOk (o : OpD) (m : Nat) : Bool := (List.range m).all fun i => partOk (opK o.k) i (o.part i)
def opRight (o : OpD) : Bool := opIs o.k && (numsOk o 3 && partsOk o 3)
theorem numsOk_succ (o : OpD) (m : Nat) : numsOk o (m + 1) = (numsOk o m && numOk (opN o.k) m (o.num m)) := by simp [numsOk, List.range_succ, List.all_append]
theorem partsOk_succ (o : OpD) (m : Nat) : partsOk o (m + 1) = (partsOk o m && partOk (opK o.k) m (o.part m)) := by simp [partsOk, List.range_succ, List.all_append]
theorem numsOk_no (o : OpD) (i : Nat) (h : numOk (opN o.k) i (o.num i) = false) (hi : i < 3) : numsOk o 3 = false := by
  unfold numsOk
  rw [List.all_eq_false]
  exact ⟨i, by simpa using hi, by simp [h]⟩
theorem partsOk_no (o : OpD) (i : Nat) (h : partOk (opK o.k) i (o.part i) = false) (hi : i < 3) : partsOk o 3 = false := by
  unfold partsOk
  rw [List.all_eq_false]
  exact ⟨i, by simpa using hi, by simp [h]⟩
def opSame (o p : OpD) : Bool := (o.k == p.k) && ((o.x0 == p.x0) && ((o.x1 == p.x1) && ((o.x2 == p.x2) && ((o.a == p.a) && ((o.b == p.b) && (o.c == p.c))))))

/-- its bytes -/
def opNums (o : OpD) : Nat → List UInt8
  | 0 => []
  | m + 1 => opNums o m ++ vput (o.num m).toNat
def opParts (o : OpD) : Nat → List UInt8
  | 0 => []
  | m + 1 => opParts o m ++ (vput (o.part m).length ++ o.part m)
def opBytes (o : OpD) : List UInt8 := [UInt8.ofNat (o.k % 256).toNat] ++ (opNums o (opN o.k) ++ opParts o (opK o.k))

theorem opN_le (k : Int) : opN k ≤ 3 := by
  unfold opN
  repeat' split
  all_goals omega
theorem opK_le (k : Int) : opK k ≤ 3 := by
  unfold opK
  repeat' split
  all_goals omega

end Go.Proofs.YtjnbdeopoohnmaaGreatDoor
/- Layer 38 (op): Shape, Changes, Few, both sides' small functions. -/
set_option linter.unusedSimpArgs false
namespace Go.Proofs.YtjnbdeopoohnmaaGreatDoor
open Go.RowKit

theorem info_op : (Tryz.prog.info? 43).map (fun i => (i.zero, i.size, i.bytes)) = some (some (.agg #[.int .i64 0, .int .i64 0, .int .i64 0, .int .i64 0, .slice none 0 0, .slice none 0 0, .slice none 0 0]), 7, 104) := by kernel_rfl

theorem info_oi : (Tryz.prog.info? 3).map (fun i => (i.zero, i.size, i.bytes)) = some (some (.int .i64 0), 1, 8) := by kernel_rfl
/-- an operation as a value -/
def OpD.agg (o : OpD) (va vb vc : Value) : Value := .agg #[.int .i64 o.k, .int .i64 o.x0, .int .i64 o.x1, .int .i64 o.x2, va, vb, vc]
def OpD.row (o : OpD) (va vb vc : Value) : Array Value := #[.int .i64 o.k, .int .i64 o.x0, .int .i64 o.x1, .int .i64 o.x2, va, vb, vc]
def opFew (o : OpD) : Bool := decide (o.a.length ≤ 3000) && (decide (o.b.length ≤ 3000) && decide (o.c.length ≤ 3000))

end Go.Proofs.YtjnbdeopoohnmaaGreatDoor
/- Layer 38 (op): Right and Same, both sides. -/
set_option linter.unusedSimpArgs false
namespace Go.Proofs.YtjnbdeopoohnmaaGreatDoor
open Go.RowKit

theorem numOk_cases (n i : Nat) (x : Int) : (numOk n i x = false ∧ x < 0) ∨ (numOk n i x = false ∧ 0 ≤ x ∧ 4611686018427387904 < x) ∨ (numOk n i x = true ∧ 0 ≤ x ∧ x ≤ 4611686018427387904 ∧ i < n) ∨
    (numOk n i x = true ∧ n ≤ i ∧ x = 0) ∨ (numOk n i x = false ∧ 0 ≤ x ∧ x ≤ 4611686018427387904 ∧ n ≤ i ∧ x ≠ 0) := by
  unfold numOk
  by_cases h1 : 0 ≤ x
  · by_cases h2 : x ≤ 4611686018427387904
    · by_cases h3 : i < n
      · right; right; left; simp [h1, h2, h3]
      · by_cases h4 : x = 0
        · right; right; right; left; subst h4; simp; omega
        · right; right; right; right; simp [h1, h2, h3, h4]; omega
    · right; left; simp [h1, h2]; omega
  · left; simp [h1]; omega
theorem partOk_cases (n i : Nat) (l : List UInt8) : (partOk n i l = false ∧ 1048576 < l.length) ∨ (partOk n i l = true ∧ l.length ≤ 1048576 ∧ i < n) ∨
    (partOk n i l = true ∧ n ≤ i ∧ l.length = 0) ∨ (partOk n i l = false ∧ l.length ≤ 1048576 ∧ n ≤ i ∧ 0 < l.length) := by
  unfold partOk
  by_cases h2 : l.length ≤ 1048576
  · by_cases h3 : i < n
    · right; left; simp [h2, h3]
    · by_cases h4 : l.length = 0
      · right; right; left; simp [h4]; omega
      · right; right; right; simp [h2, h3, h4]; omega
  · left; simp [h2]; omega

def OpD.pv (va vb vc : Value) (i : Nat) : Value := if i = 0 then va else if i = 1 then vb else vc

end Go.Proofs.YtjnbdeopoohnmaaGreatDoor
/- Layer 38 (op): the reference's Right. -/
set_option linter.unusedSimpArgs false
namespace Go.Proofs.YtjnbdeopoohnmaaGreatDoor
open Go.RowKit

def OpCells (w : World) (q : Nat) (k x0 x1 x2 : Int) (pa pb pc : Option Addr) (na nb nc ca cb cc : Nat) : Prop :=
  w.cell? ⟨q, 0, none⟩ = some (.int .i64 k) ∧ w.cell? ⟨q, 1, none⟩ = some (.int .i64 x0) ∧ w.cell? ⟨q, 2, none⟩ = some (.int .i64 x1) ∧ w.cell? ⟨q, 3, none⟩ = some (.int .i64 x2) ∧
  w.cell? ⟨q, 4, none⟩ = some (.slice pa na ca) ∧ w.cell? ⟨q, 5, none⟩ = some (.slice pb nb cb) ∧ w.cell? ⟨q, 6, none⟩ = some (.slice pc nc cc)

theorem op_cells {w : World} {q : Nat} {k x0 x1 x2 : Int} {pa pb pc : Option Addr} {na nb nc ca cb cc : Nat} (h : w.heap[q]? = some (.cells #[.int .i64 k, .int .i64 x0, .int .i64 x1, .int .i64 x2, .slice pa na ca, .slice pb nb cb, .slice pc nc cc] 43 (0, 0))) : OpCells w q k x0 x1 x2 pa pb pc na nb nc ca cb cc :=
  ⟨cell_of_row w _ _ _ _ _ h, cell_of_row w _ _ _ _ _ h, cell_of_row w _ _ _ _ _ h, cell_of_row w _ _ _ _ _ h, cell_of_row w _ _ _ _ _ h, cell_of_row w _ _ _ _ _ h, cell_of_row w _ _ _ _ _ h⟩

end Go.Proofs.YtjnbdeopoohnmaaGreatDoor
/- Layer 38 (op): Same, both sides. -/
set_option linter.unusedSimpArgs false
namespace Go.Proofs.YtjnbdeopoohnmaaGreatDoor
open Go.RowKit

theorem opSame_def (o p : OpD) {b0 b1 b2 b3 b4 b5 b6 : Bool} (h0 : (o.k == p.k) = b0) (h1 : (o.x0 == p.x0) = b1) (h2 : (o.x1 == p.x1) = b2) (h3 : (o.x2 == p.x2) = b3) (h4 : (o.a == p.a) = b4) (h5 : (o.b == p.b) = b5) (h6 : (o.c == p.c) = b6) :
    opSame o p = (b0 && (b1 && (b2 && (b3 && (b4 && (b5 && b6)))))) := by unfold opSame; rw [h0, h1, h2, h3, h4, h5, h6]

set_option maxRecDepth 100000 in
set_option maxHeartbeats 1600000 in
theorem ropSame_any (o p : OpD) (va vb vc ua ub uc : Value) (w : World) (ha : Bs w va o.a) (hb : Bs w vb o.b) (hc : Bs w vc o.c) (ka : Bs w ua p.a) (kb : Bs w ub p.b) (kc : Bs w uc p.c) :
    Calls Tryz.prog 13 #[o.agg va vb vc, p.agg ua ub uc] w fun e w' => e = .returned (.bool (opSame o p)) ∧ Below w.heap.size w w' := by
  obtain ⟨b0, h0⟩ : ∃ z, (o.k == p.k) = z := ⟨_, rfl⟩
  obtain ⟨b1, h1⟩ : ∃ z, (o.x0 == p.x0) = z := ⟨_, rfl⟩
  obtain ⟨b2, h2⟩ : ∃ z, (o.x1 == p.x1) = z := ⟨_, rfl⟩
  obtain ⟨b3, h3⟩ : ∃ z, (o.x2 == p.x2) = z := ⟨_, rfl⟩
  obtain ⟨b4, h4⟩ : ∃ z, (o.a == p.a) = z := ⟨_, rfl⟩
  obtain ⟨b5, h5⟩ : ∃ z, (o.b == p.b) = z := ⟨_, rfl⟩
  obtain ⟨b6, h6⟩ : ∃ z, (o.c == p.c) = z := ⟨_, rfl⟩
  have HS := Lib.hid (opSame_def o p h0 h1 h2 h3 h4 h5 h6)
  rw [HS.out]
  obtain ⟨W, hW⟩ : ∃ W, (w.alloc (.cells (o.row va vb vc) 43)).alloc (.cells (p.row ua ub uc) 43) = W := ⟨_, rfl⟩
  have hB : Below w.heap.size w W := by rw [← hW]; exact ((Below.refl _ _).alloc (Nat.le_refl _) _).alloc (by simp) _
  obtain ⟨q, hq⟩ : ∃ q, w.heap.size = q := ⟨_, rfl⟩
  have hr : W.heap[q]? = some (.cells (o.row va vb vc) 43 (0, 0)) := by rw [← hW, ← hq, alloc_get, if_neg (by simp)]; exact heap_alloc_new _ _
  have hr2 : W.heap[q + 1]? = some (.cells (p.row ua ub uc) 43 (0, 0)) := by rw [← hW, ← hq, alloc_get, if_pos (by simp)]
  have CA : Hid (∀ V, Below W.heap.size W V → Calls Tryz.prog 16 #[va, ua] V fun e w' => e = .returned (.bool b4) ∧ Hid (Below V.heap.size V w')) := fun V hV => by
    have := same_any va ua _ _ V ((ha.below hB).below hV) ((ka.below hB).below hV)
    rw [h4] at this
    exact this
  have CB : Hid (∀ V, Below W.heap.size W V → Calls Tryz.prog 16 #[vb, ub] V fun e w' => e = .returned (.bool b5) ∧ Hid (Below V.heap.size V w')) := fun V hV => by
    have := same_any vb ub _ _ V ((hb.below hB).below hV) ((kb.below hB).below hV)
    rw [h5] at this
    exact this
  have CC : Hid (∀ V, Below W.heap.size W V → Calls Tryz.prog 16 #[vc, uc] V fun e w' => e = .returned (.bool b6) ∧ Hid (Below V.heap.size V w')) := fun V hV => by
    have := same_any vc uc _ _ V ((hc.below hB).below hV) ((kc.below hB).below hV)
    rw [h6] at this
    exact this
  have HSH : Hid ((∃ a n c, va = .slice a n c) ∧ (∃ a n c, vb = .slice a n c) ∧ (∃ a n c, vc = .slice a n c) ∧ (∃ a n c, ua = .slice a n c) ∧ (∃ a n c, ub = .slice a n c) ∧ (∃ a n c, uc = .slice a n c)) :=
    ⟨by obtain ⟨_, _, h⟩ := ha.shape; exact ⟨_, _, _, h⟩, by obtain ⟨_, _, h⟩ := hb.shape; exact ⟨_, _, _, h⟩, by obtain ⟨_, _, h⟩ := hc.shape; exact ⟨_, _, _, h⟩,
     by obtain ⟨_, _, h⟩ := ka.shape; exact ⟨_, _, _, h⟩, by obtain ⟨_, _, h⟩ := kb.shape; exact ⟨_, _, _, h⟩, by obtain ⟨_, _, h⟩ := kc.shape; exact ⟨_, _, _, h⟩⟩
  clear ha hb hc ka kb kc h4 h5 h6 HS
  obtain ⟨k, x0, x1, x2, a, b, c⟩ := o
  obtain ⟨k', y0, y1, y2, a', b', c'⟩ := p
  obtain ⟨⟨_, _, _, rfl⟩, ⟨_, _, _, rfl⟩, ⟨_, _, _, rfl⟩, ⟨_, _, _, rfl⟩, ⟨_, _, _, rfl⟩, ⟨_, _, _, rfl⟩⟩ := HSH.out
  unfold OpD.agg
  unfold OpD.row at hr hr2 hW
  simp only at hr hr2 hW h0 h1 h2 h3 ⊢
  have HKEEP := Lib.hid (fun (V : World) (hV : Below W.heap.size W V) => And.intro (op_cells ((hV.block q (heap_lt hr)).trans hr)) (op_cells ((hV.block (q + 1) (heap_lt hr2)).trans hr2)))
  have HW := Lib.hid hW
  have HB := Lib.hid hB
  have HQ := Lib.hid hq
  clear hr hr2 hW hB hq HSH
  go_enter Tryz.func13, Tryz.ntmps13
  cases b0 with
  | false => go_wp2; go_ret; exact ⟨rfl, by have := HB.out; rwa [← HW.out] at this⟩
  | true =>
  cases b1 with
  | false => go_wp2; go_ret; exact ⟨rfl, by have := HB.out; rwa [← HW.out] at this⟩
  | true =>
  cases b2 with
  | false => go_wp2; go_ret; exact ⟨rfl, by have := HB.out; rwa [← HW.out] at this⟩
  | true =>
  cases b3 with
  | false => go_wp2; go_ret; exact ⟨rfl, by have := HB.out; rwa [← HW.out] at this⟩
  | true =>
  go_wp2_with fail
  rw [HW.out, HQ.out]
  refine (CA.out W (Below.refl _ _)).mono ?_
  rintro e w4 ⟨rfl, hb4⟩
  have HB4 := Lib.hid (HB.out.trans (hb4.out.mono HB.out.size))
  cases b4 with
  | false => clear hb4; go_wp2; go_ret; exact ⟨rfl, HB4.out⟩
  | true =>
  obtain ⟨⟨s0, s1, s2, s3, s4, s5, s6⟩, ⟨t0, t1, t2, t3, t4, t5, t6⟩⟩ := HKEEP.out w4 hb4.out
  go_wp2_with fail
  refine (CB.out w4 hb4.out).mono ?_
  rintro e w5 ⟨rfl, hb5⟩
  have hb45 := Lib.hid (hb4.out.trans (hb5.out.mono hb4.out.size))
  have HB5 := Lib.hid (HB4.out.trans (hb5.out.mono HB4.out.size))
  clear s0 s1 s2 s3 s4 s5 s6 t0 t1 t2 t3 t4 t5 t6 hb4 hb5
  cases b5 with
  | false => clear hb45; go_wp2; go_ret; exact ⟨rfl, HB5.out⟩
  | true =>
  obtain ⟨⟨s0, s1, s2, s3, s4, s5, s6⟩, ⟨t0, t1, t2, t3, t4, t5, t6⟩⟩ := HKEEP.out w5 hb45.out
  go_wp2_with fail
  refine (CC.out w5 hb45.out).mono ?_
  rintro e w6 ⟨rfl, hb6⟩
  have HB6 := Lib.hid (HB5.out.trans (hb6.out.mono HB5.out.size))
  clear s0 s1 s2 s3 s4 s5 s6 t0 t1 t2 t3 t4 t5 t6 hb45 hb6
  cases b6 with
  | false => go_wp2; go_ret; exact ⟨rfl, HB6.out⟩
  | true => go_wp2; go_ret; exact ⟨rfl, HB6.out⟩

theorem eq_arr3 (x0 x1 x2 y0 y1 y2 : Int) (w : World) : (Op.equalIn 10000 41 (.agg #[.int .i64 x0, .int .i64 x1, .int .i64 x2]) (.agg #[.int .i64 y0, .int .i64 y1, .int .i64 y2])).run Tryz.prog w = .ok ((x0 == y0) && ((x1 == y1) && (x2 == y2))) w := by
  have u3 := Tryz.underlying3
  have a3 := Tryz.isAgg3
  have z3 := Tryz.sizeOf3
  rw [show (10000 : Nat) = 9999 + 1 from rfl, Op.equalIn]
  simp only [Sem.run_bind, run_underlying Tryz.underlying41, Result.andThen_ok]
  simp only [Std.Legacy.Range.forIn_eq_forIn_range', Std.Legacy.Range.size, Nat.sub_zero, Nat.add_sub_cancel, Nat.div_one, List.range'_succ, List.range'_zero, List.forIn_cons, List.forIn_nil]
  go_simp
  by_cases h1 : x0 = y0 <;> by_cases h2 : x1 = y1 <;> by_cases h3 : x2 = y2 <;> simp [h1, h2, h3]

end Go.Proofs.YtjnbdeopoohnmaaGreatDoor
