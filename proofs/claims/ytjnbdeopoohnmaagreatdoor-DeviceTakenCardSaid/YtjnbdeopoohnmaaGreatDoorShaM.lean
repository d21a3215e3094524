/- Layer 7 (sha): the walk of Sum. -/
import Derived.Test.YtjnbdeopoohnmaaGreatDoorShaW
import Derived.Test.YtjnbdeopoohnmaaGreatDoorBase
set_option linter.unusedSimpArgs false
namespace Go.Proofs.YtjnbdeopoohnmaaGreatDoor
open Go.RowKit Go.Sort

def sliceN : Value → Nat
  | .slice _ n _ => n
  | _ => 0

/-- the table, and what else stays as it was: in every world later than w -/
def Tabbed (w : World) : Prop := 0 < w.heap.size ∧ ∀ t, t < 64 → w.cell? ⟨0, t, none⟩ = some (.int .u32 (wn (shaK t)))
theorem Tabbed.below {w W : World} (h : Tabbed w) (hb : Below w.heap.size w W) : Tabbed W :=
  ⟨by have := h.1; have := hb.size; omega, fun t ht => by rw [hb.cell h.1]; exact h.2 t ht⟩

theorem first_any (w : World) : Calls Tryz.prog 119 #[] w fun e w' => e = .returned shaInit.agg ∧ Below w.heap.size w w' := by
  go_enter Tryz.func119, Tryz.ntmps119
  go_wp2_with (with_reducible refine wpList_store_new rfl _ _ rfl rfl rfl (by kernel_rfl) (by simp) (by simp [Value.oneCell']) ?_)
  refine bodyPost_ret (v := shaInit.agg) ?_ rfl ⟨rfl, (Below.refl _ _).alloc (Nat.le_refl _) _⟩
  exact results_cell_row Tryz.results119 _ _ w.heap.size 159 _ (0, 0) _ rfl (heap_alloc_new _ _) Tryz.underlying159 rfl (by kernel_rfl)

/-- Sum's state row -/
structure SM (w W : World) (B : Nat) (s : St) : Prop where
  r : W.heap[B]? = some (.cells s.row 159 (0, 0))
  bel : Below w.heap.size w W
  lt : w.heap.size ≤ B
section
variable {w W W' : World} {B : Nat} {s : St}
theorem SM.later (h : SM w W B s) (hb : Below W.heap.size W W') : SM w W' B s := ⟨(hb.block _ (heap_lt h.r)).trans h.r, h.bel.trans (hb.mono h.bel.size), h.lt⟩
theorem SM.drew (h : SM w W B s) (hW : W' = W.drew) : SM w W' B s := by
  subst hW
  exact h.later (Below.refl _ _).drew
theorem SM.put (h : SM w W B s) (s' : St) : SM w (W.setRow B s'.row) B s' :=
  ⟨setRow_heap W B _ _ _ _ h.r, h.bel.trans ((setRow_only W B s'.row).below (fun b hb => by have := h.lt; omega) h.bel.size), h.lt⟩
end

/-- and the row of the last bytes -/
structure SN (z : Nat) (w W : World) (B T : Nat) (s : St) (f : Nat → UInt8) : Prop where
  m : SM w W B s
  r : W.heap[T]? = some (.cells (rowb z f) 5 (0, 0))
  lt : B < T
section
variable {z : Nat} {w W W' : World} {B T : Nat} {s : St} {f : Nat → UInt8}
theorem SN.later (h : SN z w W B T s f) (hb : Below W.heap.size W W') : SN z w W' B T s f := ⟨h.m.later hb, (hb.block _ (heap_lt h.r)).trans h.r, h.lt⟩
theorem SN.drew (h : SN z w W B T s f) (hW : W' = W.drew) : SN z w W' B T s f := by
  subst hW
  exact h.later (Below.refl _ _).drew
theorem SN.set (h : SN z w W B T s f) (i : Nat) (x : UInt8) {g : Nat → UInt8} (hg : ∀ j, j < z → (if j = i then x else f j) = g j) :
    SN z w (W.setCell ⟨T, i, none⟩ (.int .u8 (x.toNat : Int))) B T s g := by
  have ho := set_only W T i (.int .u8 (x.toNat : Int))
  have hl := h.lt
  have hm := h.m.lt
  refine ⟨⟨(ho.block _ (heap_lt h.m.r) (by omega)).trans h.m.r, h.m.bel.trans (ho.below (fun b hb => by omega) h.m.bel.size), h.m.lt⟩, ?_, h.lt⟩
  rw [row_setCell h.r i _, show Value.int IntKind.u8 (x.toNat : Int) = bv x from rfl, rowb_set, rowb_congr hg]
theorem SN.put (h : SN z w W B T s f) {s' : St} (hm : SM w W' B s') (ho : Only (fun k => k = B) W W') : SN z w W' B T s' f :=
  ⟨hm, (ho.block _ (heap_lt h.r) (by have := h.lt; omega)).trans h.r, h.lt⟩
theorem SN.cell (h : SN z w W B T s f) {j : Nat} (hj : j < z) : W.cell? ⟨T, j, none⟩ = some (.int .u8 ((f j).toNat : Int)) := by
  rw [cell_of_row W _ _ _ _ _ h.r, rowb_get _ hj]
  rfl
theorem SN.bs (h : SN z w W B T s f) (lo n : Nat) (hn : lo + n ≤ z) (hz : z ≤ maxLen) : Bs W (.slice (some ⟨T, lo, none⟩) n (z - lo)) ((List.range n).map fun j => f (lo + j)) := bs_rowb h.r lo n hn hz
end
/-- the last bytes, by their places, while the length is written -/
def lastAt (l1 : List UInt8) (q n m k j : Nat) : UInt8 := if j < q then l1[j]?.getD 0 else if j = q then 128 else if m - k ≤ j ∧ j < m then len8 n (j + 8 - m) else 0

theorem len_byte_aux (x : Nat) : ∀ k, k < 8 → x % 18446744073709551616 / 256 ^ k % 256 = x / 256 ^ k % 256
  | 0, _ => by simp only [Nat.reducePow]; omega
  | 1, _ => by simp only [Nat.reducePow]; omega
  | 2, _ => by simp only [Nat.reducePow]; omega
  | 3, _ => by simp only [Nat.reducePow]; omega
  | 4, _ => by simp only [Nat.reducePow]; omega
  | 5, _ => by simp only [Nat.reducePow]; omega
  | 6, _ => by simp only [Nat.reducePow]; omega
  | 7, _ => by simp only [Nat.reducePow]; omega
  | k + 8, h => absurd h (by omega)
theorem wrap_eight (N : Nat) (hN : N < 9223372036854775808) : IntKind.u64.wrap (IntKind.u64.wrap (N : Int) * 8) = ((8 * N % 18446744073709551616 : Nat) : Int) := by
  rw [IntKind.wrap_u64, IntKind.wrap_u64, Int.natCast_emod, Int.natCast_mul]
  have h : (N : Int) % 18446744073709551616 = N := Int.emod_eq_of_lt (by omega) (by omega)
  rw [h, Int.mul_comm]
  rfl
theorem len_byte (N k : Nat) (hN : N < 9223372036854775808) (hk : k < 8) : IntKind.u64.wrap (IntKind.u64.wrap (N : Int) * 8) / 2 ^ (8 * k) % 256 = ((len8 N (7 - k)).toNat : Int) := by
  have h2 : (2 : Int) ^ (8 * k) = ((256 ^ k : Nat) : Int) := by
    rw [Int.pow_mul, Int.natCast_pow]
    rfl
  have h3 := len_byte_aux (8 * N) k hk
  rw [wrap_eight N hN, h2]
  unfold len8
  rw [UInt8.toNat_ofNat', show 7 - (7 - k) = k by omega, show (2 ^ 8 : Nat) = 256 by decide, ← h3]
  generalize 8 * N % 18446744073709551616 = X
  generalize 256 ^ k = P
  rw [Int.natCast_emod, Int.natCast_ediv]
  rfl
theorem lastAt_set (l1 : List UInt8) (q N m k : Nat) (hk : k < 8) (hm : q + 9 ≤ m) (j : Nat) :
    (if j = m - 1 - k then len8 N (7 - k) else lastAt l1 q N m k j) = lastAt l1 q N m (k + 1) j := by
  unfold lastAt
  by_cases h : j = m - 1 - k
  · rw [if_pos h, if_neg (by omega), if_neg (by omega), if_pos (by omega)]
    congr 1
    omega
  · rw [if_neg h]
    split
    · rfl
    · split
      · rfl
      · by_cases h2 : m - k ≤ j ∧ j < m
        · rw [if_pos h2, if_pos (by omega)]
        · rw [if_neg h2, if_neg (by omega)]
theorem lastAt_all (l1 : List UInt8) (q N m : Nat) (hq : l1.length = q) (hN : N % 64 = q) (hm : (if 55 < q then 128 else 64) = m) :
    (List.range m).map (lastAt l1 q N m 8) = l1 ++ pad N := by
  have hlen := tail_len q N l1 hq hN
  have hat := tail_at q N l1 hq hN
  rw [hm] at hlen hat
  have hm9 : q + 9 ≤ m := by rw [← hm]; split <;> omega
  apply List.ext_getElem?
  intro j
  by_cases hj : j < m
  · rw [hat j hj, List.getElem?_map, List.getElem?_range hj]
    show some (lastAt l1 q N m 8 j) = some _
    congr 1
    unfold lastAt
    split
    · rfl
    · split
      · rfl
      · by_cases h2 : m - 8 ≤ j ∧ j < m
        · rw [if_pos h2, if_neg (by omega)]
        · rw [if_neg h2, if_pos (by omega)]
  · rw [List.getElem?_eq_none (by simp; omega), List.getElem?_eq_none (by omega)]

def outb (s : St) (i : Nat) : UInt8 := UInt8.ofNat ((s.nth (i / 4)).toNat / 2 ^ (24 - 8 * (i % 4)))

theorem outb_int (s : St) (k d r : Nat) (hd : k / 4 = d) (hr : k % 4 = r) : wn (s.nth d) / 2 ^ (24 - 8 * r) % 256 = ((outb s k).toNat : Int) := by
  unfold outb wn
  rw [UInt8.toNat_ofNat', hd, hr, Int.natCast_emod, Int.natCast_ediv, Int.natCast_pow]
  rfl

theorem row_one (s : St) : ∀ v ∈ s.row.toList, v.oneCell' = true := by simp [St.row, Value.oneCell']
theorem wpList_st_new {w : World} {ops : Array Oper} {rest : List Oper} {o : Oper} {a : Act} {Q : Exit → Act → World → Prop} {s : St} {Z : Array Value} (hgd : o.guard = none) (x y : Operand)
    (ho : o.op = .store 159 x y) (hx : a.eval x = .pointer (some ⟨w.heap.size, 0, none⟩)) (hy : a.eval y = s.agg) (hz : Z.size = 8)
    (h : wpList Tryz.prog ops Q rest (a.put o.dst undef) (w.alloc (.cells s.row 159))) : wpList Tryz.prog ops Q (o :: rest) a (w.alloc (.cells Z 159)) :=
  wpList_store_new hgd x y ho hx hy (by kernel_rfl) (by rw [hz]; rfl) (row_one s) h
theorem wpList_st_put {w W : World} {ops : Array Oper} {rest : List Oper} {o : Oper} {a : Act} {Q : Exit → Act → World → Prop} {s s0 : St} {B : Nat} (hm : SM w W B s0) (hgd : o.guard = none) (x y : Operand)
    (ho : o.op = .store 159 x y) (hx : a.eval x = .pointer (some ⟨B, 0, none⟩)) (hy : a.eval y = s.agg)
    (h : ∀ W', SM w W' B s → Only (fun k => k = B) W W' → wpList Tryz.prog ops Q rest (a.put o.dst undef) W') : wpList Tryz.prog ops Q (o :: rest) a W :=
  wpList_store_row hgd x y ho hx hy hm.r (by kernel_rfl) rfl (row_one s) (h _ (hm.put s) (setRow_only _ _ _))

set_option maxRecDepth 100000 in
set_option maxHeartbeats 4000000 in
theorem sha_sumL (y : Value) (l : List UInt8) (hlen : l.length < 9223372036854775808) (w : World) (hy : Bs w y l) (hT : Tabbed w) :
    Calls Tryz.prog 110 #[y] w fun e w' => ∃ v, e = .returned v ∧ Ob w' w.heap.size 5 v (shaSum l) ∧ Below w.heap.size w w' := by
  obtain ⟨a, c, rfl⟩ := hy.shape
  have hlc := hy.len_eq
  have HT := Lib.hid hT
  have HY := Lib.hid hy
  clear hT hy
  go_enter Tryz.func110, Tryz.ntmps110
  go_upto_region 2 with (first | (go_at_call 119; refine (first_any _).mono ?_; rintro e w1 ⟨rfl, hb1⟩; have HB1 := Lib.hid hb1; clear hb1) | (with_reducible refine wpList_st_new rfl _ _ rfl rfl rfl (by simp) ?_))
  obtain ⟨w2, hw2⟩ : ∃ W, w1.alloc (.cells shaInit.row 159) = W := ⟨_, rfl⟩
  rw [hw2]
  obtain ⟨B, hB⟩ : ∃ B, w1.heap.size = B := ⟨_, rfl⟩
  rw [hB]
  have SM0 : SM w w2 B shaInit := by
    have h1 := HB1.out
    rw [← hw2, ← hB]
    exact ⟨heap_alloc_new _ _, h1.alloc h1.size _, h1.size⟩
  clear hw2 hB HB1
  have NL : Hid (l.length ≤ c ∧ c ≤ 9223372036854775807) := ⟨hlc.2.1, hlc.2.2⟩
  clear hlc
  go_wp2_with fail
  go_loopw [0] (fun v wr => ∃ (l' : List UInt8) (s' : St), Bs w v l' ∧ SM w wr B s' ∧ Hid (∀ m, blks shaK s' (l' ++ m) = blks shaK shaInit (l ++ m)) ∧ l'.length ≤ l.length ∧ l'.length % 64 = l.length % 64) (fun v _ => sliceN v)
  case atStart => exact ⟨l, shaInit, HY.out, SM0, Lib.hid fun _ => rfl, Nat.le_refl _, rfl⟩
  case round =>
    obtain ⟨l1, s1, hb, hm, heq, hle, hmod⟩ := hrel
    obtain ⟨a1, c1, rfl⟩ := hb.shape
    clear SM0 NL
    by_cases h64 : 64 ≤ l1.length
    · have e1 : (64 : Int) ≤ (l1.length : Int) := by omega
      go_upto_region 4 with fail
      refine wp_still_tail2 3 (by kernel_rfl) (by kernel_rfl) ?_
      intro W2 hW2
      have hm2 := hm.drew hW2
      obtain ⟨Y, hY, hYb⟩ := Bs.upto (P := Tryz.prog) elB hb 64 h64
      obtain ⟨Z, hZ, hZb⟩ := Bs.from (P := Tryz.prog) elB hb 64 h64
      simp only [Int.cast_ofNat_Int] at hY hZ
      have HB := Lib.hid hb
      have HZB := Lib.hid hZb
      have HYB := Lib.hid hYb
      clear hZb hYb hb hm hW2
      obtain ⟨i0, i1, i2, i3, i4, i5, i6, i7⟩ := row8_cells hm2.r
      simp only [List.take_succ_cons, List.take_zero, List.drop_succ_cons, List.drop_zero]
      iterate 3 still_step
      refine wpStill_nil ?_
      go_upto_region 5 with (first | (go_at_call 120; refine (block_any shaK s1 Y (l1.take 64) (by simp; omega) _ (HYB.out.below hm2.bel) (HT.out.below hm2.bel).1 (HT.out.below hm2.bel).2).mono ?_; rintro e w3 ⟨rfl, hb3⟩; have hm3 := hm2.later hb3; have HB3 := Lib.hid hb3; clear hb3) | (with_reducible refine wpList_st_put hm3 rfl _ _ rfl rfl rfl ?_; intro w4 hm4 ho4))
      go_wp2
      go_roundw
      case rel =>
        refine ⟨l1.drop 64, blk shaK s1 (mword (l1.take 64)), HZB.out, hm4, Lib.hid fun m => ?_, by simp; omega, by simp; omega⟩
        have h1 := heq.out m
        rw [blks_go _ _ (by simp; omega), List.take_append_of_le_length h64, List.drop_append_of_le_length h64] at h1
        exact h1
      case measure =>
        obtain ⟨az, cz, hz⟩ := HZB.out.shape
        rw [hz]
        simp only [sliceN, List.length_drop]
        omega
    · have e1 : ¬ (64 : Int) ≤ (l1.length : Int) := by omega
      obtain ⟨q, hq⟩ : ∃ q, l1.length = q := ⟨_, rfl⟩
      rw [hq] at hb ⊢
      have hq64 : q < 64 := by omega
      have hqn : Hid (l.length % 64 = q) := by show l.length % 64 = q; omega
      have HB := Lib.hid hb
      rw [hq] at e1
      have HQ := Lib.hid hq
      clear hb hq hle hmod h64
      go_upto_region 7 with (at_make; go_must (refine wpList_make_rowb elB 64 128 (by omega) (by omega) (by decide) rfl _ _ rfl _ _ rfl rfl ?_))
      obtain ⟨w5, hw5⟩ : ∃ W, wr.alloc (.cells (rowb 128 fun _ => 0) 5) = W := ⟨_, rfl⟩
      obtain ⟨T, hT⟩ : ∃ T, wr.heap.size = T := ⟨_, rfl⟩
      have r5 : w5.heap[T]? = some (.cells (rowb 128 fun _ => 0).toList.toArray 5 (0, 0)) := by rw [← hw5, ← hT]; exact heap_alloc_new _ _
      have hm5 : SM w w5 B s1 := hm.later (by rw [← hw5]; exact (Below.refl _ _).alloc (Nat.le_refl _) _)
      have hBT : B < T := by rw [← hT]; exact heap_lt hm.r
      have hwT : w.heap.size ≤ T := by have := hm5.lt; omega
      have hb5 : Bs w5 (.slice a1 q c1) l1 := HB.out.below hm5.bel
      have hsrc : 0 < (l1.map bv).length → some (⟨T, 0, none⟩ : Addr) = some ⟨T, 0, none⟩ ∧ ∃ ad, a1 = some ad ∧ ∀ j v, (l1.map bv)[j]? = some v → w5.cell? (ad.add j) = some v :=
        fun h0 => ⟨rfl, hb5.src (by simpa using h0)⟩
      have hcn : (l1.map bv).length = Nat.min q 64 := by rw [List.length_map, HQ.out]; show q = min q 64; omega
      rw [hw5, hT]
      obtain ⟨cs, hcs⟩ : ∃ cs, l1.map bv = cs := ⟨_, rfl⟩
      obtain ⟨cur, hcur⟩ : ∃ cur, (rowb 128 fun _ => 0).toList = cur := ⟨_, rfl⟩
      have hfit : 0 + cs.length ≤ cur.length := by rw [← hcs, ← hcur]; simp [rowb_len, HQ.out]; omega
      have hone : ∀ u ∈ cs, u.oneCell' = true := by rw [← hcs]; exact bv_one l1
      rw [hcs] at hsrc hcn
      rw [hcur] at r5
      have HCS := Lib.hid hcs
      have HCU := Lib.hid hcur
      have HF := Lib.hid hfit
      have HO := Lib.hid hone
      have R5 := Lib.hid r5
      have HM5 := Lib.hid hm5
      have HS := Lib.hid hsrc
      have HC := Lib.hid hcn
      clear hw5 hT r5 hm5 hb5 hsrc hcn hm hcs hcur hfit hone
      go_upto_region 8 with (refine wpList_copy_splice rfl _ _ _ _ rfl 5 Tryz.underlying25 (by kernel_rfl) _ _ _ _ _ _ rfl rfl T 0 cur 5 R5.out cs HC.out HS.out HF.out HO.out T w5 (Below.refl _ _) (Nat.le_refl _) ?_; intro w6 r6 hb6)
      have HN6 : SN 128 w w6 B T s1 fun j => if j < q then l1[j]?.getD 0 else 0 := by
        have h1 := r6.out
        rw [← HCS.out, ← HCU.out, rowb_splice _ _ _ _ (by rw [HQ.out]; omega)] at h1
        refine ⟨⟨(hb6.block B hBT).trans HM5.out.r, HM5.out.bel.trans (hb6.mono hwT), HM5.out.lt⟩, ?_, hBT⟩
        rw [h1]
        refine congrArg (fun r => some (Obj.cells r 5 (0, 0))) (rowb_congr fun j hj => ?_)
        rw [HQ.out]
        simp
      have HBT := Lib.hid hBT
      have HWT := Lib.hid hwT
      clear r6 hb6 HCS HCU R5 HM5 HC HS HF HO hBT hwT
      have cq := HN6.cell (j := q) (by omega)
      have fq := row_free HN6.r q
      have e2 : (q : Int) < 64 := by omega
      obtain ⟨m, hm⟩ : ∃ m, (if 55 < q then 128 else 64) = m := ⟨_, rfl⟩
      have HM := Lib.hid hm
      go_upto_region 9 with fail
      have HN7 := HN6.set q 128 (g := lastAt l1 q l.length m 0) (fun j hj => by
        unfold lastAt
        by_cases h1 : j = q
        · rw [if_pos h1, if_neg (by omega), if_pos h1]
        · rw [if_neg h1]
          by_cases h2 : j < q
          · rw [if_pos h2, if_pos h2]
          · rw [if_neg h2, if_neg h2, if_neg h1, if_neg (by omega)])
      obtain ⟨w7, hw7⟩ : ∃ W, w6.setCell ⟨T, q, none⟩ (.int .u8 128) = W := ⟨_, rfl⟩
      rw [show Value.int IntKind.u8 (((128 : UInt8).toNat : Nat) : Int) = .int .u8 128 from rfl, hw7] at HN7
      rw [hw7]
      clear HN6 hw7 cq fq e2 hm
      go_upto_if 31 with fail
      go_cut [5] (fun s5 wx => s5 = .slice (some ⟨T, 0, none⟩) m 128 ∧ wx = w7)
      case first =>
        by_cases h55 : 55 < q
        · have e3 : (55 : Int) < (q : Int) := by omega
          have em : m = 128 := by rw [← HM.out, if_pos h55]
          go_wp2
          go_meet
          case rel => exact ⟨by rw [em], rfl⟩
        · have e3 : ¬ (55 : Int) < (q : Int) := by omega
          have em : m = 64 := by rw [← HM.out, if_neg h55]
          go_wp2
          go_meet
          case rel => exact ⟨by rw [em], rfl⟩
      case rest =>
        obtain ⟨rfl, rfl⟩ := hcut
        have hm64 : Hid ((m = 64 ∨ m = 128) ∧ q + 9 ≤ m) := by
          have := HM.out
          refine ⟨?_, ?_⟩ <;> (rw [← HM.out]; split <;> omega)
        have hNl : Hid (l.length < 9223372036854775808) := hlen
        obtain ⟨N, hN⟩ : ∃ N, l.length = N := ⟨_, rfl⟩
        have HNe := Lib.hid hN
        rw [hN] at HN7 ⊢
        clear hlen hN
        go_wp2_with fail
        go_loopw [34] (fun i wr => ∃ k : Nat, k ≤ 8 ∧ i = .int .i64 k ∧ SN 128 w wr B T s1 (lastAt l1 q N m k)) (fun i _ => 8 - (intOf i).toNat)
        case atStart => exact ⟨0, by omega, rfl, HN7⟩
        case round =>
          obtain ⟨k, hk, rfl, hn⟩ := hrel
          clear HN7
          by_cases hlt : k < 8
          · have e2 : (k : Int) < 8 := by omega
            have := hNl.out
            have := hm64.out
            have e3 : IntKind.i64.wrap ((m : Int) - 1) = ((m - 1 : Nat) : Int) := by rw [IntWalk.i64_in _ (by omega)]; omega
            have e4 : IntKind.i64.wrap (((m - 1 : Nat) : Int) - (k : Int)) = ((m - 1 - k : Nat) : Int) := by rw [IntWalk.i64_in _ (by omega)]; omega
            obtain ⟨p, hp⟩ : ∃ p, m - 1 - k = p := ⟨_, rfl⟩
            rw [hp] at e4
            have e5 : (p : Int) < (m : Int) := by omega
            have e6 : (0 : Int) ≤ (p : Int) := by omega
            have cp := hn.cell (j := p) (by omega)
            have fp := row_free hn.r p
            have e7 : IntKind.i64.wrap (8 * (k : Int)) = 8 * (k : Int) := IntWalk.i64_in _ (by omega)
            have LB := len_byte N k (by rw [← HNe.out]; exact hNl.out) hlt
            go_wp2
            go_roundw
            case rel =>
              refine ⟨k + 1, by omega, by go_num, hn.set p (len8 N (7 - k)) fun j hj => ?_⟩
              rw [← hp]
              exact lastAt_set l1 q N m k hlt hm64.out.2 j
            case measure => simp [intOf]; omega
          · have e2 : ¬ (k : Int) < 8 := by omega
            obtain rfl : k = 8 := by omega
            have hall := lastAt_all l1 q N m HQ.out (by rw [← HNe.out]; exact hqn.out) HM.out
            have heq2 : Hid (blks shaK s1 ((List.range m).map (lastAt l1 q N m 8)) = blks shaK shaInit (l ++ pad l.length)) := by
              show _ = _
              rw [hall, heq.out, HNe.out]
            obtain ⟨f, hf⟩ : ∃ f, lastAt l1 q N m 8 = f := ⟨_, rfl⟩
            rw [hf] at hn heq2
            clear hall hf heq HQ hqn HB e1
            have hbs := hn.bs 0 m (by have := hm64.out; omega) (by decide)
            simp only [Nat.zero_add] at hbs
            have hl0 : ((List.range m).map f).length % 64 = 0 := by
              have := hm64.out
              simp
              omega
            obtain ⟨l0, hl0e⟩ : ∃ l0, (List.range m).map f = l0 := ⟨_, rfl⟩
            rw [show (List.range m).map (fun j => f j) = (List.range m).map f from rfl, hl0e] at hbs
            rw [hl0e] at hl0 heq2
            have HL := Lib.hid hl0e
            clear hl0e
            go_wp2_with fail
            go_loopw [5] (fun v wr => ∃ (l2 : List UInt8) (s2 : St), Bs wr v l2 ∧ v.ownBlock = some T ∧ SN 128 w wr B T s2 f ∧ Hid (blks shaK s2 l2 = blks shaK shaInit (l ++ pad l.length)) ∧ l2.length % 64 = 0) (fun v _ => sliceN v)
            case atStart => exact ⟨l0, s1, hbs, rfl, hn, heq2, hl0⟩
            case round =>
              obtain ⟨l2, s2, hb, hown, hn2, heq3, hmod⟩ := hrel
              clear hbs heq2 hl0 hn HL
              obtain ⟨a2, c2, rfl⟩ := hb.shape
              by_cases h64 : 64 ≤ l2.length
              · have e3 : (0 : Int) < (l2.length : Int) := by omega
                go_upto_region 18 with fail
                refine wp_still_tail2 3 (by kernel_rfl) (by kernel_rfl) ?_
                intro W2 hW2
                have hn3 := hn2.drew hW2
                have hb2 : Bs W2 (.slice a2 l2.length c2) l2 := by rw [hW2]; exact hb.drew
                obtain ⟨Y, hY, hYb⟩ := Bs.upto (P := Tryz.prog) elB hb2 64 h64
                obtain ⟨Z, hZ, hZb, hZo⟩ := Bs.from_own (P := Tryz.prog) elB hb2 64 h64
                simp only [Int.cast_ofNat_Int] at hY hZ
                rw [hown] at hZo
                have HZB := Lib.hid hZb
                have HYB := Lib.hid hYb
                have HZO := Lib.hid hZo
                clear hb2 hZb hYb hb hn2 hW2 hZo hown
                obtain ⟨i0, i1, i2, i3, i4, i5, i6, i7⟩ := row8_cells hn3.m.r
                simp only [List.take_succ_cons, List.take_zero, List.drop_succ_cons, List.drop_zero]
                iterate 3 still_step
                refine wpStill_nil ?_
                go_upto_region 17 with (first | (go_at_call 120; refine (block_any shaK s2 Y (l2.take 64) (by simp; omega) _ HYB.out (HT.out.below hn3.m.bel).1 (HT.out.below hn3.m.bel).2).mono ?_; rintro e w3 ⟨rfl, hb3⟩; have hn4 := hn3.later hb3; have HB3 := Lib.hid hb3; clear hb3) | (with_reducible refine wpList_st_put hn4.m rfl _ _ rfl rfl rfl ?_; intro w4 hm4 ho4))
                have hn5 := hn4.put hm4 ho4
                have hz4 : Bs w4 Z (l2.drop 64) := (HZB.out.below HB3.out).only ho4 fun k hk hkB => by
                  rw [HZO.out] at hk
                  have := hn4.lt
                  cases hk
                  omega
                go_wp2
                go_roundw
                case rel =>
                  refine ⟨l2.drop 64, blk shaK s2 (mword (l2.take 64)), hz4, HZO.out, hn5, Lib.hid ?_, by simp; omega⟩
                  rw [← heq3.out, blks_go _ s2 h64]
                case measure =>
                  obtain ⟨az, cz, hz⟩ := hz4.shape
                  rw [hz]
                  simp only [sliceN, List.length_drop]
                  omega
              · have e3 : ¬ (0 : Int) < (l2.length : Int) := by omega
                have hfin : blks shaK shaInit (l ++ pad l.length) = s2 := by rw [← heq3.out, blks_end _ _ (by omega)]
                have HF := Lib.hid hfin
                have hm2 := hn2.m
                clear hb hown hn2 heq3 hmod h64 hfin
                go_wp2_with (at_make; go_must (refine wpList_make_rowb elB 32 32 (by omega) (by omega) (by decide) rfl _ _ rfl _ _ rfl rfl ?_))
                obtain ⟨wa, hwa⟩ : ∃ W, wr.alloc (.cells (rowb 32 fun _ => 0) 5) = W := ⟨_, rfl⟩
                obtain ⟨O, hO⟩ : ∃ O, wr.heap.size = O := ⟨_, rfl⟩
                have hna : SN 32 w wa B O s2 fun _ => 0 := by
                  have h1 := heap_lt hm2.r
                  refine ⟨hm2.later ?_, ?_, by rw [← hO]; exact h1⟩
                  · rw [← hwa]; exact (Below.refl _ _).alloc (Nat.le_refl _) _
                  · rw [← hwa, ← hO]; exact heap_alloc_new _ _
                rw [hwa, hO]
                clear hwa hO hm2
                go_loopw [65] (fun i wr => ∃ k : Nat, k ≤ 32 ∧ i = .int .i64 k ∧ SN 32 w wr B O s2 (fun j => if j < k then outb s2 j else 0)) (fun i _ => 32 - (intOf i).toNat)
                case atStart => exact ⟨0, by omega, rfl, by simpa using hna⟩
                case round =>
                  obtain ⟨k, hk, rfl, hn⟩ := hrel
                  clear hna
                  by_cases hlt : k < 32
                  · have e4 : (k : Int) < 32 := by omega
                    have d1 : Int.tdiv (k : Int) 4 = ((k / 4 : Nat) : Int) := rfl
                    have d2 : Int.tmod (k : Int) 4 = ((k % 4 : Nat) : Int) := rfl
                    obtain ⟨d, hd⟩ : ∃ d, k / 4 = d := ⟨_, rfl⟩
                    obtain ⟨r, hr⟩ : ∃ r, k % 4 = r := ⟨_, rfl⟩
                    rw [hd] at d1
                    rw [hr] at d2
                    have xd := words_index B d (by omega)
                    have cd : wr.cell? ⟨B, d, none⟩ = some (.int .u32 (wn (s2.nth d))) := by rw [cell_of_row wr _ d _ _ _ hn.m.r, row_oct, oct_get _ (by omega)]
                    have ck := hn.cell (j := k) hlt
                    have fk := row_free hn.r k
                    have w1 : IntKind.i64.wrap (8 * (r : Int)) = 8 * (r : Int) := IntWalk.i64_in _ (by omega)
                    have w2 : IntKind.i64.wrap (24 - 8 * (r : Int)) = ((24 - 8 * r : Nat) : Int) := by rw [IntWalk.i64_in _ (by omega)]; omega
                    have OB := outb_int s2 k d r hd hr
                    go_wp2
                    go_roundw
                    case rel =>
                      refine ⟨k + 1, by omega, by go_num, hn.set k (outb s2 k) fun j hj => ?_⟩
                      by_cases e : j = k
                      · rw [if_pos e, if_pos (by omega), e]
                      · rw [if_neg e]
                        by_cases e2 : j < k
                        · rw [if_pos e2, if_pos (by omega)]
                        · rw [if_neg e2, if_neg (by omega)]
                    case measure => simp [intOf]; omega
                  · have e4 : ¬ (k : Int) < 32 := by omega
                    obtain rfl : k = 32 := by omega
                    have hob := ob_rowb hn.r w.heap.size 32 (by have := hn.m.lt; have := hn.lt; omega) (by omega) (by decide)
                    have he : (List.range 32).map (fun j => if j < 32 then outb s2 j else 0) = shaSum l := by
                      unfold shaSum
                      rw [HF.out]
                      rfl
                    rw [he] at hob
                    have HOB := Lib.hid hob
                    have hbl := hn.m.bel
                    clear hob he hn HF
                    go_wp2
                    go_ret
                    exact ⟨_, rfl, HOB.out, hbl⟩

theorem sha_sum (y : Value) (l : List UInt8) (hlen : l.length < 4294967296) (w : World) (hy : Bs w y l) (hT : Tabbed w) :
    Calls Tryz.prog 110 #[y] w fun e w' => ∃ v, e = .returned v ∧ Ob w' w.heap.size 5 v (shaSum l) ∧ Below w.heap.size w w' :=
  sha_sumL y l (by omega) w hy hT

end Go.Proofs.YtjnbdeopoohnmaaGreatDoor
