/- ShaW: ShaW, ShaS, ShaB0, ShaB, ShaP, HmS, RowW as one text. -/
import Derived.Test.YtjnbdeopoohnmaaGreatDoorVarint
import Derived.Test.YtjnbdeopoohnmaaGreatDoorBase
import Derived.Laws.CopyOwn
import Derived.Deep.RegionHeld3
import Derived.Deep.MidRow
import Derived.Lib.QuietBelow
import Derived.Deep.Cut
import Derived.StillTailTactics
import Derived.Deep.DeepCutAuto
/- Layer 7 (sha): 32-bit words as numbers of the model; turning. -/
namespace Go.Proofs.YtjnbdeopoohnmaaGreatDoor
open Go.RowKit

/-- a word as the model's number -/
def wn (x : UInt32) : Int := (x.toNat : Int)
theorem wn_lt (x : UInt32) : 0 ≤ wn x ∧ wn x < 4294967296 := ⟨by unfold wn; omega, by unfold wn; have := x.toNat_lt; omega⟩

theorem w_or (a b : UInt32) : bits BinOp.or IntKind.u32 (wn a) (wn b) = wn (a ||| b) := by
  unfold wn
  rw [u32_or _ _ (by omega) (by have := a.toNat_lt; omega) (by omega) (by have := b.toNat_lt; omega), UInt32.toNat_or]
  rfl
theorem w_xor (a b : UInt32) : bits BinOp.xor IntKind.u32 (wn a) (wn b) = wn (a ^^^ b) := by
  unfold wn
  rw [u32_xor _ _ (by omega) (by have := a.toNat_lt; omega) (by omega) (by have := b.toNat_lt; omega), UInt32.toNat_xor]
  rfl
theorem w_and (a b : UInt32) : bits BinOp.and IntKind.u32 (wn a) (wn b) = wn (a &&& b) := by
  unfold wn
  rw [u32_and _ _ (by omega) (by have := a.toNat_lt; omega) (by omega) (by have := b.toNat_lt; omega), UInt32.toNat_and]
  rfl
theorem w_add (a b : UInt32) : (wn a + wn b) % 4294967296 = wn (a + b) := by
  unfold wn
  rw [UInt32.toNat_add]
  omega
theorem w_nat (n : Nat) (h : n < 32) : (UInt32.ofNat n).toNat % 32 = n := by
  have : (UInt32.ofNat n).toNat = n % 2 ^ 32 := UInt32.toNat_ofNat'
  omega
theorem w_shl (x : UInt32) (n : Nat) (h : n < 32) : wn x * 2 ^ n % 4294967296 = wn (x <<< UInt32.ofNat n) := by
  unfold wn
  rw [UInt32.toNat_shiftLeft, w_nat n h, Nat.shiftLeft_eq, Int.natCast_emod, Int.natCast_mul, Int.natCast_pow]
  rfl
theorem w_shr (x : UInt32) (n : Nat) (h : n < 32) : wn x / 2 ^ n = wn (x >>> UInt32.ofNat n) := by
  unfold wn
  rw [UInt32.toNat_shiftRight, w_nat n h, Nat.shiftRight_eq_div_pow, Int.natCast_ediv, Int.natCast_pow]
  rfl
theorem w_addw (a b : UInt32) : IntKind.u32.wrap (wn a + wn b) = wn (a + b) := by rw [IntKind.wrap_u32, w_add]
theorem w_modw (a : UInt32) : IntKind.u32.wrap (wn a) = wn a := by rw [IntKind.wrap_u32]; have := wn_lt a; omega
theorem w_mod (a : UInt32) : wn a % 4294967296 = wn a := by have := wn_lt a; omega
theorem w_shlw (x : UInt32) (n : Nat) (h : n < 32) : IntKind.u32.wrap (wn x * 2 ^ n) = wn (x <<< UInt32.ofNat n) := by rw [IntKind.wrap_u32, w_shl x n h]
theorem u64_and31 (n : Nat) (h : n < 32) : bits BinOp.and IntKind.u64 (n : Int) 31 = (n : Int) := by
  have h1 := bits_and_u64_nat n 31 (by omega) (by omega)
  have h2 : n &&& 31 = n := by
    rw [show (31 : Nat) = 2 ^ 5 - 1 from rfl, Nat.and_two_pow_sub_one_eq_mod]
    omega
  rw [h2] at h1
  exact h1

theorem rotl_any (x : UInt32) (n : Nat) (h0 : 0 < n) (h : n < 32) (w : World) :
    Calls Tryz.prog 123 #[.int .u32 (wn x), .int .i64 (n : Int)] w fun e w' => e = .returned (.int .u32 (wn (x <<< UInt32.ofNat n ||| x >>> UInt32.ofNat (32 - n)))) ∧ w = w' := by
  have hb := u64_and31 n h
  have h1 : (0 : Int) ≤ n ∧ (n : Int) ≤ 32 := by omega
  have h2 : (32 - (n : Int)) % 18446744073709551616 = 32 - (n : Int) := by omega
  have h3 : (0 : Int) ≤ 32 - (n : Int) ∧ 32 - (n : Int) ≤ 32 := by omega
  have h4 : (32 - (n : Int)).toNat = 32 - n := by omega
  have h5 := w_shl x n h
  have h6 := w_shr x (32 - n) (by omega)
  have h7 := w_or (x <<< UInt32.ofNat n) (x >>> UInt32.ofNat (32 - n))
  go_enter Tryz.func123, Tryz.ntmps123
  go_wp2
  go_ret
  exact ⟨ret_int rfl, rfl⟩

/-- turned to the right -/
def rotr (x : UInt32) (n : Nat) : UInt32 := x >>> UInt32.ofNat n ||| x <<< UInt32.ofNat (32 - n)

theorem down_any (x : UInt32) (n : Nat) (h0 : 0 < n) (h : n < 32) (w : World) :
    Calls Tryz.prog 122 #[.int .u32 (wn x), .int .i64 (n : Int)] w fun e w' => e = .returned (.int .u32 (wn (rotr x n))) ∧ w = w' := by
  have hr := rotl_any x (32 - n) (by omega) (by omega)
  rw [show 32 - (32 - n) = n by omega, show ((32 - n : Nat) : Int) = 32 - (n : Int) by omega, UInt32.or_comm] at hr
  have HR := Lib.hid hr
  clear hr
  go_enter Tryz.func122, Tryz.ntmps122
  go_wp2_with fail
  refine (HR.out _).mono ?_
  rintro e w1 ⟨rfl, rfl⟩
  go_wp2
  go_ret
  exact ⟨rfl, rfl⟩

theorem turned_any (x : UInt32) (n : Nat) (h0 : 0 < n) (h : n < 32) (w : World) :
    Calls Tryz.prog 115 #[.int .u32 (wn x), .int .i64 (n : Int)] w fun e w' => e = .returned (.int .u32 (wn (rotr x n))) ∧ Below w.heap.size w w' := by
  have h1 : (0 : Int) ≤ n ∧ (n : Int) ≤ 32 := by omega
  have h3 : (0 : Int) ≤ 32 - (n : Int) ∧ 32 - (n : Int) ≤ 32 := by omega
  have h4 : (32 - (n : Int)).toNat = 32 - n := by omega
  have h5 := w_shr x n h
  have h6 := w_shl x (32 - n) (by omega)
  have h7 := w_or (x >>> UInt32.ofNat n) (x <<< UInt32.ofNat (32 - n))
  go_enter Tryz.func115, Tryz.ntmps115
  go_wp2
  go_quiet (fail)
  go_wp2
  go_ret
  exact ⟨ret_int rfl, below_drewN (Below.refl _ _) _⟩

end Go.Proofs.YtjnbdeopoohnmaaGreatDoor
/- Layer 7 (sha): what a block's turn computes: plain. -/
namespace Go.Proofs.YtjnbdeopoohnmaaGreatDoor

structure St where
  a : UInt32
  b : UInt32
  c : UInt32
  d : UInt32
  e : UInt32
  f : UInt32
  g : UInt32
  h : UInt32

def sig0 (x : UInt32) : UInt32 := rotr x 7 ^^^ rotr x 18 ^^^ x >>> UInt32.ofNat 3
def sig1 (x : UInt32) : UInt32 := rotr x 17 ^^^ rotr x 19 ^^^ x >>> UInt32.ofNat 10
def Sg1 (e : UInt32) : UInt32 := rotr e 6 ^^^ rotr e 11 ^^^ rotr e 25
def Sg0 (a : UInt32) : UInt32 := rotr a 2 ^^^ rotr a 13 ^^^ rotr a 22
def chW (e f g : UInt32) : UInt32 := g ^^^ e &&& (f ^^^ g)
def majW (a b c : UInt32) : UInt32 := a &&& b ||| c &&& (a ||| b)

def sched (m : Nat → UInt32) (t : Nat) : UInt32 :=
  if _h : t < 16 then m t else sched m (t - 16) + (sched m (t - 7) + sig0 (sched m (t - 15)) + sig1 (sched m (t - 2)))
termination_by t

theorem sched_lo (m : Nat → UInt32) {t : Nat} (h : t < 16) : sched m t = m t := by rw [sched, dif_pos h]
theorem sched_hi (m : Nat → UInt32) {t : Nat} (h : 16 ≤ t) : sched m t = sched m (t - 16) + (sched m (t - 7) + sig0 (sched m (t - 15)) + sig1 (sched m (t - 2))) := by
  rw [sched, dif_neg (by omega)]

def rone (s : St) (k w : UInt32) : UInt32 := s.h + Sg1 s.e + chW s.e s.f s.g + k + w
def rtwo (s : St) : UInt32 := Sg0 s.a + majW s.a s.b s.c
def rstep (s : St) (k w : UInt32) : St := ⟨rone s k w + rtwo s, s.a, s.b, s.c, s.d + rone s k w, s.e, s.f, s.g⟩
def rnds (K W : Nat → UInt32) (s : St) : Nat → St
  | 0 => s
  | t + 1 => rstep (rnds K W s t) (K t) (W t)
def St.add (s t : St) : St := ⟨s.a + t.a, s.b + t.b, s.c + t.c, s.d + t.d, s.e + t.e, s.f + t.f, s.g + t.g, s.h + t.h⟩
def blk (K : Nat → UInt32) (s : St) (m : Nat → UInt32) : St := (rnds K (sched m) s 64).add s

/-- where the ring's cell j has its word from, ahead of round t -/
def rix (t j : Nat) : Nat := if t ≤ 16 then j else t - 1 - (t - 1 - j) % 16

theorem rix_lo {t j : Nat} (h : t ≤ 16) : rix t j = j := by unfold rix; rw [if_pos h]
/-- the cells that round t (from 16 on) looks into -/
theorem rix_hi {t : Nat} (h : 16 ≤ t) : rix t (t % 16) = t - 16 ∧ rix t ((t % 16 + 1) % 16) = t - 15 ∧ rix t ((t % 16 + 9) % 16) = t - 7 ∧ rix t ((t % 16 + 14) % 16) = t - 2 := by
  unfold rix
  split
  · have : t = 16 := by omega
    subst this
    omega
  · omega
theorem rix_put {t j : Nat} (h : 16 ≤ t) (hj : j < 16) : rix (t + 1) j = if j = t % 16 then t else rix t j := by
  unfold rix
  split <;> split <;> (try split) <;> omega

end Go.Proofs.YtjnbdeopoohnmaaGreatDoor
/- Layer 7 (sha): the walk of (words).block. -/
set_option linter.unusedSimpArgs false
namespace Go.Proofs.YtjnbdeopoohnmaaGreatDoor
open Go.RowKit Go.Sort

def St.agg (s : St) : Value := .agg #[.int .u32 (wn s.a), .int .u32 (wn s.b), .int .u32 (wn s.c), .int .u32 (wn s.d), .int .u32 (wn s.e), .int .u32 (wn s.f), .int .u32 (wn s.g), .int .u32 (wn s.h)]
def St.row (s : St) : Array Value := #[.int .u32 (wn s.a), .int .u32 (wn s.b), .int .u32 (wn s.c), .int .u32 (wn s.d), .int .u32 (wn s.e), .int .u32 (wn s.f), .int .u32 (wn s.g), .int .u32 (wn s.h)]
/-- a byte as a word -/
def bw (l : List UInt8) (i : Nat) : UInt32 := (l[i]?.getD 0).toUInt32
def mword (l : List UInt8) (i : Nat) : UInt32 := bw l (4 * i) <<< UInt32.ofNat 24 ||| bw l (4 * i + 1) <<< UInt32.ofNat 16 ||| bw l (4 * i + 2) <<< UInt32.ofNat 8 ||| bw l (4 * i + 3)
/-- sixteen cells -/
def ring (f : Nat → UInt32) : Array Value := ((List.range 16).map fun j => Value.int .u32 (wn (f j))).toArray

theorem wn_byte (l : List UInt8) (i : Nat) (x : UInt8) (h : l[i]? = some x) : (x.toNat : Int) = wn (bw l i) := by
  unfold wn bw
  rw [h]
  simp

theorem ring_get (f : Nat → UInt32) {j : Nat} (h : j < 16) : (ring f)[j]? = some (.int .u32 (wn (f j))) := by
  unfold ring
  simp [h]
theorem ring_len (f : Nat → UInt32) : (ring f).size = 16 := by simp [ring]
theorem ring_at (f : Nat → UInt32) {j : Nat} (h : j < (ring f).size) : (ring f)[j] = .int .u32 (wn (f j)) := by simp [ring]
theorem ring_set (f : Nat → UInt32) (k : Nat) (x : UInt32) : (ring f).setIfInBounds k (.int .u32 (wn x)) = ring fun j => if j = k then x else f j := by
  apply Array.ext
  · simp [ring_len]
  · intro i h1 h2
    rw [Array.getElem_setIfInBounds, ring_at, ring_at]
    · by_cases e : k = i
      · subst e
        simp
      · rw [if_neg e, if_neg (fun h => e h.symm)]
    · simpa using h1
theorem ring_congr {f g : Nat → UInt32} (h : ∀ j, j < 16 → f j = g j) : ring f = ring g := by
  apply Array.ext
  · simp [ring_len]
  · intro i h1 h2
    rw [ring_at, ring_at, h i (by simpa [ring_len] using h1)]

theorem i64_and15i (n : Int) : bits .and .i64 n 15 = n % 16 := by
  have h15 : (BitVec.ofInt 64 15).toNat = 2 ^ 4 - 1 := by decide
  have key : (BitVec.ofInt 64 n &&& BitVec.ofInt 64 15).toNat = (n % ((2 ^ 64 : Nat) : Int)).toNat % 2 ^ 4 := by
    rw [BitVec.toNat_and, BitVec.toNat_ofInt, h15, Nat.and_two_pow_sub_one_eq_mod]
  show IntKind.i64.wrap ((BitVec.ofInt 64 n &&& BitVec.ofInt 64 15).toNat : Nat) = n % 16
  rw [key, IntKind.wrap_i64]
  omega
theorem i64_and15 (t : Nat) : bits BinOp.and IntKind.i64 (t : Int) 15 = ((t % 16 : Nat) : Int) := by
  rw [i64_and15i]
  omega

theorem table_index (KC : List Value) (t : Nat) (x : Value) (h : KC[t]? = some x) (ht : t < 64) (W : World) :
    (Instr.index 164 (.agg KC.toArray) (.int .i64 (t : Int))).run Tryz.prog W = .ok x W := by
  have h1 : (t : Int).toNat = t := by omega
  have h2 : (0 : Int) ≤ t ∧ (t : Int) < 64 := by omega
  have hc : Tryz.prog.cellsOf 114 = 1 := by kernel_rfl
  simp [Instr.index, run_underlying Tryz.underlying164, asIntOf, go_sem, h1, h2, h]
  intro h3
  omega

/-- a region that draws: still operations ahead of a tail; its world under a name of its own -/
theorem wp_still_tail2 {P : Program} {id : Nat} {Q : Exit → Act → World → Prop} {a : Act} {w : World} {l : List Oper} (n : Nat) (hm : P.follows .mixedOrders = true) (hB : Region.lexTailB .any l.toArray n = true)
    (h : ∀ W, W = w.drew → wpStill P l.toArray W (fun a' => wpList P l.toArray Q (l.drop n) a' W) (l.take n) a) : (Code.region id l.toArray true).wp P Q a w :=
  wp_region_still_tail n hm hB (h _ rfl)

theorem arr16_index (B : Nat) (i : Nat) (hi : i < 16) (W : World) :
    (Instr.indexAt 162 (.pointer (some ⟨B, 0, none⟩)) (.int .i64 (i : Int))).run Tryz.prog W = .ok (.pointer (some ⟨B, i, none⟩)) W := by
  have h1 : (i : Int).toNat = i := by omega
  have h2 : (0 : Int) ≤ i ∧ (i : Int) < 16 := by omega
  have hc : Tryz.prog.cellsOf 114 = 1 := by kernel_rfl
  simp [Instr.indexAt, run_underlying Tryz.underlying162, asIntOf, go_sem, h1, h2]
  intro h3
  omega
theorem words_index (B : Nat) (i : Nat) (hi : i < 8) (W : World) :
    (Instr.indexAt 159 (.pointer (some ⟨B, 0, none⟩)) (.int .i64 (i : Int))).run Tryz.prog W = .ok (.pointer (some ⟨B, i, none⟩)) W := by
  have h1 : (i : Int).toNat = i := by omega
  have h2 : (0 : Int) ≤ i ∧ (i : Int) < 8 := by omega
  have hc : Tryz.prog.cellsOf 114 = 1 := by kernel_rfl
  simp [Instr.indexAt, run_underlying Tryz.underlying159, asIntOf, go_sem, h1, h2]
  intro h3
  omega

theorem row8_cells {W : World} {B : Nat} {s : St} (h : W.heap[B]? = some (.cells s.row 159 (0, 0))) :
    W.cell? ⟨B, 0, none⟩ = some (.int .u32 (wn s.a)) ∧ W.cell? ⟨B, 1, none⟩ = some (.int .u32 (wn s.b)) ∧ W.cell? ⟨B, 2, none⟩ = some (.int .u32 (wn s.c)) ∧ W.cell? ⟨B, 3, none⟩ = some (.int .u32 (wn s.d)) ∧
    W.cell? ⟨B, 4, none⟩ = some (.int .u32 (wn s.e)) ∧ W.cell? ⟨B, 5, none⟩ = some (.int .u32 (wn s.f)) ∧ W.cell? ⟨B, 6, none⟩ = some (.int .u32 (wn s.g)) ∧ W.cell? ⟨B, 7, none⟩ = some (.int .u32 (wn s.h)) :=
  ⟨cell_of_row _ _ 0 _ _ _ h, cell_of_row _ _ 1 _ _ _ h, cell_of_row _ _ 2 _ _ _ h, cell_of_row _ _ 3 _ _ _ h, cell_of_row _ _ 4 _ _ _ h, cell_of_row _ _ 5 _ _ _ h, cell_of_row _ _ 6 _ _ _ h, cell_of_row _ _ 7 _ _ _ h⟩

/-- the rows of block's own, in its second loop -/
structure RS (w W : World) (B2 B4 B5 B7 : Nat) (s S : St) (f : Nat → UInt32) : Prop where
  r7 : W.heap[B7]? = some (.cells S.row 159 (0, 0))
  r5 : W.heap[B5]? = some (.cells (ring f) 162 (0, 0))
  r2 : W.heap[B2]? = some (.cells s.row 159 (0, 0))
  r4 : W.heap[B4]? = some (.cells #[.int .u32 0, .int .u32 0, .int .u32 0, .int .u32 0, .int .u32 0, .int .u32 0, .int .u32 0, .int .u32 0] 159 (0, 0))
  bel : Below w.heap.size w W
  lt : B2 = w.heap.size ∧ B4 = B2 + 1 ∧ B5 = B2 + 2 ∧ B5 < B7

section
variable {w W W' : World} {B2 B4 B5 B7 : Nat} {s S : St} {f : Nat → UInt32}
theorem RS.later (h : RS w W B2 B4 B5 B7 s S f) (hb : Below W.heap.size W W') : RS w W' B2 B4 B5 B7 s S f :=
  ⟨(hb.block _ (heap_lt h.r7)).trans h.r7, (hb.block _ (heap_lt h.r5)).trans h.r5, (hb.block _ (heap_lt h.r2)).trans h.r2, (hb.block _ (heap_lt h.r4)).trans h.r4, h.bel.trans (hb.mono h.bel.size), h.lt⟩
theorem RS.drew (h : RS w W B2 B4 B5 B7 s S f) (hW : W' = W.drew) : RS w W' B2 B4 B5 B7 s S f := by
  subst hW
  exact h.later (Below.refl _ _).drew
theorem RS.drewN (h : RS w W B2 B4 B5 B7 s S f) (k : Nat) : RS w (W.drewN k) B2 B4 B5 B7 s S f := h.later (below_drewN (Below.refl _ _) k)
/-- the ring is stored into -/
theorem RS.set5 (h : RS w W B2 B4 B5 B7 s S f) {i : Nat} {x : UInt32} {g : Nat → UInt32} (hg : ∀ j, j < 16 → (if j = i then x else f j) = g j) :
    RS w (W.setCell ⟨B5, i, none⟩ (.int .u32 (wn x))) B2 B4 B5 B7 s S g := by
  have ho := set_only W B5 i (.int .u32 (wn x))
  have hl := h.lt
  refine ⟨(ho.block _ (heap_lt h.r7) (by omega)).trans h.r7, ?_, (ho.block _ (heap_lt h.r2) (by omega)).trans h.r2, (ho.block _ (heap_lt h.r4) (by omega)).trans h.r4, h.bel.trans (ho.below (fun b hb => by omega) h.bel.size), h.lt⟩
  rw [row_setCell h.r5 i _, ring_set, ring_congr hg]
/-- the state's row is written anew -/
theorem RS.put7 (h : RS w W B2 B4 B5 B7 s S f) {S' : St} (ho : Only (fun k => k = B7) W W') (hr : W'.heap[B7]? = some (.cells S'.row 159 (0, 0))) :
    RS w W' B2 B4 B5 B7 s S' f := by
  have hl := h.lt
  exact ⟨hr, (ho.block _ (heap_lt h.r5) (by omega)).trans h.r5, (ho.block _ (heap_lt h.r2) (by omega)).trans h.r2, (ho.block _ (heap_lt h.r4) (by omega)).trans h.r4, h.bel.trans (ho.below (fun b hb => by omega) h.bel.size), h.lt⟩
theorem RS.cell5 (h : RS w W B2 B4 B5 B7 s S f) {j : Nat} (hj : j < 16) : W.cell? ⟨B5, j, none⟩ = some (.int .u32 (wn (f j))) := by
  rw [cell_of_row W _ _ _ _ _ h.r5, ring_get _ hj]
end

/-- the state's cells, one on -/
theorem row8_src {W : World} {B : Nat} {S : St} (h : W.heap[B]? = some (.cells S.row 159 (0, 0))) (j : Nat) (v : Value)
    (hv : [Value.int .u32 (wn S.a), .int .u32 (wn S.b), .int .u32 (wn S.c), .int .u32 (wn S.d), .int .u32 (wn S.e), .int .u32 (wn S.f), .int .u32 (wn S.g)][j]? = some v) :
    W.cell? ((⟨B, 0, none⟩ : Addr).add j) = some v := by
  rw [Addr.add_lit, Nat.zero_add, cell_of_row W _ j _ _ _ h]
  match j, hv with
  | 0, hv => exact hv
  | 1, hv => exact hv
  | 2, hv => exact hv
  | 3, hv => exact hv
  | 4, hv => exact hv
  | 5, hv => exact hv
  | 6, hv => exact hv
  | n + 7, hv => simp at hv
/-- eight cells -/
def oct (f : Nat → UInt32) : Array Value := ((List.range 8).map fun j => Value.int .u32 (wn (f j))).toArray
def St.nth (s : St) : Nat → UInt32
  | 0 => s.a
  | 1 => s.b
  | 2 => s.c
  | 3 => s.d
  | 4 => s.e
  | 5 => s.f
  | 6 => s.g
  | _ => s.h
theorem row_oct (s : St) : s.row = oct s.nth := rfl
theorem oct_get (f : Nat → UInt32) {j : Nat} (h : j < 8) : (oct f)[j]? = some (.int .u32 (wn (f j))) := by
  unfold oct
  simp [h]
theorem oct_len (f : Nat → UInt32) : (oct f).size = 8 := by simp [oct]
theorem oct_at (f : Nat → UInt32) {j : Nat} (h : j < (oct f).size) : (oct f)[j] = .int .u32 (wn (f j)) := by simp [oct]
theorem oct_set (f : Nat → UInt32) (k : Nat) (x : UInt32) : (oct f).setIfInBounds k (.int .u32 (wn x)) = oct fun j => if j = k then x else f j := by
  apply Array.ext
  · simp [oct_len]
  · intro i h1 h2
    rw [Array.getElem_setIfInBounds, oct_at, oct_at]
    · by_cases e : k = i
      · subst e
        simp
      · rw [if_neg e, if_neg (fun h => e h.symm)]
    · simpa using h1
theorem oct_congr {f g : Nat → UInt32} (h : ∀ j, j < 8 → f j = g j) : oct f = oct g := by
  apply Array.ext
  · simp [oct_len]
  · intro i h1 h2
    rw [oct_at, oct_at, h i (by simpa [oct_len] using h1)]
theorem add_nth (s t : St) (j : Nat) (h : j < 8) : (s.add t).nth j = s.nth j + t.nth j := by
  match j, h with
  | 0, _ => rfl
  | 1, _ => rfl
  | 2, _ => rfl
  | 3, _ => rfl
  | 4, _ => rfl
  | 5, _ => rfl
  | 6, _ => rfl
  | 7, _ => rfl

/-- the rows of the third loop -/
structure R3 (w W : World) (B2 B4 B7 : Nat) (s : St) (f : Nat → UInt32) : Prop where
  r7 : W.heap[B7]? = some (.cells (oct f) 159 (0, 0))
  r2 : W.heap[B2]? = some (.cells (oct s.nth) 159 (0, 0))
  r4 : W.heap[B4]? = some (.cells #[.int .u32 0, .int .u32 0, .int .u32 0, .int .u32 0, .int .u32 0, .int .u32 0, .int .u32 0, .int .u32 0] 159 (0, 0))
  bel : Below w.heap.size w W
  lt : B2 = w.heap.size ∧ B4 = B2 + 1 ∧ B4 < B7
theorem RS.r3 {w W : World} {B2 B4 B5 B7 : Nat} {s S : St} {f : Nat → UInt32} (h : RS w W B2 B4 B5 B7 s S f) : R3 w W B2 B4 B7 s S.nth :=
  ⟨h.r7, h.r2, h.r4, h.bel, by have := h.lt; omega⟩
section
variable {w W W' : World} {B2 B4 B7 : Nat} {s : St} {f : Nat → UInt32}
theorem R3.drew (h : R3 w W B2 B4 B7 s f) (hW : W' = W.drew) : R3 w W' B2 B4 B7 s f := by
  subst hW
  exact ⟨h.r7, h.r2, h.r4, h.bel.drew, h.lt⟩
theorem R3.set7 (h : R3 w W B2 B4 B7 s f) {i : Nat} {x : UInt32} {g : Nat → UInt32} (hg : ∀ j, j < 8 → (if j = i then x else f j) = g j) :
    R3 w (W.setCell ⟨B7, i, none⟩ (.int .u32 (wn x))) B2 B4 B7 s g := by
  have ho := set_only W B7 i (.int .u32 (wn x))
  have hl := h.lt
  refine ⟨?_, (ho.block _ (heap_lt h.r2) (by omega)).trans h.r2, (ho.block _ (heap_lt h.r4) (by omega)).trans h.r4, h.bel.trans (ho.below (fun b hb => by omega) h.bel.size), h.lt⟩
  rw [row_setCell h.r7 i _, oct_set, oct_congr hg]
theorem R3.cell7 (h : R3 w W B2 B4 B7 s f) {j : Nat} (hj : j < 8) : W.cell? ⟨B7, j, none⟩ = some (.int .u32 (wn (f j))) := by
  rw [cell_of_row W _ _ _ _ _ h.r7, oct_get _ hj]
theorem R3.cell2 (h : R3 w W B2 B4 B7 s f) {j : Nat} (hj : j < 8) : W.cell? ⟨B2, j, none⟩ = some (.int .u32 (wn (s.nth j))) := by
  rw [cell_of_row W _ _ _ _ _ h.r2, oct_get _ hj]
end

/-- a store of a whole aggregate over a whole row. -/
theorem run_storeVar_row {P : Program} (w : World) (t ty g : TypeId) (Z cs : Array Value) (hg : w.heap[g]? = some (.cells Z t (0, 0))) (hs : (P.info? ty).map (·.size) = some cs.size) (hz : Z.size = cs.size) (h1 : ∀ v ∈ cs.toList, v.oneCell' = true) :
    (storeVar ty ⟨g, 0, none⟩ (.agg cs)).run P w = .ok () (w.setRow g cs) := by
  have hst := run_storeCells_at P g 0 t cs.toList 0 Z w hg (by simp; omega) h1
  obtain ⟨i, hi, hsz⟩ := Option.map_eq_some_iff.1 hs
  have hz2 : w.setRow g (Z.toList.take (0 + 0) ++ cs.toList ++ Z.toList.drop (0 + 0 + cs.toList.length)).toArray = w.setRow g cs := by
    congr 1
    have : List.drop (0 + 0 + cs.toList.length) Z.toList = [] := List.drop_eq_nil_of_le (by simp; omega)
    rw [this]
    simp
  rw [hz2] at hst
  simp [storeVar, Value.cells, Go.sizeOf, typeInfo, hi, hsz, hst]

theorem wpList_store_row {P : Program} {w : World} {ops : Array Oper} {rest : List Oper} {o : Oper} {a : Act} {Q : Exit → Act → World → Prop} {t ty g : TypeId} {Z cs : Array Value} (hgd : o.guard = none) (x y : Operand)
    (ho : o.op = .store ty x y) (hx : a.eval x = .pointer (some ⟨g, 0, none⟩)) (hy : a.eval y = .agg cs) (hg : w.heap[g]? = some (.cells Z t (0, 0)))
    (hs : (P.info? ty).map (·.size) = some cs.size) (hz : Z.size = cs.size) (h1 : ∀ v ∈ cs.toList, v.oneCell' = true)
    (h : wpList P ops Q rest (a.put o.dst undef) (w.setRow g cs)) : wpList P ops Q (o :: rest) a w := by
  refine wpList_plain hgd fun K hK => ?_
  have hr := run_storeVar_row (P := P) w t ty g Z cs hg hs hz h1
  unfold Oper.wp execOp
  simp only [ho, hx, hy, Instr.storeAt, Instr.sureAddr, Sem.run_bind, Sem.run_pure, Result.andThen_ok, hr]
  exact hK _ _ h

theorem setRow_only (w : World) (g : Nat) (cs : Array Value) : Only (fun k => k = g) w (w.setRow g cs) :=
  ⟨rfl, rfl, rfl, by simp [World.setRow], fun k _ hn => setRow_other w g k cs hn⟩

/-- still contracts of `down` -/
theorem down_still (n : Nat) (h0 : 0 < n) (h : n < 32) (x : UInt32) (W : World) :
    Calls Tryz.prog 122 #[.int .u32 (wn x), .int .i64 (n : Int)] W (fun e w'' => e = .returned (.int .u32 (wn (rotr x n))) ∧ w'' = W) :=
  (down_any x n h0 h W).mono fun _ _ h => ⟨h.1, h.2.symm⟩

end Go.Proofs.YtjnbdeopoohnmaaGreatDoor
/- Layer 7 (sha): the walk of (words).block. -/
set_option linter.unusedSimpArgs false
namespace Go.Proofs.YtjnbdeopoohnmaaGreatDoor
open Go.RowKit Go.Sort

set_option maxRecDepth 100000 in
set_option maxHeartbeats 20000000 in
theorem block_any (K : Nat → UInt32) (s : St) (y : Value) (l : List UInt8) (hl : l.length = 64) (w : World) (hy : Bs w y l)
    (h0 : 0 < w.heap.size) (hK : ∀ t, t < 64 → w.cell? ⟨0, t, none⟩ = some (.int .u32 (wn (K t)))) :
    Calls Tryz.prog 120 #[s.agg, y] w fun e w' => e = .returned (blk K s (mword l)).agg ∧ Below w.heap.size w w' := by
  obtain ⟨w0, hw0⟩ : ∃ W, ((w.alloc (.cells s.row 159)).alloc (.cells #[.int .u32 0, .int .u32 0, .int .u32 0, .int .u32 0, .int .u32 0, .int .u32 0, .int .u32 0, .int .u32 0] 159)).alloc (.cells #[.int .u32 0, .int .u32 0, .int .u32 0, .int .u32 0, .int .u32 0, .int .u32 0, .int .u32 0, .int .u32 0, .int .u32 0, .int .u32 0, .int .u32 0, .int .u32 0, .int .u32 0, .int .u32 0, .int .u32 0, .int .u32 0] 162) = W := ⟨_, rfl⟩
  have hb0 : Below w.heap.size w w0 := by rw [← hw0]; exact (((Below.refl _ _).alloc (Nat.le_refl _) _).alloc (by simp) _).alloc (by simp; omega) _
  have k2 : w0.heap[w.heap.size]? = some (.cells s.row 159 (0, 0)) := by rw [← hw0, alloc_get, if_neg (by simp; omega), alloc_get, if_neg (by simp), alloc_get, if_pos rfl]
  have k4 : w0.heap[w.heap.size + 1]? = some (.cells #[.int .u32 0, .int .u32 0, .int .u32 0, .int .u32 0, .int .u32 0, .int .u32 0, .int .u32 0, .int .u32 0] 159 (0, 0)) := by rw [← hw0, alloc_get, if_neg (by simp), alloc_get, if_pos (by simp)]
  have k5 : w0.heap[w.heap.size + 1 + 1]? = some (.cells (ring fun _ => 0) 162 (0, 0)) := by rw [← hw0, alloc_get, if_pos (by simp)]; rfl
  obtain ⟨B5, hB5⟩ : ∃ B, w.heap.size + 1 + 1 = B := ⟨_, rfl⟩
  obtain ⟨B4, hB4⟩ : ∃ B, w.heap.size + 1 = B := ⟨_, rfl⟩
  obtain ⟨B2, hB2⟩ : ∃ B, w.heap.size = B := ⟨_, rfl⟩
  rw [hB5] at k5
  rw [hB4] at k4
  rw [hB2] at k2
  have HB5 := Lib.hid hB5
  have HB4 := Lib.hid hB4
  have HB2 := Lib.hid hB2
  have HBs : Hid (B5 = B2 + 2 ∧ B4 = B2 + 1 ∧ w.heap.size = B2) := ⟨by omega, by omega, hB2⟩
  have HW0 := Lib.hid hw0
  clear hB5 hB4 hB2
  obtain ⟨ya, yc, adr, rfl, ha2, ha3, ha3', ha4, ha5⟩ := Bs.open_n elB hy 64 hl
  have QC : Hid (∀ W, Below w.heap.size w W → ∀ i, i < 64 → W.cell? (adr i) = some (.int .u8 (wn (bw l i)))) := by
    intro W hW i hi
    obtain ⟨x, hx⟩ : ∃ x, l[i]? = some x := ⟨_, List.getElem?_eq_getElem (by omega)⟩
    rw [hW.cell (ha4 i hi), ha5 i x hx, wn_byte l i x hx]
  have QK : Hid (∀ W, Below w.heap.size w W → ∀ t, t < 64 → W.cell? ⟨0, t, none⟩ = some (.int .u32 (wn (K t)))) := by
    intro W hW t ht
    rw [hW.cell h0, hK t ht]
  have HA3 := Lib.hid ha3'
  have WADD := w_add
  have WOR := w_or
  have WXOR := w_xor
  have WAND := w_and
  have WMOD := w_mod
  have WADD2 := w_addw
  have WMOD2 := w_modw
  have WS24 := fun x => w_shl x 24 (by omega)
  have WS16 := fun x => w_shl x 16 (by omega)
  have WS8 := fun x => w_shl x 8 (by omega)
  have WS24w := fun x => w_shlw x 24 (by omega)
  have WS16w := fun x => w_shlw x 16 (by omega)
  have WS8w := fun x => w_shlw x 8 (by omega)
  simp only [Int.reducePow] at WS24 WS16 WS8 WS24w WS16w WS8w
  clear ha3' ha4 ha5 hK hy hl ha2 ha3
  clear hw0
  unfold St.agg
  unfold St.row at HW0
  go_enter Tryz.func120, Tryz.ntmps120
  go_wp2_with fail
  rw [HW0.out]
  rw [HB5.out, HB4.out, HB2.out]
  go_loopw [18] (fun i wr => ∃ k : Nat, k ≤ 16 ∧ i = .int .i64 k ∧ wr.heap[B5]? = some (.cells (ring fun j => if j < k then mword l j else 0) 162 (0, 0)) ∧ Only (fun b => b = B5) w0 wr) (fun i _ => 16 - (intOf i).toNat)
  case atStart => exact ⟨0, by omega, rfl, by simpa using k5, Only.refl _ _⟩
  case round =>
    obtain ⟨k, hk, rfl, hr, hw⟩ := hrel
    by_cases hlt : k < 16
    · have e1 : (k : Int) < 16 := by omega
      have hwb : Below w.heap.size w wr := hb0.trans (hw.below (fun b hb => by have := HBs.out; omega) hb0.size)
      have e2 : IntKind.i64.wrap (4 * (k : Int)) = 4 * (k : Int) := IntWalk.i64_in _ (by omega)
      have x0 : ∀ W, (Instr.indexAt 25 (.slice ya 64 yc) (.int .i64 (4 * (k : Int)))).run Tryz.prog W = .ok (.pointer (some (adr (4 * k)))) W := fun W => by
        have := HA3.out W (4 * (k : Int)) (by omega) (by omega)
        rwa [show (4 * (k : Int)).toNat = 4 * k by omega] at this
      have e3 : ∀ j : Nat, 0 < j → j < 4 → IntKind.i64.wrap (4 * (k : Int) + (j : Int)) = 4 * (k : Int) + (j : Int) := fun j h1 h2 => IntWalk.i64_in _ (by omega)
      have xj : ∀ j : Nat, 0 < j → j < 4 → ∀ W, (Instr.indexAt 25 (.slice ya 64 yc) (.int .i64 (4 * (k : Int) + (j : Int)))).run Tryz.prog W = .ok (.pointer (some (adr (4 * k + j)))) W := fun j h1 h2 W => by
        have := HA3.out W (4 * (k : Int) + (j : Int)) (by omega) (by omega)
        rwa [show (4 * (k : Int) + (j : Int)).toNat = 4 * k + j by omega] at this
      have e31 := e3 1 (by omega) (by omega)
      have e32 := e3 2 (by omega) (by omega)
      have e33 := e3 3 (by omega) (by omega)
      have x1 := xj 1 (by omega) (by omega)
      have x2 := xj 2 (by omega) (by omega)
      have x3 := xj 3 (by omega) (by omega)
      simp only [Int.natCast_one, Int.cast_ofNat_Int] at e31 e32 e33 x1 x2 x3
      have q0 := QC.out wr hwb (4 * k) (by omega)
      have q1 := QC.out wr hwb (4 * k + 1) (by omega)
      have q2 := QC.out wr hwb (4 * k + 2) (by omega)
      have q3 := QC.out wr hwb (4 * k + 3) (by omega)
      have r0 : wr.cell? ⟨B5, k, none⟩ = some (.int .u32 (wn (if k < k then mword l k else 0))) := by rw [cell_of_row wr _ k _ _ _ hr]; exact ring_get _ hlt
      have r1 := row_free hr k
      have HR := Lib.hid hr
      have HW := Lib.hid hw
      have QS : Hid (∀ v, Below w.heap.size w (wr.setCell ⟨B5, k, none⟩ v).drew) := fun v => (hwb.trans ((set_only wr B5 k v).below (fun b hb => by have := HBs.out; omega) hwb.size)).drew
      clear e3 xj hr hw
      go_wp2
      go_region_held3 (fun w' => w'.cell? (adr (4 * k)) = some (.int .u8 (wn (bw l (4 * k)))) ∧ w'.cell? (adr (4 * k + 1)) = some (.int .u8 (wn (bw l (4 * k + 1)))) ∧ w'.cell? (adr (4 * k + 2)) = some (.int .u8 (wn (bw l (4 * k + 2)))) ∧ w'.cell? (adr (4 * k + 3)) = some (.int .u8 (wn (bw l (4 * k + 3)))))
        (first | (refine ⟨QC.out _ (QS.out _) _ ?_, QC.out _ (QS.out _) _ ?_, QC.out _ (QS.out _) _ ?_, QC.out _ (QS.out _) _ ?_⟩ <;> omega) | go_keep) (fail)
      go_wp2
      go_roundw
      case rel =>
        refine ⟨k + 1, by omega, by go_num, ?_, ?_⟩
        · have h1 := row_setCell HR.out k (.int .u32 (wn (mword l k)))
          rw [ring_set, ring_congr (g := fun j => if j < k + 1 then mword l j else 0) (fun j _ => by
            by_cases e : j = k
            · rw [if_pos e, if_pos (by omega), e]
            · rw [if_neg e]; by_cases e2 : j < k
              · rw [if_pos e2, if_pos (by omega)]
              · rw [if_neg e2, if_neg (by omega)])] at h1
          exact h1
        · exact only_drew (HW.out.trans (set_only wr B5 k _))
      case measure => simp [intOf]; omega
    · have e1 : ¬ (k : Int) < 16 := by omega
      obtain rfl : k = 16 := by omega
      have hwb : Below w.heap.size w wr := hb0.trans (hw.below (fun b hb => by have := HBs.out; omega) hb0.size)
      have hr16 : wr.heap[B5]? = some (.cells (ring fun j => sched (mword l) (rix 0 j)) 162 (0, 0)) := by
        rw [hr, ring_congr (g := fun j => sched (mword l) (rix 0 j)) (fun j hj => by rw [if_pos hj, rix_lo (by omega), sched_lo _ hj])]
      have hr2 := (hw.block B2 (heap_lt k2) (by have := HBs.out; omega)).trans k2
      have hr4 := (hw.block B4 (heap_lt k4) (by have := HBs.out; omega)).trans k4
      obtain ⟨i0, i1, i2, i3, i4, i5, i6, i7⟩ := row8_cells hr2
      have HR16 := Lib.hid hr16
      have HR2 := Lib.hid hr2
      have HR4 := Lib.hid hr4
      have HWB := Lib.hid hwb
      obtain ⟨KC, hKC⟩ : ∃ KC, (List.range 64).map (fun t => Value.int .u32 (wn (K t))) = KC := ⟨_, rfl⟩
      have hkl : KC.length = 64 := by rw [← hKC]; simp
      have hkg : ∀ t, t < 64 → KC[t]? = some (.int .u32 (wn (K t))) := fun t ht => by rw [← hKC]; simp [ht]
      have hra : Hid (∀ W, Below w.heap.size w W → W.rangeAt 0 0 KC) := by
        intro W hW j v hv
        have hj : j < 64 := by rw [← hkl]; exact (List.getElem?_eq_some_iff.1 hv).1
        rw [hkg j hj] at hv
        cases hv
        rw [Nat.zero_add]
        exact QK.out W hW j hj
      obtain ⟨w1, hw1⟩ : ∃ W, wr.alloc (.cells #[.int .u32 (wn s.a), .int .u32 (wn s.b), .int .u32 (wn s.c), .int .u32 (wn s.d), .int .u32 (wn s.e), .int .u32 (wn s.f), .int .u32 (wn s.g), .int .u32 (wn s.h)] 159) = W := ⟨_, rfl⟩
      have hb1 : Below wr.heap.size wr w1 := by rw [← hw1]; exact (Below.refl _ _).alloc (Nat.le_refl _) _
      have r7 : w1.heap[wr.heap.size]? = some (.cells s.row 159 (0, 0)) := by rw [← hw1]; exact heap_alloc_new _ _
      have hwb1 : Below w.heap.size w w1 := hwb.trans (hb1.mono hwb.size)
      have hr16' := (hb1.block B5 (heap_lt hr16)).trans hr16
      have hr2' := (hb1.block B2 (heap_lt hr2)).trans hr2
      have hr4' := (hb1.block B4 (heap_lt hr4)).trans hr4
      have n7 : Hid (B5 < wr.heap.size ∧ B2 < wr.heap.size ∧ B4 < wr.heap.size) := ⟨heap_lt hr16, heap_lt hr2, heap_lt hr4⟩
      have HWB := Lib.hid hwb1
      have HKL := Lib.hid hkl
      have HKG := Lib.hid hkg
      have HW1 := Lib.hid hw1
      clear hr hw hwb hr16 hr2 hr4 hb0 k5 k4 k2 hlt hKC hkl hkg hw1 hb1 hwb1
      go_upto_region 8 with fail
      rw [HW1.out]
      refine wp_region_lit ?_
      refine wpList_load_mid rfl 164 (.global 0) rfl 0 0 rfl KC _ (hra.out _ HWB.out) Tryz.underlying164 rfl (by rw [HKL.out]; kernel_rfl) ?_
      obtain ⟨B7, hB7⟩ : ∃ B, wr.heap.size = B := ⟨_, rfl⟩
      rw [hB7] at r7 n7 ⊢
      clear hB7 i0 i1 i2 i3 i4 i5 i6 i7 HW1
      go_wp2_with fail
      have RS0 : RS w w1 B2 B4 B5 B7 s s (fun j => sched (mword l) (rix 0 j)) := ⟨r7, hr16', hr2', hr4', HWB.out, by have := HBs.out; have := n7.out; omega⟩
      clear r7 hr16' hr2' hr4'
      go_loopw [59] (fun i wr => ∃ t : Nat, t ≤ 64 ∧ i = .int .i64 t ∧ RS w wr B2 B4 B5 B7 s (rnds K (sched (mword l)) s t) (fun j => sched (mword l) (rix t j))) (fun i _ => 64 - (intOf i).toNat)
      case atStart => exact ⟨0, by omega, rfl, RS0⟩
      case round =>
        obtain ⟨t, ht, rfl, hrs⟩ := hrel
        clear RS0
        by_cases hlt : t < 64
        · have e1 : (t : Int) < 64 := by omega
          obtain ⟨S, hS⟩ : ∃ S, rnds K (sched (mword l)) s t = S := ⟨_, rfl⟩
          rw [hS] at hrs
          have hix := table_index KC t _ (HKG.out t hlt) hlt
          have hand := i64_and15 t
          obtain ⟨i, hi⟩ : ∃ i, t % 16 = i := ⟨_, rfl⟩
          rw [hi] at hand
          have hi16 : i < 16 := by omega
          have HS := Lib.hid hS
          have HI := Lib.hid hi
          clear hS hi
          go_upto_if 66 with fail
          go_cut [] (fun wx => RS w wx B2 B4 B5 B7 s S (fun j => sched (mword l) (rix (t + 1) j)))
          case first =>
            go_upto_region 13 with fail
            focus
              have hge : 16 ≤ t := by omega
              obtain ⟨g0, g1, g9, g14⟩ := rix_hi hge
              rw [HI.out] at g0 g1 g9 g14
              have c1 := hrs.cell5 (j := (i + 1) % 16) (by omega)
              have c14 := hrs.cell5 (j := (i + 14) % 16) (by omega)
              rw [g1] at c1
              rw [g14] at c14
              obtain ⟨j1, hj1⟩ : ∃ j, (i + 1) % 16 = j := ⟨_, rfl⟩
              obtain ⟨j9, hj9⟩ : ∃ j, (i + 9) % 16 = j := ⟨_, rfl⟩
              obtain ⟨j14, hj14⟩ : ∃ j, (i + 14) % 16 = j := ⟨_, rfl⟩
              rw [hj1] at c1
              rw [hj14] at c14
              rw [hj9] at g9
              have a1 := i64_and15 (i + 1)
              have a9 := i64_and15 (i + 9)
              have a14 := i64_and15 (i + 14)
              rw [hj1, Int.natCast_add] at a1
              rw [hj9, Int.natCast_add] at a9
              rw [hj14, Int.natCast_add] at a14
              simp only [Int.natCast_one, Int.cast_ofNat_Int] at a1 a9 a14
              have u1 : IntKind.i64.wrap ((i : Int) + 1) = (i : Int) + 1 := IntWalk.i64_in _ (by omega)
              have u9 : IntKind.i64.wrap ((i : Int) + 9) = (i : Int) + 9 := IntWalk.i64_in _ (by omega)
              have u14 : IntKind.i64.wrap ((i : Int) + 14) = (i : Int) + 14 := IntWalk.i64_in _ (by omega)
              have l1 : j1 < 16 := by omega
              have l9 : j9 < 16 := by omega
              have l14 : j14 < 16 := by omega
              have A9 := Lib.hid a9
              have G := Lib.hid (And.intro g0 g9)
              clear g0 g1 g9 g14 hj1 hj9 hj14
              go_quiet (fail)
              clear a1 a9 a14 u1 u9 u14 c1 c14 l1 l14
              have u9 : IntKind.i64.wrap ((i : Int) + 9) = (i : Int) + 9 := IntWalk.i64_in _ (by omega)
              have a9 := A9.out
              have WR3 := fun x => w_shr x 3 (by omega)
              have WR10 := fun x => w_shr x 10 (by omega)
              simp only [Int.reducePow] at WR3 WR10
              have hrs1 := hrs.drewN nq
              go_wp2
              refine wp_still_tail2 26 (by kernel_rfl) (by kernel_rfl) ?_
              intro W2 hW2
              have hrs2 := hrs1.drew hW2
              have cid := hrs2.cell5 (j := i) hi16
              have c9d := hrs2.cell5 (j := j9) l9
              rw [G.out.1] at cid
              rw [G.out.2] at c9d
              have hf5 := row_free hrs2.r5 i
              have xi := arr16_index B5 i hi16
              have x9 := arr16_index B5 j9 l9
              clear hW2
              simp only [List.take_succ_cons, List.take_zero, List.drop_succ_cons, List.drop_zero]
              iterate 9 still_step
              still_call (down_still 7 (by omega) (by omega) _ _)
              still_step
              still_call (down_still 18 (by omega) (by omega) _ _)
              iterate 6 still_step
              still_call (down_still 17 (by omega) (by omega) _ _)
              still_step
              still_call (down_still 19 (by omega) (by omega) _ _)
              iterate 5 still_step
              refine wpStill_nil ?_
              go_wp2
              go_meet
              case rel =>
                refine hrs2.set5 fun j hj => ?_
                rw [rix_put hge hj, HI.out]
                by_cases e : j = i
                · rw [if_pos e, if_pos e, sched_hi _ hge]
                  rfl
                · rw [if_neg e, if_neg e]
            go_wp2
            go_meet
            case rel =>
              refine ⟨hrs.r7, ?_, hrs.r2, hrs.r4, hrs.bel, hrs.lt⟩
              rw [hrs.r5, ring_congr (g := fun j => sched (mword l) (rix (t + 1) j)) fun j hj => by rw [rix_lo (t := t) (by omega), rix_lo (t := t + 1) (by omega)]]
          case rest =>
            clear hrs
            have ci := hcut.cell5 (j := i) hi16
            have gi : rix (t + 1) i = t := by
              have := HI.out
              unfold rix
              split <;> omega
            rw [gi] at ci
            have hix2 := hix
            obtain ⟨s0, s1, s2, s3, s4, s5, s6, s7⟩ := row8_cells hcut.r7
            go_upto_region 16 with fail
            refine wp_still_tail2 28 (by kernel_rfl) (by kernel_rfl) ?_
            intro W2 hW2
            have hrs2 := hcut.drew hW2
            have ci := hrs2.cell5 (j := i) hi16
            rw [gi] at ci
            have xi := arr16_index B5 i hi16
            clear s0 s1 s2 s3 s4 s5 s6 s7 hcut hW2 gi
            obtain ⟨s0, s1, s2, s3, s4, s5, s6, s7⟩ := row8_cells hrs2.r7
            simp only [List.take_succ_cons, List.take_zero, List.drop_succ_cons, List.drop_zero]
            iterate 3 still_step
            still_call (down_still 6 (by omega) (by omega) _ _)
            still_step
            still_call (down_still 11 (by omega) (by omega) _ _)
            iterate 2 still_step
            still_call (down_still 25 (by omega) (by omega) _ _)
            iterate 19 still_step
            refine wpStill_nil ?_
            go_upto_region 18 with fail
            refine wp_still_tail2 21 (by kernel_rfl) (by kernel_rfl) ?_
            intro W3 hW3
            have hrs3 := hrs2.drew hW3
            clear s0 s1 s2 s3 s4 s5 s6 s7 hrs2 hW3 ci xi
            obtain ⟨s0, s1, s2, s3, s4, s5, s6, s7⟩ := row8_cells hrs3.r7
            simp only [List.take_succ_cons, List.take_zero, List.drop_succ_cons, List.drop_zero]
            still_step
            still_call (down_still 2 (by omega) (by omega) _ _)
            still_step
            still_call (down_still 13 (by omega) (by omega) _ _)
            iterate 2 still_step
            still_call (down_still 22 (by omega) (by omega) _ _)
            iterate 14 still_step
            refine wpStill_nil ?_
            go_upto_region 19 with fail
            refine wp_still_tail2 2 (by kernel_rfl) (by kernel_rfl) ?_
            intro W4 hW4
            have hrs4 := hrs3.drew hW4
            clear s0 s1 s2 s3 s4 s5 s6 s7 hrs3 hW4
            obtain ⟨s0, s1, s2, s3, s4, s5, s6, s7⟩ := row8_cells hrs4.r7
            simp only [List.take_succ_cons, List.take_zero, List.drop_succ_cons, List.drop_zero]
            iterate 2 still_step
            refine wpStill_nil ?_
            refine wpList_copy_own rfl (.tmp 158) (.tmp 159) 153 153 rfl 114 Tryz.underlying153 (by kernel_rfl) B7 1 7 7 ⟨B7, 0, none⟩ 7 8 rfl rfl S.row 159 hrs4.r7
              [Value.int .u32 (wn S.a), .int .u32 (wn S.b), .int .u32 (wn S.c), .int .u32 (wn S.d), .int .u32 (wn S.e), .int .u32 (wn S.f), .int .u32 (wn S.g)] rfl (row8_src hrs4.r7) (by simp [St.row]) (by simp [Value.oneCell']) ?_
            obtain ⟨W5, hW5⟩ : ∃ W, W4.setRow B7 (S.row.toList.take 1 ++ ([Value.int .u32 (wn S.a), .int .u32 (wn S.b), .int .u32 (wn S.c), .int .u32 (wn S.d), .int .u32 (wn S.e), .int .u32 (wn S.f), .int .u32 (wn S.g)] ++ S.row.toList.drop (1 + [Value.int .u32 (wn S.a), .int .u32 (wn S.b), .int .u32 (wn S.c), .int .u32 (wn S.d), .int .u32 (wn S.e), .int .u32 (wn S.f), .int .u32 (wn S.g)].length))).toArray = W := ⟨_, rfl⟩
            rw [hW5]
            have hrs5 : RS w W5 B2 B4 B5 B7 s ⟨S.a, S.a, S.b, S.c, S.d, S.e, S.f, S.g⟩ (fun j => sched (mword l) (rix (t + 1) j)) :=
              hrs4.put7 (by rw [← hW5]; exact setRow_only _ _ _) (by rw [← hW5]; exact setRow_heap W4 B7 _ _ _ _ hrs4.r7)
            clear s0 s1 s2 s3 s4 s5 s6 s7 hrs4 hW5
            obtain ⟨s0, s1, s2, s3, s4, s5, s6, s7⟩ := row8_cells hrs5.r7
            dsimp only at s0 s4
            have f4 := row_free hrs5.r7 4
            clear s1 s2 s3 s5 s6 s7
            go_upto_region 21 with fail
            obtain ⟨W6, hW6⟩ : ∃ W, W5.setCell ⟨B7, 4, none⟩ (.int .u32 (wn (S.d + (S.h + (rotr S.e 6 ^^^ rotr S.e 11 ^^^ rotr S.e 25) + (S.g ^^^ S.e &&& (S.f ^^^ S.g)) + K t + sched (mword l) t)))) = W := ⟨_, rfl⟩
            rw [hW6]
            have hrs6 : RS w W6 B2 B4 B5 B7 s ⟨S.a, S.a, S.b, S.c, S.d + rone S (K t) (sched (mword l) t), S.e, S.f, S.g⟩ (fun j => sched (mword l) (rix (t + 1) j)) :=
              hrs5.put7 (by rw [← hW6]; exact set_only _ _ _ _) (by rw [← hW6]; exact row_setCell hrs5.r7 4 _)
            clear s0 s4 hrs5 hW6 f4
            obtain ⟨s0, s1, s2, s3, s4, s5, s6, s7⟩ := row8_cells hrs6.r7
            dsimp only at s0
            have f0 := row_free hrs6.r7 0
            clear s1 s2 s3 s4 s5 s6 s7
            go_wp2
            go_roundw
            case rel =>
              refine ⟨t + 1, by omega, by go_num, ?_⟩
              refine hrs6.put7 (set_only _ _ _ _) ?_
              show _ = some (Obj.cells (rstep (rnds K (sched (mword l)) s t) (K t) (sched (mword l) t)).row _ _)
              rw [HS.out]
              exact row_setCell hrs6.r7 0 _
            case measure => simp [intOf]; omega
        · have e1 : ¬ (t : Int) < 64 := by omega
          obtain rfl : t = 64 := by omega
          obtain ⟨S, hS⟩ : ∃ S, rnds K (sched (mword l)) s 64 = S := ⟨_, rfl⟩
          rw [hS] at hrs
          have HS := Lib.hid hS
          have hr3 := hrs.r3
          clear hrs hS
          go_wp2_with fail
          go_loopw [171] (fun i wr => ∃ k : Nat, k ≤ 8 ∧ i = .int .i64 k ∧ R3 w wr B2 B4 B7 s (fun j => if j < k then S.nth j + s.nth j else S.nth j)) (fun i _ => 8 - (intOf i).toNat)
          case atStart => exact ⟨0, by omega, rfl, by simpa using hr3⟩
          case round =>
            obtain ⟨k, hk, rfl, hr⟩ := hrel
            clear hr3
            by_cases hlt : k < 8
            · have e1 : (k : Int) < 8 := by omega
              go_upto_region 26 with fail
              refine wp_still_tail2 6 (by kernel_rfl) (by kernel_rfl) ?_
              intro W2 hW2
              have hr2 := hr.drew hW2
              have ck := hr2.cell7 (j := k) hlt
              have c2 := hr2.cell2 (j := k) hlt
              simp only [Nat.lt_irrefl, if_false] at ck
              have f7 := row_free hr2.r7 k
              have xk := words_index B7 k hlt
              have x2 := words_index B2 k hlt
              clear hr hW2
              simp only [List.take_succ_cons, List.take_zero, List.drop_succ_cons, List.drop_zero]
              iterate 6 still_step
              refine wpStill_nil ?_
              go_wp2
              go_roundw
              case rel =>
                refine ⟨k + 1, by omega, by go_num, hr2.set7 fun j hj => ?_⟩
                by_cases e : j = k
                · rw [if_pos e, if_pos (by omega), e]
                · rw [if_neg e]
                  by_cases e2 : j < k
                  · rw [if_pos e2, if_pos (by omega)]
                  · rw [if_neg e2, if_neg (by omega)]
              case measure => simp [intOf]; omega
            · have e1 : ¬ (k : Int) < 8 := by omega
              obtain rfl : k = 8 := by omega
              have r7 : wr.heap[B7]? = some (.cells (S.add s).row 159 (0, 0)) := by
                rw [hr.r7, row_oct, oct_congr (g := (S.add s).nth) fun j hj => by rw [if_pos hj, add_nth _ _ _ hj]]
              obtain ⟨s0, s1, s2, s3, s4, s5, s6, s7⟩ := row8_cells r7
              have HR := Lib.hid hr
              clear hr
              go_wp2_with (with_reducible refine wpList_store_row rfl _ _ rfl rfl rfl HR.out.r4 (by kernel_rfl) (by simp) (by simp [Value.oneCell']) ?_)
              have hB : blk K s (mword l) = S.add s := by show (rnds K (sched (mword l)) s 64).add s = _; rw [HS.out]
              rw [hB]
              obtain ⟨W9, hW9⟩ : ∃ W, wr.setRow B4 #[.int .u32 (wn (S.add s).a), .int .u32 (wn (S.add s).b), .int .u32 (wn (S.add s).c), .int .u32 (wn (S.add s).d), .int .u32 (wn (S.add s).e), .int .u32 (wn (S.add s).f), .int .u32 (wn (S.add s).g), .int .u32 (wn (S.add s).h)] = W := ⟨_, rfl⟩
              rw [hW9]
              have r9 : W9.heap[B4]? = some (.cells (S.add s).row 159 (0, 0)) := by rw [← hW9]; exact setRow_heap wr B4 _ _ _ _ HR.out.r4
              have b9 : Below w.heap.size w W9 := by
                have hl := HR.out.lt
                rw [← hW9]
                exact HR.out.bel.trans ((setRow_only wr B4 _).below (fun b hb => by omega) HR.out.bel.size)
              clear s0 s1 s2 s3 s4 s5 s6 s7 hB hW9 r7
              obtain ⟨s0, s1, s2, s3, s4, s5, s6, s7⟩ := row8_cells r9
              exact bodyPost_ret (v := (S.add s).agg) (by simp [results, Tryz.results120, go_sem, s0, s1, s2, s3, s4, s5, s6, s7, St.agg]) rfl ⟨rfl, b9⟩

end Go.Proofs.YtjnbdeopoohnmaaGreatDoor
/- Layer 7 (sha): sums: plain. -/
namespace Go.Proofs.YtjnbdeopoohnmaaGreatDoor

def ktab : List UInt32 := [
  0x428a2f98, 0x71374491, 0xb5c0fbcf, 0xe9b5dba5, 0x3956c25b, 0x59f111f1, 0x923f82a4, 0xab1c5ed5,
  0xd807aa98, 0x12835b01, 0x243185be, 0x550c7dc3, 0x72be5d74, 0x80deb1fe, 0x9bdc06a7, 0xc19bf174,
  0xe49b69c1, 0xefbe4786, 0x0fc19dc6, 0x240ca1cc, 0x2de92c6f, 0x4a7484aa, 0x5cb0a9dc, 0x76f988da,
  0x983e5152, 0xa831c66d, 0xb00327c8, 0xbf597fc7, 0xc6e00bf3, 0xd5a79147, 0x06ca6351, 0x14292967,
  0x27b70a85, 0x2e1b2138, 0x4d2c6dfc, 0x53380d13, 0x650a7354, 0x766a0abb, 0x81c2c92e, 0x92722c85,
  0xa2bfe8a1, 0xa81a664b, 0xc24b8b70, 0xc76c51a3, 0xd192e819, 0xd6990624, 0xf40e3585, 0x106aa070,
  0x19a4c116, 0x1e376c08, 0x2748774c, 0x34b0bcb5, 0x391c0cb3, 0x4ed8aa4a, 0x5b9cca4f, 0x682e6ff3,
  0x748f82ee, 0x78a5636f, 0x84c87814, 0x8cc70208, 0x90befffa, 0xa4506ceb, 0xbef9a3f7, 0xc67178f2]
def shaK (t : Nat) : UInt32 := ktab[t]?.getD 0
def shaInit : St := ⟨0x6a09e667, 0xbb67ae85, 0x3c6ef372, 0xa54ff53a, 0x510e527f, 0x9b05688c, 0x1f83d9ab, 0x5be0cd19⟩

/-- whole blocks, one behind the other -/
def blks (K : Nat → UInt32) (s : St) (l : List UInt8) : St :=
  if _h : 64 ≤ l.length then blks K (blk K s (mword (l.take 64))) (l.drop 64) else s
termination_by l.length
decreasing_by simp [List.length_drop]; omega

theorem blks_go (K : Nat → UInt32) (s : St) {l : List UInt8} (h : 64 ≤ l.length) : blks K s l = blks K (blk K s (mword (l.take 64))) (l.drop 64) := by rw [blks, dif_pos h]
theorem blks_end (K : Nat → UInt32) (s : St) {l : List UInt8} (h : l.length < 64) : blks K s l = s := by rw [blks, dif_neg (by omega)]

/-- the length's eight bytes -/
def len8 (n i : Nat) : UInt8 := UInt8.ofNat (8 * n / 256 ^ (7 - i))
def zeros (n : Nat) : Nat := if 55 < n % 64 then 128 - 9 - n % 64 else 64 - 9 - n % 64
def pad (n : Nat) : List UInt8 := 128 :: (List.replicate (zeros n) 0 ++ (List.range 8).map (len8 n))
def shaOut (s : St) : List UInt8 := (List.range 32).map fun i => UInt8.ofNat ((s.nth (i / 4)).toNat / 2 ^ (24 - 8 * (i % 4)))
/-- the sum of bytes -/
def shaSum (l : List UInt8) : List UInt8 := shaOut (blks shaK shaInit (l ++ pad l.length))

theorem shaSum_len (l : List UInt8) : (shaSum l).length = 32 := by simp [shaSum, shaOut]
theorem pad_len (n : Nat) : (pad n).length = 9 + zeros n := by simp [pad]; omega
/-- the last bytes, by their places -/
theorem tail_at (q n : Nat) (r : List UInt8) (hq : r.length = q) (hn : n % 64 = q) (j : Nat) (hj : j < if 55 < q then 128 else 64) :
    (r ++ pad n)[j]? = some (if j < q then r[j]?.getD 0 else if j = q then 128 else if j < (if 55 < q then 128 else 64) - 8 then 0 else len8 n (j + 8 - if 55 < q then 128 else 64)) := by
  have hq64 : q < 64 := by omega
  have hz : zeros n = (if 55 < q then 128 else 64) - 9 - q := by unfold zeros; rw [hn]; split <;> rfl
  obtain ⟨m, hm⟩ : ∃ m, (if 55 < q then 128 else 64) = m := ⟨_, rfl⟩
  have hm9 : q + 9 ≤ m ∧ m ≤ 128 := by rw [← hm]; split <;> omega
  rw [hm] at hj hz ⊢
  rw [List.getElem?_append, hq]
  split
  · next h => rw [List.getElem?_eq_getElem (by omega)]; simp
  · next h =>
    unfold pad
    by_cases h1 : j = q
    · subst h1; simp
    · rw [if_neg h1, show j - q = (j - q - 1) + 1 by omega, List.getElem?_cons_succ, List.getElem?_append, List.length_replicate, hz]
      split
      · next h2 => rw [if_pos (by omega), List.getElem?_replicate, if_pos h2]
      · next h2 =>
        rw [if_neg (by omega), List.getElem?_map, List.getElem?_range (by omega)]
        show some _ = some _
        congr 2
        omega
theorem tail_len (q n : Nat) (r : List UInt8) (hq : r.length = q) (hn : n % 64 = q) : (r ++ pad n).length = if 55 < q then 128 else 64 := by
  rw [List.length_append, pad_len, hq]
  unfold zeros
  rw [hn]
  split <;> omega

end Go.Proofs.YtjnbdeopoohnmaaGreatDoor
/- Layer 8 (hmac): plain. -/
namespace Go.Proofs.YtjnbdeopoohnmaaGreatDoor

def hkey (key : List UInt8) : List UInt8 := if 64 < key.length then shaSum key else key
def hbyte (key : List UInt8) (i : Nat) : UInt8 := (hkey key)[i]?.getD 0
def hpad (key : List UInt8) (x : UInt8) : List UInt8 := (List.range 64).map fun i => hbyte key i ^^^ x
def htag (key b : List UInt8) : List UInt8 := shaSum (hpad key 92 ++ shaSum (hpad key 54 ++ b))
def hderive (key name b : List UInt8) : List UInt8 := htag key (name ++ 0 :: b)

theorem hkey_len (key : List UInt8) : (hkey key).length ≤ 64 := by
  unfold hkey
  split
  · rw [shaSum_len]; omega
  · omega
theorem hpad_len (key : List UInt8) (x : UInt8) : (hpad key x).length = 64 := by simp [hpad]
theorem htag_len (key b : List UInt8) : (htag key b).length = 32 := shaSum_len _
theorem hbyte_in (key : List UInt8) (i : Nat) (x : UInt8) (h : (hkey key)[i]? = some x) : hbyte key i = x := by unfold hbyte; rw [h]; rfl
theorem hbyte_out (key : List UInt8) (i : Nat) (h : (hkey key).length ≤ i) : hbyte key i = 0 := by unfold hbyte; rw [List.getElem?_eq_none h]; rfl

/-- the pads' cells, while they are written -/
def hcell (key : List UInt8) (x : UInt8) (k j : Nat) : UInt8 := if j < k then hbyte key j ^^^ x else 0
theorem hcell_put (key : List UInt8) (x : UInt8) (k j : Nat) : (if j = k then hbyte key k ^^^ x else hcell key x k j) = hcell key x (k + 1) j := by
  unfold hcell
  by_cases h : j = k
  · subst h
    rw [if_pos rfl, if_pos (by omega)]
  · rw [if_neg h]
    by_cases h2 : j < k
    · rw [if_pos h2, if_pos (by omega)]
    · rw [if_neg h2, if_neg (by omega)]
theorem hcell_all (key : List UInt8) (x : UInt8) : (List.range 64).map (hcell key x 64) = hpad key x := by
  unfold hpad
  apply List.map_congr_left
  intro j hj
  unfold hcell
  rw [if_pos (List.mem_range.1 hj)]
theorem hblk_snoc (key : List UInt8) (x : UInt8) (k : Nat) : (List.range (k + 1)).map (fun i => hbyte key i ^^^ x) = (List.range k).map (fun i => hbyte key i ^^^ x) ++ [hbyte key k ^^^ x] := by
  rw [List.range_succ, List.map_append]
  rfl

/-- a key and the same with noughts behind it, and a long key and its sum -/
theorem hbyte_noughts (key : List UInt8) (n : Nat) (h : key.length + n ≤ 64) : hbyte (key ++ List.replicate n 0) = hbyte key := by
  funext i
  unfold hbyte hkey
  rw [if_neg (by simp; omega), if_neg (by omega)]
  by_cases hi : i < key.length
  · rw [List.getElem?_append_left hi]
  · rw [List.getElem?_append_right (by omega), List.getElem?_eq_none (l := key) (by omega)]
    by_cases h2 : i - key.length < n
    · rw [List.getElem?_replicate, if_pos h2]; rfl
    · rw [List.getElem?_eq_none (by simp; omega)]
theorem hbyte_long (key : List UInt8) (h : 64 < key.length) : hbyte (shaSum key) = hbyte key := by
  funext i
  unfold hbyte hkey
  rw [if_neg (by rw [shaSum_len]; omega), if_pos h]
theorem htag_congr {k1 k2 : List UInt8} (h : hbyte k1 = hbyte k2) (b : List UInt8) : htag k1 b = htag k2 b := by
  unfold htag hpad
  rw [h]

end Go.Proofs.YtjnbdeopoohnmaaGreatDoor
/- Rows of 32-bit words that grow by append. No function of the program stands here. -/
namespace Go.Proofs.YtjnbdeopoohnmaaGreatDoor
open Go.RowKit

def uv (x : UInt32) : Value := .int .u32 (wn x)
def Us (w : World) (v : Value) (l : List UInt32) : Prop := Rd w 1 v l.length (l.map uv)
def Ou (w : World) (B : Nat) (v : Value) (l : List UInt32) : Prop := w.ownsRow B 114 1 v l.length (l.map uv)
theorem elU : ElTy Tryz.prog 153 114 (.int .u32 0) 1 4 := ⟨Tryz.underlying153, info_parts (by kernel_rfl), rfl, by decide⟩

theorem uv_one (l : List UInt32) : ∀ u ∈ l.map uv, u.oneCell' = true := by
  intro u hu
  obtain ⟨x, _, rfl⟩ := List.mem_map.1 hu
  rfl
section
variable {w w' : World} {B : Nat} {v : Value} {l : List UInt32}
theorem Ou.us (h : Ou w B v l) : Us w v l := Rd.of_own h
theorem Us.below (h : Us w v l) (hb : Below w.heap.size w w') : Us w' v l := Rd.below h hb
theorem Us.alloc (h : Us w v l) (o : Obj) : Us (w.alloc o) v l := Rd.alloc h o
theorem Us.drew (h : Us w v l) : Us w.drew v l := Rd.drew h
theorem Ou.below (h : Ou w B v l) (hb : Below w.heap.size w w') : Ou w' B v l := by
  refine World.ownsRow.kept (row := none) h ⟨hb.os, hb.tape, hb.output, hb.size, fun k hk _ => hb.block k hk⟩ ?_
  cases hv : v.ownBlock <;> simp
theorem Ou.drew (h : Ou w B v l) : Ou w.drew B v l := h.below (Below.refl _ _).drew
theorem Ou.mono {B' : Nat} (h : Ou w B v l) (hB : B' ≤ B) : Ou w B' v l := by
  refine ⟨h.1, ?_⟩
  rcases h.2 with h2 | ⟨g, c, cur, h1, h2, r⟩
  · exact .inl h2
  · exact .inr ⟨g, c, cur, h1, by omega, r⟩
theorem Ou.nil (w : World) (B : Nat) : Ou w B (.slice none 0 0) [] := World.ownsRow_nil w B 114 1
theorem Us.shape (h : Us w v l) : ∃ a c, v = .slice a l.length c := by
  obtain ⟨_, a, c, h, _⟩ := h
  exact ⟨a, c, h⟩
theorem Ou.lt (h : Ou w B v l) : ∀ k, v.ownBlock = some k → B ≤ k ∧ k < w.heap.size := World.ownsRow.lt h
theorem Us.only {F : Nat → Prop} (h : Us w v l) (ho : Only F w w') (hd : ∀ k, v.ownBlock = some k → ¬ F k) : Us w' v l := Rd.only h ho hd

theorem ou_lit (w : World) (cs : Array Value) (l : List UInt32) (n : Nat) (hl : l.length = n) (hn : n ≤ maxLen) (hc : cs.toList = l.map uv) : Ou (w.alloc (.cells cs 114)) w.heap.size (.slice (some ⟨w.heap.size, 0, none⟩) n n) l := by
  subst hl
  refine ⟨by simp, .inr ⟨w.heap.size, l.length, cs, rfl, Nat.le_refl _, heap_alloc_new w _, Nat.le_refl _, hn, ?_, ?_⟩⟩
  · rw [← Array.length_toList, hc]; simp
  · rw [hc, List.take_of_length_le (by simp)]

theorem Us.open_n (h : Us w v l) (n : Nat) (hn : l.length = n) :
    ∃ a c, ∃ adr : Nat → Addr, v = .slice a n c ∧ n ≤ c ∧ c ≤ 9223372036854775807 ∧
      (∀ (W : World) (i : Nat), i < n → (Instr.indexAt 153 (.slice a n c) (.int .i64 (i : Int))).run Tryz.prog W = .ok (.pointer (some (adr i))) W) ∧
      (∀ i, i < n → (adr i).block < w.heap.size) ∧
      (∀ i, i < n → w.cell? (adr i) = some (.int .u32 (wn (l[i]?.getD 0)))) := by
  subst hn
  obtain ⟨a, c, adr, h1, h2, h3, h4, h5, h6, h7⟩ := Rd.open_ elU h
  refine ⟨a, c, adr, h1, h2, h3, fun W i hi => by have := h5 W i (by omega) (by omega); simpa using this, h6, fun i hi => ?_⟩
  have := h7 i hi 0 (by omega)
  rw [Addr.add_zero'] at this
  rw [this]
  simp [hi, uv]
end

section
variable {w : World} {ops : Array Oper} {rest : List Oper} {o : Oper} {a : Act} {Q : Exit → Act → World → Prop} {base : Nat} {v : Value} {l : List UInt32}

theorem wpList_append_u32 (hown : Ou w base v l) (x : UInt32) (h63 : l.length < 1000000) (hbase : base ≤ w.heap.size)
    (h : ∀ v' w', Ou w' base v' (l ++ [x]) → Below base w w' → wpList Tryz.prog ops Q rest (a.put o.dst v') w')
    (so xo : Operand) (hgd : o.guard = none) (ho : o.op = .call { callee := .builtin .append, args := #[so, xo], argTypes := #[153, 153] })
    (u : Value) (hs : a.eval so = v) (hx : a.eval xo = .slice (some ⟨w.heap.size, 0, none⟩) 1 1)
    (hu : u = uv x) : wpList Tryz.prog ops Q (o :: rest) a (w.alloc (.cells #[u] 114)) := by
  refine wpList_append_one hgd so xo 153 ho elU base v l.length (l.map uv) u hs hown hx (by rw [hu]; rfl) (by simp [maxLen]; omega) (by omega) hbase ?_
  intro v' w' h1 h2 h3
  refine h v' w' ?_ h3
  subst hu
  simpa [Ou] using h1

theorem wpList_append_u32s (hown : Ou w base v l) {y : Value} {m : List UInt32} (hrd : Us w y m) (h63 : l.length + m.length < 1000000) (hbase : base ≤ w.heap.size)
    (h : ∀ v' w', Ou w' base v' (l ++ m) → Below base w w' → wpList Tryz.prog ops Q rest (a.put o.dst v') w')
    (so xo : Operand) (hgd : o.guard = none) (ho : o.op = .call { callee := .builtin .append, args := #[so, xo], argTypes := #[153, 153] })
    (hs : a.eval so = v) (hx : a.eval xo = y) : wpList Tryz.prog ops Q (o :: rest) a w := by
  refine wpList_append_rd hgd so xo 153 ho elU base v l.length (l.map uv) y m.length (m.map uv) hs hown hx hrd (uv_one m) (by simp [maxLen]; omega) (by omega) hbase ?_
  intro v' w' h1 h2 h3 h4
  exact h v' w' (by simpa [Ou] using h1) h3

/-- in a region that draws its order -/
theorem step_append_u32 {K : Act → World → Prop} {F : Prop} (hown : Ou w base v l) (x : UInt32) (h63 : l.length < 1000000) (hbase : base ≤ w.heap.size)
    (h : ∀ v' w', Ou w' base v' (l ++ [x]) → Below base w w' → K (a.put o.dst v') w')
    (so xo : Operand) (hgd : o.guard = none) (ho : o.op = .call { callee := .builtin .append, args := #[so, xo], argTypes := #[153, 153] })
    (u : Value) (hs : a.eval so = v) (hx : a.eval xo = .slice (some ⟨w.heap.size, 0, none⟩) 1 1)
    (hu : u = uv x) : if Region.wanted o (yielded ops a.tmps) = true then Oper.wp Tryz.prog o a (w.alloc (.cells #[u] 114)) K Q else F := by
  have hw : Region.wanted o (yielded ops a.tmps) = true := by simp [Region.wanted, hgd]
  rw [if_pos hw]
  have hx1 := ou_lit w #[uv x] [x] 1 rfl (by decide) rfl
  subst hu
  have hba : Below w.heap.size w (w.alloc (.cells #[uv x] 114)) := (Below.refl _ _).alloc (Nat.le_refl _) _
  have ho1 : Ou (w.alloc (.cells #[uv x] 114)) base v l := hown.below hba
  refine wp_append_mv so xo 153 ho elU base v l.length (l.map uv) _ 1 [uv x] hs ho1 hx hx1.us (uv_one [x]) (by simp [maxLen]; omega) (by omega) (by have := hba.size; omega) ?_
  intro v' w' h1 h2 h3
  refine h v' w' (by simpa [Ou] using h1) ((hba.mono hbase).trans ((Below.refl _ _).grown h2 (by have := hba.size; omega) fun k hk => (ho1.lt k hk).1))
end

end Go.Proofs.YtjnbdeopoohnmaaGreatDoor
