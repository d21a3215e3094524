/- Frame: Frame, Frame2, Frame3, FrameB as one text. -/
import Derived.Test.YtjnbdeopoohnmaaGreatDoorRows
import Derived.Test.YtjnbdeopoohnmaaGreatDoorBase
import Derived.ProofKit
import Derived.OpenShut
import Derived.ShutString
import Derived.ChangeOld
import Derived.Deep.Slices
import Derived.Deep.Strs
import Derived.Lib.SmallJoins
/- Opening the arguments of a law: integers, bytes. No function of the program stands here. -/
namespace Go.Proofs.YtjnbdeopoohnmaaGreatDoor
open Go.ChangeShapes Go.WideShapes Go.ChangeAt Go.RowKit

theorem frame_own : ownKnob Tryz.prog.godebug = none := by kernel_rfl
theorem frame_laid : laidOutB Tryz.prog = true := by kernel_rfl

section
variable {H : Type} {enc : TypeId × Value → H} {P : Program} {w : World} {b0 : Nat} {r : Reach}

theorem bs_of_row {a : Option Addr} {len cap : Nat} {zs : List Int} (hl : len ≤ cap) (hm : cap ≤ maxLen) (hz : zs.length = cap) {x : Addr} (hx : a = some x)
    (hc : ∀ i, i < zs.length → w.cell? (x.add i) = some (.int .u8 (zs.getD i 0))) (hw : ∀ n ∈ zs, (Lit.int .u8 n).wf = true) :
    ∃ l, l.length = len ∧ Bs w (.slice a len cap) l := by
  have hb : ∀ i, i < cap → ∃ y : UInt8, zs.getD i 0 = (y.toNat : Int) := by
    intro i hi
    have hmem : zs.getD i 0 ∈ zs := by
      rw [List.getD_eq_getElem?_getD, List.getElem?_eq_getElem (by omega)]
      exact List.getElem_mem _
    have := hw _ hmem
    simp [Lit.wf, IntKind.min, IntKind.max, IntKind.signed, IntKind.bits] at this
    refine ⟨UInt8.ofNat (zs.getD i 0).toNat, ?_⟩
    simp
    omega
  refine ⟨(zs.take len).map fun z => UInt8.ofNat z.toNat, by simp; omega, by simp, a, cap, by simp; omega, by simp; omega, hm, by simp [hx], ?_⟩
  by_cases h0 : len = 0
  · left; simp [h0]
  · right
    obtain ⟨b, off, spot⟩ := x
    have h1 := hc 0 (by omega)
    have hspot : spot = none := by simpa [Addr.add] using World.cell?_spot h1
    subst hspot
    refine ⟨b, off, hx, World.block_lt_of_cell? w ⟨b, off + 0, none⟩ (by simpa [Addr.add_lit] using h1), fun j u hu => ?_⟩
    have hj : j < len := by
      have := (List.getElem?_eq_some_iff.1 hu).1
      simp at this
      omega
    have h2 := hc j (by omega)
    rw [Addr.add_lit] at h2
    rw [h2]
    obtain ⟨y, hy⟩ := hb j (by omega)
    rw [← hu]
    have hg : zs[j]? = some (y.toNat : Int) := by
      rw [List.getD_eq_getElem?_getD, List.getElem?_eq_getElem (by omega)] at hy
      rw [List.getElem?_eq_getElem (by omega)]
      simpa using hy
    rw [List.getD_eq_getElem?_getD, hg]
    simp [hj, hg, bv]

theorem view_bytes {t e : TypeId} (ht : P.underlying t = some (.slice e)) (he : P.underlying e = some (.int .u8)) (hcells : P.cellsOf e = 1) {v : Value} {d : DataW H} {ps : List MemPlace}
    (hval : Value.okWide P w r b0 t v) (hd : DataW.Trod enc P w 0 (fun _ => true) true t v d ps) : ∃ l, Bs w v l := by
  obtain ⟨a0, len, cap, rfl⟩ := okWide_slice ht hval
  obtain ⟨fuel, hf⟩ := hd
  rcases open_ints ht he hcells hf with ⟨hcs, _⟩ | ⟨x, l, c, zs, hcs, _, hl, hm, hz, _, hcell, hwz⟩
  · simp [Value.cells] at hcs
    obtain ⟨rfl, rfl, rfl⟩ := hcs
    exact ⟨[], Rd.nil _ _⟩
  · simp [Value.cells] at hcs
    obtain ⟨rfl, rfl, rfl⟩ := hcs
    obtain ⟨l, _, h⟩ := bs_of_row hl hm (by simpa using hz) rfl hcell hwz
    exact ⟨l, h⟩

theorem view_int {t : TypeId} {k : IntKind} (ht : P.underlying t = some (.int k)) {v : Value} {d : DataW H} {ps : List MemPlace}
    (hval : Value.okWide P w r b0 t v) (hd : DataW.Trod enc P w 0 (fun _ => true) true t v d ps) : ∃ n : Int, v = .int k n ∧ (Lit.int k n).wf = true := by
  obtain ⟨n, h, _, _, hw⟩ := open_int ht hval hd
  exact ⟨n, h, hw⟩
end

theorem wf_u64 {n : Int} (h : (Lit.int .u64 n).wf = true) : 0 ≤ n ∧ n < 18446744073709551616 := by
  simp [Lit.wf, IntKind.min, IntKind.max, IntKind.signed, IntKind.bits] at h; omega
theorem wf_i64 {n : Int} (h : (Lit.int .i64 n).wf = true) : -9223372036854775808 ≤ n ∧ n ≤ 9223372036854775807 := by
  simp [Lit.wf, IntKind.min, IntKind.max, IntKind.signed, IntKind.bits] at h; omega
theorem wf_u8 {n : Int} (h : (Lit.int .u8 n).wf = true) : 0 ≤ n ∧ n < 256 := by
  simp [Lit.wf, IntKind.min, IntKind.max, IntKind.signed, IntKind.bits] at h; omega
theorem wf_u16 {n : Int} (h : (Lit.int .u16 n).wf = true) : 0 ≤ n ∧ n < 65536 := by
  simp [Lit.wf, IntKind.min, IntKind.max, IntKind.signed, IntKind.bits] at h; omega
theorem wf_u32 {n : Int} (h : (Lit.int .u32 n).wf = true) : 0 ≤ n ∧ n < 4294967296 := by
  simp [Lit.wf, IntKind.min, IntKind.max, IntKind.signed, IntKind.bits] at h; omega

end Go.Proofs.YtjnbdeopoohnmaaGreatDoor
/- Opening arguments: arrays of integers. No function of the program stands here. -/
namespace Go.Proofs.YtjnbdeopoohnmaaGreatDoor
open Go.ChangeShapes Go.WideShapes Go.ChangeAt Go.RowKit

section
variable {H : Type} {enc : TypeId × Value → H} {P : Program} {w : World} {b0 : Nat} {r : Reach}

theorem view_ints {t e : TypeId} {k : IntKind} {n : Nat} (ht : P.underlying t = some (.array n e)) (he : P.underlying e = some (.int k)) (hce : P.cellsOf e = 1) (hct : P.cellsOf t = n) {v : Value} {d : DataW H} {ps : List MemPlace}
    (hval : Value.okWide P w r b0 t v) (hd : DataW.Trod enc P w 0 (fun _ => true) true t v d ps) : ∃ ns : List Int, ns.length = n ∧ v = .agg (ns.map (Value.int k)).toArray ∧ ∀ x ∈ ns, (Lit.int k x).wf = true := by
  simp only [Value.okWide, ht] at hval
  obtain ⟨cs, rfl, hs, _⟩ := hval
  obtain ⟨fuel, hf⟩ := hd
  obtain ⟨xs, m, _, _, hl, hx, hget⟩ := DataW.trod_array ht hf
  simp only [Value.cells] at hl hget
  rw [hct] at hl hs
  rw [hce] at hget
  have key : ∀ i, i < n → ∃ z, cs.toList[i]? = some (.int k z) ∧ (Lit.int k z).wf = true := by
    intro i hi
    have h1 := hget i hi
    rw [List.getElem?_eq_getElem (by omega)] at h1
    have hi' : i < cs.toList.length := by omega
    have h2 : (List.drop (i * 1) cs.toList).take 1 = [cs.toList[i]] := by
      rw [Nat.mul_one, List.drop_eq_getElem_cons hi']; rfl
    rw [h2] at h1
    obtain ⟨z, hz, _, hw⟩ := DataW.trod_int he h1
    refine ⟨z, ?_, hw⟩
    rw [List.getElem?_eq_getElem hi']
    simpa using hz
  refine ⟨cs.toList.map intOf, by simpa using hl, ?_, ?_⟩
  · congr 1
    apply Array.ext'
    simp only
    apply List.ext_getElem?
    intro i
    by_cases hi : i < n
    · obtain ⟨z, hz, _⟩ := key i hi
      simp only [List.getElem?_map, hz, Option.map_some, intOf]
    · rw [List.getElem?_eq_none (by omega), List.getElem?_eq_none (by simp; simp at hl; omega)]
  · intro x hx
    obtain ⟨c, hc, rfl⟩ := List.mem_map.1 hx
    obtain ⟨i, hi, rfl⟩ := List.getElem_of_mem hc
    obtain ⟨z, hz, hw⟩ := key i (by omega)
    rw [List.getElem?_eq_getElem hi] at hz
    have hz' := Option.some.inj hz
    rw [hz']
    exact hw

theorem view_two {t e : TypeId} {k : IntKind} (ht : P.underlying t = some (.array 2 e)) (he : P.underlying e = some (.int k)) (hce : P.cellsOf e = 1) (hct : P.cellsOf t = 2) {v : Value} {d : DataW H} {ps : List MemPlace}
    (hval : Value.okWide P w r b0 t v) (hd : DataW.Trod enc P w 0 (fun _ => true) true t v d ps) : ∃ xy : Int × Int, v = .agg #[.int k xy.1, .int k xy.2] ∧ (Lit.int k xy.1).wf = true ∧ (Lit.int k xy.2).wf = true := by
  obtain ⟨ns, hl, hv, hw⟩ := view_ints ht he hce hct hval hd
  match ns, hl with
  | [a, b], _ => exact ⟨(a, b), hv, hw a (by simp), hw b (by simp)⟩

theorem view_three {t e : TypeId} {k : IntKind} (ht : P.underlying t = some (.array 3 e)) (he : P.underlying e = some (.int k)) (hce : P.cellsOf e = 1) (hct : P.cellsOf t = 3) {v : Value} {d : DataW H} {ps : List MemPlace}
    (hval : Value.okWide P w r b0 t v) (hd : DataW.Trod enc P w 0 (fun _ => true) true t v d ps) : ∃ x : Int × Int × Int, v = .agg #[.int k x.1, .int k x.2.1, .int k x.2.2] ∧ (Lit.int k x.1).wf = true ∧ (Lit.int k x.2.1).wf = true ∧ (Lit.int k x.2.2).wf = true := by
  obtain ⟨ns, hl, hv, hw⟩ := view_ints ht he hce hct hval hd
  match ns, hl with
  | [a, b, c], _ => exact ⟨(a, b, c), hv, hw a (by simp), hw b (by simp), hw c (by simp)⟩
end

end Go.Proofs.YtjnbdeopoohnmaaGreatDoor
/- Opening arguments: slices of whatever element type, element by element; slices of samples. No function of the program stands here. -/
namespace Go.Proofs.YtjnbdeopoohnmaaGreatDoor
open Go.ChangeShapes Go.WideShapes Go.ChangeAt Go.RowKit Go.Deep

section
variable {H : Type} {enc : TypeId × Value → H} {P : Program} {w : World} {b0 : Nat} {r : Reach}

theorem flat_len {α : Type} (f : Nat → List α) (s : Nat) (n : Nat) (h : ∀ i, i < n → (f i).length = s) : ((List.range n).flatMap f).length = n * s := by
  induction n with
  | zero => simp
  | succ n ih =>
    rw [List.range_succ, List.flatMap_append, List.length_append, ih fun i hi => h i (by omega)]
    simp [h n (by omega), Nat.succ_mul]

theorem flat_get {α : Type} (f : Nat → List α) (s : Nat) (n : Nat) (h : ∀ i, i < n → (f i).length = s) : ∀ i j, i < n → j < s → ((List.range n).flatMap f)[i * s + j]? = (f i)[j]? := by
  induction n with
  | zero => intro i j hi; omega
  | succ n ih =>
    intro i j hi hj
    have hl := flat_len f s n fun i hi => h i (by omega)
    rw [List.range_succ, List.flatMap_append]
    by_cases hin : i < n
    · have hlt : i * s + j < n * s := by
        calc i * s + j < i * s + s := by omega
          _ = (i + 1) * s := by rw [Nat.succ_mul]
          _ ≤ n * s := Nat.mul_le_mul_right _ hin
      rw [List.getElem?_append_left (by omega)]
      exact ih (fun i hi => h i (by omega)) i j hin hj
    · obtain rfl : i = n := by omega
      rw [List.getElem?_append_right (by omega), hl]
      simp

/-- A slice that came in: a row of its elements' cells, each element's cells read as the type says. -/
theorem view_rows {t e : TypeId} {s : Nat} (ht : P.underlying t = some (.slice e)) (hs : P.cellsOf e = s) (h0 : 0 < s) {v : Value} {d : DataW H} {ps : List MemPlace}
    (hval : Value.okWide P w r b0 t v) (hd : DataW.Trod enc P w 0 (fun _ => true) true t v d ps) :
    ∃ (n m : Nat) (C : Nat → List Value), Rd w s v n ((List.range n).flatMap C) ∧ ∀ i, i < n → (C i).length = s ∧ ∃ y, DataW.trod enc P w 0 (fun _ => true) true m e (C i) = some y := by
  obtain ⟨a0, len, cap, rfl⟩ := okWide_slice ht hval
  obtain ⟨fuel, hf⟩ := hd
  rcases open_slice ht hf with ⟨hcs, _⟩ | ⟨a, l, c, m, n, D, Pl, hcs, _, hl, hm, hmm, _, hx⟩
  · simp [Value.cells] at hcs
    obtain ⟨rfl, rfl, rfl⟩ := hcs
    exact ⟨0, 0, fun _ => [], by simpa using Rd.nil w s, fun i hi => by omega⟩
  · simp [Value.cells] at hcs
    obtain ⟨rfl, rfl, rfl⟩ := hcs
    have hml : len ≤ m := by rw [hmm]; split <;> omega
    rw [hs] at hx
    obtain ⟨C, hC⟩ := choose_lt (α := List Value) (p := fun i cs' => w.cells? 0 (a.add (i * s)) s = some cs' ∧ DataW.trod enc P w 0 (fun _ => true) true n e cs' = some (D i, Pl i)) (n := len) (fun i hi => hx i (by omega))
    have hCl : ∀ i, i < len → (C i).length = s := fun i hi => (World.cells?_some (hC i hi).1).2.1
    refine ⟨len, n, C, ?_, fun i hi => ⟨hCl i hi, _, (hC i hi).2⟩⟩
    refine ⟨flat_len C s len hCl, some a, cap, rfl, hl, hm, by simp, ?_⟩
    by_cases hz : len = 0
    · exact .inl hz
    · right
      have hcell : ∀ i k, i < len → k < s → w.cell? (a.add (i * s + k)) = (C i)[k]? := by
        intro i k hi hk
        have := (World.cells?_some (hC i hi).1).2.2 k hk
        rwa [Addr.add_add] at this
      obtain ⟨b, off, spot⟩ := a
      have h00 := hcell 0 0 (by omega) h0
      have hl0 := hCl 0 (by omega)
      rw [List.getElem?_eq_getElem (by omega)] at h00
      have hspot : spot = none := by simpa [Addr.add] using World.cell?_spot h00
      subst hspot
      refine ⟨b, off, rfl, by have := World.block_lt_of_cell? w _ h00; rwa [Addr.add_lit] at this, fun j u hu => ?_⟩
      have hj : j < len * s := by
        have := (List.getElem?_eq_some_iff.1 hu).1
        rwa [flat_len C s len hCl] at this
      have hdiv : j / s < len := by rw [Nat.div_lt_iff_lt_mul h0]; exact hj
      have hmod : j % s < s := Nat.mod_lt _ h0
      have hjj : j = j / s * s + j % s := by rw [Nat.mul_comm]; exact (Nat.div_add_mod j s).symm
      rw [hjj, flat_get C s len hCl _ _ hdiv hmod] at hu
      have := hcell _ _ hdiv hmod
      rw [Addr.add_lit, ← hjj] at this
      rw [this, hu]

/-- A struct of three ints, by its cells. -/
theorem trod_smp {t f : TypeId} {n0 n1 n2 : Field} (ht : P.underlying t = some (.struct #[n0, n1, n2])) (h0 : n0.type = f ∧ n0.offset = 0) (h1 : n1.type = f ∧ n1.offset = 1) (h2 : n2.type = f ∧ n2.offset = 2)
    (hf : P.underlying f = some (.int .i64)) (hc : P.cellsOf f = 1) (hct : P.cellsOf t = 3) {m : Nat} {cs : List Value} {y : DataW H × List MemPlace}
    (h : DataW.trod enc P w 0 (fun _ => true) true m t cs = some y) :
    ∃ s : Smp, cs = s.cells ∧ (Lit.int .i64 s.t).wf = true ∧ (Lit.int .i64 s.x).wf = true ∧ (Lit.int .i64 s.y).wf = true := by
  obtain ⟨y0, y1, y2, n, _, hl, e0, e1, e2⟩ := trod_struct3 ht h
  rw [h0.1, h0.2, hc] at e0
  rw [h1.1, h1.2, hc] at e1
  rw [h2.1, h2.2, hc] at e2
  rw [hct] at hl
  match cs, hl with
  | [a, b, c], _ =>
    obtain ⟨z0, g0, _, k0⟩ := DataW.trod_int hf e0
    obtain ⟨z1, g1, _, k1⟩ := DataW.trod_int hf e1
    obtain ⟨z2, g2, _, k2⟩ := DataW.trod_int hf e2
    simp at g0 g1 g2
    exact ⟨⟨z0, z1, z2⟩, by simp [Smp.cells, g0, g1, g2], k0, k1, k2⟩

theorem view_smps {t e f : TypeId} {n0 n1 n2 : Field} (ht : P.underlying t = some (.slice e)) (he : P.underlying e = some (.struct #[n0, n1, n2])) (h0 : n0.type = f ∧ n0.offset = 0) (h1 : n1.type = f ∧ n1.offset = 1) (h2 : n2.type = f ∧ n2.offset = 2)
    (hf : P.underlying f = some (.int .i64)) (hc : P.cellsOf f = 1) (hct : P.cellsOf e = 3) {v : Value} {d : DataW H} {ps : List MemPlace}
    (hval : Value.okWide P w r b0 t v) (hd : DataW.Trod enc P w 0 (fun _ => true) true t v d ps) :
    ∃ l : List Smp, Ss w v l ∧ ∀ s ∈ l, (Lit.int .i64 s.t).wf = true ∧ (Lit.int .i64 s.x).wf = true ∧ (Lit.int .i64 s.y).wf = true := by
  obtain ⟨n, m, C, hrd, hC⟩ := view_rows ht hct (by omega) hval hd
  have key : ∀ i, i < n → ∃ s : Smp, C i = s.cells ∧ (Lit.int .i64 s.t).wf = true ∧ (Lit.int .i64 s.x).wf = true ∧ (Lit.int .i64 s.y).wf = true := by
    intro i hi
    obtain ⟨_, y, hy⟩ := hC i hi
    exact trod_smp he h0 h1 h2 hf hc hct hy
  haveI : Inhabited Smp := ⟨⟨0, 0, 0⟩⟩
  obtain ⟨S, hS⟩ := choose_lt key
  refine ⟨(List.range n).map S, ?_, ?_⟩
  · have e : (List.range n).flatMap C = scells ((List.range n).map S) := by
      unfold scells
      rw [List.flatMap_map]
      have : ∀ (L : List Nat), (∀ i ∈ L, i < n) → L.flatMap C = L.flatMap fun i => (S i).cells := by
        intro L
        induction L with
        | nil => intro _; rfl
        | cons i L ih =>
          intro h
          simp only [List.flatMap_cons]
          rw [(hS i (h i (by simp))).1, ih fun j hj => h j (by simp [hj])]
      exact this _ fun i hi => by simpa using hi
    unfold Ss
    rw [← e]
    simpa using hrd
  · intro s hs
    obtain ⟨i, hi, rfl⟩ := List.mem_map.1 hs
    exact (hS i (by simpa using hi)).2
end

end Go.Proofs.YtjnbdeopoohnmaaGreatDoor
/- Opening a field of bytes of an argument. -/
namespace Go.Proofs.YtjnbdeopoohnmaaGreatDoor
open Go.ChangeShapes Go.WideShapes Go.ChangeAt Go.RowKit Go.Deep Go.Joins

section
variable {H : Type} {enc : TypeId × Value → H} {P : Program} {w : World} {b0 : Nat} {r : Reach}

theorem bytes_trod {t e : TypeId} (ht : P.underlying t = some (.slice e)) (he : P.underlying e = some (.int .u8)) (hcells : P.cellsOf e = 1) {m : Nat} {cs : List Value} {y : DataW H × List MemPlace}
    (hf : DataW.trod enc P w 0 (fun _ => true) true m t cs = some y) : ∃ v l, cs = [v] ∧ Bs w v l := by
  rcases open_ints ht he hcells hf with ⟨hcs, _⟩ | ⟨x, l, c, zs, hcs, _, hl, hm, hz, _, hcell, hwz⟩
  · exact ⟨_, [], hcs, Rd.nil _ _⟩
  · obtain ⟨l', _, h⟩ := bs_of_row hl hm (by simpa using hz) rfl hcell hwz
    exact ⟨_, l', hcs, h⟩
end

end Go.Proofs.YtjnbdeopoohnmaaGreatDoor
