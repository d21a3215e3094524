/- Layer 8 (hmac): the walks of pads, Tag and Derive. -/
import Derived.Test.YtmhgdddnjnichaaDoorShaW
import Derived.Test.YtmhgdddnjnichaaDoorBase
import Derived.Test.YtmhgdddnjnichaaDoorShaQ
import Derived.Deep.RegionLaw
import Derived.Deep.DeepCutAuto
set_option linter.unusedSimpArgs false
namespace Go.Proofs.YtmhgdddnjnichaaDoor
open Go.RowKit Go.Sort

section
variable {P : Program} {t e : TypeId} {bytes : Nat} {w : World}
theorem run_make_rowb (E : ElTy P t e (.int .u8 0) 1 bytes) (n c : Nat) (hnc : n ≤ c) (b2 : bytes * c ≤ 281474976710656) (b3 : c ≤ maxLen) (w : World) :
    (Instr.makeSlice t (.int .i64 (n : Int)) (.int .i64 (c : Int))).run P w = .ok (.slice (some ⟨w.heap.size, 0, none⟩) n c) (w.alloc (.cells (rowb c fun _ => 0) e)) := by
  obtain ⟨h1, ⟨i, hi, hz, hs, hb⟩, _⟩ := E
  have h63 : (c : Int) ≤ 9223372036854775807 := by simp only [maxLen] at b3; omega
  have hb' : (i.bytes : Int) * (c : Int) ≤ 281474976710656 := by
    have h : ((i.bytes * c : Nat) : Int) ≤ 281474976710656 := by rw [hb]; omega
    rwa [Int.natCast_mul] at h
  have hrun := run_make (P := P) w t e i _ h1 hi hz .i64 .i64 n c (by omega) (by omega) hb' h63
  rw [hs] at hrun
  simpa only [Int.toNat_natCast, madeCells_rowb] using hrun
end

/-- two rows of 64 bytes that the call has made -/
structure PD (w W : World) (gi go : Nat) (fi fo : Nat → UInt8) : Prop where
  ri : W.heap[gi]? = some (.cells (rowb 64 fi) 5 (0, 0))
  ro : W.heap[go]? = some (.cells (rowb 64 fo) 5 (0, 0))
  bel : Below w.heap.size w W
  li : w.heap.size ≤ gi
  lo : w.heap.size ≤ go
  ne : gi ≠ go
theorem PD.set {w W : World} {gi go : Nat} {fi fo : Nat → UInt8} (h : PD w W gi go fi fo) (k : Nat) (x y : UInt8) :
    PD w ((W.setCell ⟨gi, k, none⟩ (bv x)).setCell ⟨go, k, none⟩ (bv y)) gi go (fun j => if j = k then x else fi j) (fun j => if j = k then y else fo j) := by
  have o1 := set_only W gi k (bv x)
  have o2 := set_only (W.setCell ⟨gi, k, none⟩ (bv x)) go k (bv y)
  have r1 := row_setCell h.ri k (bv x)
  have r2 := (o1.block go (heap_lt h.ro) (fun e => h.ne e.symm)).trans h.ro
  refine ⟨?_, ?_, ?_, h.li, h.lo, h.ne⟩
  · rw [o2.block gi (heap_lt r1) h.ne, r1, rowb_set]
  · rw [row_setCell r2, rowb_set]
  · exact (h.bel.trans (o1.below (fun k hk => by subst hk; exact h.li) h.bel.size)).trans (o2.below (fun k hk => by subst hk; exact h.lo) (by have := h.bel.size; have := o1.size; omega))

theorem hcell_0 (key : List UInt8) (x : UInt8) : hcell key x 0 = fun _ => 0 := by
  funext j
  unfold hcell
  rw [if_neg (by omega)]
theorem pd_new (w : World) : PD w ((w.alloc (.cells (rowb 64 fun _ => 0) 5)).alloc (.cells (rowb 64 fun _ => 0) 5)).drew w.heap.size (w.heap.size + 1) (fun _ => 0) (fun _ => 0) ∧
    PD w ((w.alloc (.cells (rowb 64 fun _ => 0) 5)).alloc (.cells (rowb 64 fun _ => 0) 5)).drew (w.heap.size + 1) w.heap.size (fun _ => 0) (fun _ => 0) := by
  have r1 : ((w.alloc (.cells (rowb 64 fun _ => 0) 5)).alloc (.cells (rowb 64 fun _ => 0) 5)).drew.heap[w.heap.size]? = some (.cells (rowb 64 fun _ => 0) 5 (0, 0)) := by
    show ((w.alloc _).alloc _).heap[_]? = _
    rw [alloc_get, if_neg (by simp), alloc_get, if_pos rfl]
  have r2 : ((w.alloc (.cells (rowb 64 fun _ => 0) 5)).alloc (.cells (rowb 64 fun _ => 0) 5)).drew.heap[w.heap.size + 1]? = some (.cells (rowb 64 fun _ => 0) 5 (0, 0)) := by
    show ((w.alloc _).alloc _).heap[_]? = _
    rw [alloc_get, if_pos (by simp)]
  have b : Below w.heap.size w ((w.alloc (.cells (rowb 64 fun _ => 0) 5)).alloc (.cells (rowb 64 fun _ => 0) 5)).drew := (((Below.refl _ _).alloc (Nat.le_refl _) _).alloc (by simp) _).drew
  exact ⟨⟨r1, r2, b, by omega, by omega, by omega⟩, ⟨r2, r1, b, by omega, by omega, by omega⟩⟩

set_option maxHeartbeats 1600000 in
theorem pads_any (v : Value) (key : List UInt8) (hlen : key.length < 4294967296) (w : World) (hv : Bs w v key) (hT : Tabbed w) :
    Calls Tryd.prog 67 #[v] w fun e w' => ∃ gi go, e = .returned (.tuple #[.slice (some ⟨gi, 0, none⟩) 64 64, .slice (some ⟨go, 0, none⟩) 64 64]) ∧ PD w w' gi go (hcell key 54 64) (hcell key 92 64) := by
  obtain ⟨a, c, rfl⟩ := hv.shape
  have HV := Lib.hid hv
  have HT := Lib.hid hT
  clear hv hT
  go_enter Tryd.func67, Tryd.ntmps67
  go_upto_if 8 with fail
  go_cut [0] (fun s0 wx => Hid (Bs wx s0 (hkey key)) ∧ Hid (Below w.heap.size w wx))
  case first =>
    by_cases hk : 64 < key.length
    · have e1 : (64 : Int) < (key.length : Int) := by omega
      go_wp2_with (go_at_call 19; refine (sha_sum _ key hlen _ HV.out HT.out).mono ?_; rintro e w1 ⟨v1, rfl, ho1, hb1⟩; have HO1 := Lib.hid ho1; have HB1 := Lib.hid hb1; clear ho1 hb1)
      go_meet
      case rel => exact ⟨Lib.hid (by unfold hkey; rw [if_pos hk]; exact HO1.out.bs), HB1⟩
    · have e1 : ¬ (64 : Int) < (key.length : Int) := by omega
      go_wp2
      go_meet
      case rel => exact ⟨Lib.hid (by unfold hkey; rw [if_neg hk]; exact HV.out), Lib.hid (Below.refl _ _)⟩
  case rest =>
    obtain ⟨hk0, hb0⟩ := hcut
    obtain ⟨W0, hW0⟩ : ∃ W, W = wc := ⟨_, rfl⟩
    subst hW0
    obtain ⟨a0, c0, adr, rfl, -, -, hi, hlt, hc⟩ := Bs.open_ elB hk0.out
    obtain ⟨n, hn⟩ : ∃ n, (hkey key).length = n := ⟨_, rfl⟩
    have hn64 : n ≤ 64 := by rw [← hn]; exact hkey_len key
    rw [hn] at hi hlt
    have HI := Lib.hid hi
    have HC : Hid (∀ W, Below W0.heap.size W0 W → ∀ j y, (hkey key)[j]? = some y → W.cell? (adr j) = some (.int .u8 (y.toNat : Int))) := by
      intro W hW j y hy
      rw [hW.cell (hlt j (by rw [← hn]; exact (List.getElem?_eq_some_iff.1 hy).1))]
      exact hc j y hy
    rw [hn]
    have HN := Lib.hid hn
    have BX := b8_xor
    clear hi hlt hc hk0 hn HV HT
    go_upto_region 3 with fail
    go_cut [2, 3] (fun s2 s3 wx => ∃ gi go, s2 = .slice (some ⟨gi, 0, none⟩) 64 64 ∧ s3 = .slice (some ⟨go, 0, none⟩) 64 64 ∧ Hid (PD W0 wx gi go (hcell key 54 0) (hcell key 92 0)))
    case first =>
      have hmk : ∀ W : World, (Instr.makeSlice 22 (.int .i64 64) (.int .i64 64)).run Tryd.prog W = .ok (.slice (some ⟨W.heap.size, 0, none⟩) 64 64) (W.alloc (.cells (rowb 64 fun _ => 0) 5)) := fun W => run_make_rowb elB 64 64 (Nat.le_refl _) (by decide) (by decide) W
      go_region
      · go_wp2
        go_meet
        case rel => exact ⟨_, _, rfl, rfl, Lib.hid (by rw [hcell_0, hcell_0]; exact (pd_new W0).1)⟩
      · go_wp2
        go_meet
        case rel => exact ⟨_, _, rfl, rfl, Lib.hid (by rw [hcell_0, hcell_0]; exact (pd_new W0).2)⟩
    case rest =>
      obtain ⟨gi, go, rfl, rfl, hp⟩ := hcut
      go_wp2_with fail
      go_loopw [13] (fun vi wr => ∃ k : Nat, k ≤ 64 ∧ vi = .int .i64 k ∧ Hid (PD W0 wr gi go (hcell key 54 k) (hcell key 92 k))) (fun vi _ => 64 - (intOf vi).toNat)
      case atStart => exact ⟨0, by omega, rfl, hp⟩
      case round =>
        obtain ⟨k, hk, rfl, hp⟩ := hrel
        by_cases hlt : k < 64
        · have e1 : (k : Int) < 64 := by omega
          have hne : gi ≠ go := hp.out.ne
          have hne2 : go ≠ gi := fun e => hne e.symm
          obtain ⟨z1, hz1⟩ : ∃ z, wr.cell? ⟨gi, k, none⟩ = some z := ⟨_, by rw [cell_of_row wr _ _ _ _ _ hp.out.ri, rowb_get _ hlt]⟩
          obtain ⟨z2, hz2⟩ : ∃ z, wr.cell? ⟨go, k, none⟩ = some z := ⟨_, by rw [cell_of_row wr _ _ _ _ _ hp.out.ro, rowb_get _ hlt]⟩
          have hf1 := row_free hp.out.ri k
          have hf2 := row_free hp.out.ro k
          by_cases hin : k < n
          · have e2 : (k : Int) < (n : Int) := by omega
            have X := fun W => HI.out W k (by omega) (by omega)
            rw [Int.toNat_natCast] at X
            obtain ⟨y, hy⟩ : ∃ y, (hkey key)[k]? = some y := ⟨_, List.getElem?_eq_getElem (by rw [HN.out]; exact hin)⟩
            have cy := HC.out wr hp.out.bel k y hy
            have HY := Lib.hid hy
            have B54 : bits BinOp.xor IntKind.u8 (y.toNat : Int) 54 = (((y ^^^ 54 : UInt8).toNat : Nat) : Int) := b8_xor y 54
            have B92 : bits BinOp.xor IntKind.u8 (y.toNat : Int) 92 = (((y ^^^ 92 : UInt8).toNat : Nat) : Int) := b8_xor y 92
            clear hy BX
            go_wp2
            go_roundw
            case rel =>
              refine ⟨k + 1, by omega, by go_num, Lib.hid ?_⟩
              have h1 := hp.out.set k (hbyte key k ^^^ 54) (hbyte key k ^^^ 92)
              simp only [hcell_put] at h1
              rw [hbyte_in key k y HY.out] at h1
              exact h1
            case measure => simp [intOf]; omega
          · have e2 : ¬ (k : Int) < (n : Int) := by omega
            clear BX
            have B54 : bits BinOp.xor IntKind.u8 0 54 = 54 := b8_xor 0 54
            have B92 : bits BinOp.xor IntKind.u8 0 92 = 92 := b8_xor 0 92
            go_wp2
            go_roundw
            case rel =>
              refine ⟨k + 1, by omega, by go_num, Lib.hid ?_⟩
              have h1 := hp.out.set k (hbyte key k ^^^ 54) (hbyte key k ^^^ 92)
              simp only [hcell_put] at h1
              rw [hbyte_out key k (by rw [HN.out]; omega), UInt8.zero_xor, UInt8.zero_xor] at h1
              exact h1
            case measure => simp [intOf]; omega
        · have e1 : ¬ (k : Int) < 64 := by omega
          obtain rfl : k = 64 := by omega
          go_wp2
          go_ret2
          have h1 := hp.out
          have hs := hb0.out.size
          exact ⟨_, _, rfl, ⟨h1.ri, h1.ro, hb0.out.trans (h1.bel.mono hs), by have := h1.li; omega, by have := h1.lo; omega, h1.ne⟩⟩

end Go.Proofs.YtmhgdddnjnichaaDoor
