/- Hm2: Hm, Hm2 as one text. -/
import Derived.Test.YtjnbdeopoohnmaaGreatDoorShaW
import Derived.Test.YtjnbdeopoohnmaaGreatDoorBase
import Derived.Test.YtjnbdeopoohnmaaGreatDoorShaQ
import Derived.Test.YtjnbdeopoohnmaaGreatDoorShaL
import Derived.Deep.RegionLaw
import Derived.Deep.DeepCutAuto
/- Layer 8 (hmac): the walks of pads, Tag and Derive. -/
set_option linter.unusedSimpArgs false
namespace Go.Proofs.YtjnbdeopoohnmaaGreatDoor
open Go.RowKit Go.Sort

section
variable {P : Program} {t e : TypeId} {bytes : Nat} {w : World}
theorem run_make_rowb (E : ElTy P t e (.int .u8 0) 1 bytes) (n c : Nat) (hnc : n ≤ c) (b2 : bytes * c ≤ 281474976710656) (b3 : c ≤ maxLen) (w : World) :
    (Instr.makeSlice t (.int .i64 (n : Int)) (.int .i64 (c : Int))).run P w = .ok (.slice (some ⟨w.heap.size, 0, none⟩) n c) (w.alloc (.cells (rowb c fun _ => 0) e)) := by
  obtain ⟨h1, ⟨i, hi, hz, hs, hb⟩, _⟩ := E
  have h63 : (c : Int) ≤ 9223372036854775807 := by simp only [maxLen] at b3; omega
  have hb' : (i.bytes : Int) * (c : Int) ≤ 281474976710656 := by
    have h : ((i.bytes * c : Nat) : Int) ≤ 281474976710656 := by rw [hb]; omega
    rwa [Int.natCast_mul] at h
  have hrun := run_make (P := P) w t e i _ h1 hi hz .i64 .i64 n c (by omega) (by omega) hb' h63
  rw [hs] at hrun
  simpa only [Int.toNat_natCast, madeCells_rowb] using hrun
end

/-- two rows of 64 bytes that the call has made -/
structure PD (w W : World) (gi go : Nat) (fi fo : Nat → UInt8) : Prop where
  ri : W.heap[gi]? = some (.cells (rowb 64 fi) 5 (0, 0))
  ro : W.heap[go]? = some (.cells (rowb 64 fo) 5 (0, 0))
  bel : Below w.heap.size w W
  li : w.heap.size ≤ gi
  lo : w.heap.size ≤ go
  ne : gi ≠ go
theorem PD.set {w W : World} {gi go : Nat} {fi fo : Nat → UInt8} (h : PD w W gi go fi fo) (k : Nat) (x y : UInt8) :
    PD w ((W.setCell ⟨gi, k, none⟩ (bv x)).setCell ⟨go, k, none⟩ (bv y)) gi go (fun j => if j = k then x else fi j) (fun j => if j = k then y else fo j) := by
  have o1 := set_only W gi k (bv x)
  have o2 := set_only (W.setCell ⟨gi, k, none⟩ (bv x)) go k (bv y)
  have r1 := row_setCell h.ri k (bv x)
  have r2 := (o1.block go (heap_lt h.ro) (fun e => h.ne e.symm)).trans h.ro
  refine ⟨?_, ?_, ?_, h.li, h.lo, h.ne⟩
  · rw [o2.block gi (heap_lt r1) h.ne, r1, rowb_set]
  · rw [row_setCell r2, rowb_set]
  · exact (h.bel.trans (o1.below (fun k hk => by subst hk; exact h.li) h.bel.size)).trans (o2.below (fun k hk => by subst hk; exact h.lo) (by have := h.bel.size; have := o1.size; omega))

theorem hcell_0 (key : List UInt8) (x : UInt8) : hcell key x 0 = fun _ => 0 := by
  funext j
  unfold hcell
  rw [if_neg (by omega)]
theorem pd_new (w : World) : PD w ((w.alloc (.cells (rowb 64 fun _ => 0) 5)).alloc (.cells (rowb 64 fun _ => 0) 5)).drew w.heap.size (w.heap.size + 1) (fun _ => 0) (fun _ => 0) ∧
    PD w ((w.alloc (.cells (rowb 64 fun _ => 0) 5)).alloc (.cells (rowb 64 fun _ => 0) 5)).drew (w.heap.size + 1) w.heap.size (fun _ => 0) (fun _ => 0) := by
  have r1 : ((w.alloc (.cells (rowb 64 fun _ => 0) 5)).alloc (.cells (rowb 64 fun _ => 0) 5)).drew.heap[w.heap.size]? = some (.cells (rowb 64 fun _ => 0) 5 (0, 0)) := by
    show ((w.alloc _).alloc _).heap[_]? = _
    rw [alloc_get, if_neg (by simp), alloc_get, if_pos rfl]
  have r2 : ((w.alloc (.cells (rowb 64 fun _ => 0) 5)).alloc (.cells (rowb 64 fun _ => 0) 5)).drew.heap[w.heap.size + 1]? = some (.cells (rowb 64 fun _ => 0) 5 (0, 0)) := by
    show ((w.alloc _).alloc _).heap[_]? = _
    rw [alloc_get, if_pos (by simp)]
  have b : Below w.heap.size w ((w.alloc (.cells (rowb 64 fun _ => 0) 5)).alloc (.cells (rowb 64 fun _ => 0) 5)).drew := (((Below.refl _ _).alloc (Nat.le_refl _) _).alloc (by simp) _).drew
  exact ⟨⟨r1, r2, b, by omega, by omega, by omega⟩, ⟨r2, r1, b, by omega, by omega, by omega⟩⟩

set_option maxHeartbeats 1600000 in
theorem pads_anyL (v : Value) (key : List UInt8) (hlen : key.length < 140737488355328) (w : World) (hv : Bs w v key) (hT : Tabbed w) :
    Calls Tryz.prog 108 #[v] w fun e w' => ∃ gi go, e = .returned (.tuple #[.slice (some ⟨gi, 0, none⟩) 64 64, .slice (some ⟨go, 0, none⟩) 64 64]) ∧ PD w w' gi go (hcell key 54 64) (hcell key 92 64) := by
  obtain ⟨a, c, rfl⟩ := hv.shape
  have HV := Lib.hid hv
  have HT := Lib.hid hT
  clear hv hT
  go_enter Tryz.func108, Tryz.ntmps108
  go_upto_if 8 with fail
  go_cut [0] (fun s0 wx => Hid (Bs wx s0 (hkey key)) ∧ Hid (Below w.heap.size w wx))
  case first =>
    by_cases hk : 64 < key.length
    · have e1 : (64 : Int) < (key.length : Int) := by omega
      go_wp2_with (go_at_call 110; refine (sha_sumL _ key (by omega) _ HV.out HT.out).mono ?_; rintro e w1 ⟨v1, rfl, ho1, hb1⟩; have HO1 := Lib.hid ho1; have HB1 := Lib.hid hb1; clear ho1 hb1)
      go_meet
      case rel => exact ⟨Lib.hid (by unfold hkey; rw [if_pos hk]; exact HO1.out.bs), HB1⟩
    · have e1 : ¬ (64 : Int) < (key.length : Int) := by omega
      go_wp2
      go_meet
      case rel => exact ⟨Lib.hid (by unfold hkey; rw [if_neg hk]; exact HV.out), Lib.hid (Below.refl _ _)⟩
  case rest =>
    obtain ⟨hk0, hb0⟩ := hcut
    obtain ⟨W0, hW0⟩ : ∃ W, W = wc := ⟨_, rfl⟩
    subst hW0
    obtain ⟨a0, c0, adr, rfl, -, -, hi, hlt, hc⟩ := Bs.open_ elB hk0.out
    obtain ⟨n, hn⟩ : ∃ n, (hkey key).length = n := ⟨_, rfl⟩
    have hn64 : n ≤ 64 := by rw [← hn]; exact hkey_len key
    rw [hn] at hi hlt
    have HI := Lib.hid hi
    have HC : Hid (∀ W, Below W0.heap.size W0 W → ∀ j y, (hkey key)[j]? = some y → W.cell? (adr j) = some (.int .u8 (y.toNat : Int))) := by
      intro W hW j y hy
      rw [hW.cell (hlt j (by rw [← hn]; exact (List.getElem?_eq_some_iff.1 hy).1))]
      exact hc j y hy
    rw [hn]
    have HN := Lib.hid hn
    have BX := b8_xor
    clear hi hlt hc hk0 hn HV HT
    go_upto_region 3 with fail
    go_cut [2, 3] (fun s2 s3 wx => ∃ gi go, s2 = .slice (some ⟨gi, 0, none⟩) 64 64 ∧ s3 = .slice (some ⟨go, 0, none⟩) 64 64 ∧ Hid (PD W0 wx gi go (hcell key 54 0) (hcell key 92 0)))
    case first =>
      have hmk : ∀ W : World, (Instr.makeSlice 25 (.int .i64 64) (.int .i64 64)).run Tryz.prog W = .ok (.slice (some ⟨W.heap.size, 0, none⟩) 64 64) (W.alloc (.cells (rowb 64 fun _ => 0) 5)) := fun W => run_make_rowb elB 64 64 (Nat.le_refl _) (by decide) (by decide) W
      go_region
      · go_wp2
        go_meet
        case rel => exact ⟨_, _, rfl, rfl, Lib.hid (by rw [hcell_0, hcell_0]; exact (pd_new W0).1)⟩
      · go_wp2
        go_meet
        case rel => exact ⟨_, _, rfl, rfl, Lib.hid (by rw [hcell_0, hcell_0]; exact (pd_new W0).2)⟩
    case rest =>
      obtain ⟨gi, go, rfl, rfl, hp⟩ := hcut
      go_wp2_with fail
      go_loopw [13] (fun vi wr => ∃ k : Nat, k ≤ 64 ∧ vi = .int .i64 k ∧ Hid (PD W0 wr gi go (hcell key 54 k) (hcell key 92 k))) (fun vi _ => 64 - (intOf vi).toNat)
      case atStart => exact ⟨0, by omega, rfl, hp⟩
      case round =>
        obtain ⟨k, hk, rfl, hp⟩ := hrel
        by_cases hlt : k < 64
        · have e1 : (k : Int) < 64 := by omega
          have hne : gi ≠ go := hp.out.ne
          have hne2 : go ≠ gi := fun e => hne e.symm
          obtain ⟨z1, hz1⟩ : ∃ z, wr.cell? ⟨gi, k, none⟩ = some z := ⟨_, by rw [cell_of_row wr _ _ _ _ _ hp.out.ri, rowb_get _ hlt]⟩
          obtain ⟨z2, hz2⟩ : ∃ z, wr.cell? ⟨go, k, none⟩ = some z := ⟨_, by rw [cell_of_row wr _ _ _ _ _ hp.out.ro, rowb_get _ hlt]⟩
          have hf1 := row_free hp.out.ri k
          have hf2 := row_free hp.out.ro k
          by_cases hin : k < n
          · have e2 : (k : Int) < (n : Int) := by omega
            have X := fun W => HI.out W k (by omega) (by omega)
            rw [Int.toNat_natCast] at X
            obtain ⟨y, hy⟩ : ∃ y, (hkey key)[k]? = some y := ⟨_, List.getElem?_eq_getElem (by rw [HN.out]; exact hin)⟩
            have cy := HC.out wr hp.out.bel k y hy
            have HY := Lib.hid hy
            have B54 : bits BinOp.xor IntKind.u8 (y.toNat : Int) 54 = (((y ^^^ 54 : UInt8).toNat : Nat) : Int) := b8_xor y 54
            have B92 : bits BinOp.xor IntKind.u8 (y.toNat : Int) 92 = (((y ^^^ 92 : UInt8).toNat : Nat) : Int) := b8_xor y 92
            clear hy BX
            go_wp2
            go_roundw
            case rel =>
              refine ⟨k + 1, by omega, by go_num, Lib.hid ?_⟩
              have h1 := hp.out.set k (hbyte key k ^^^ 54) (hbyte key k ^^^ 92)
              simp only [hcell_put] at h1
              rw [hbyte_in key k y HY.out] at h1
              exact h1
            case measure => simp [intOf]; omega
          · have e2 : ¬ (k : Int) < (n : Int) := by omega
            clear BX
            have B54 : bits BinOp.xor IntKind.u8 0 54 = 54 := b8_xor 0 54
            have B92 : bits BinOp.xor IntKind.u8 0 92 = 92 := b8_xor 0 92
            go_wp2
            go_roundw
            case rel =>
              refine ⟨k + 1, by omega, by go_num, Lib.hid ?_⟩
              have h1 := hp.out.set k (hbyte key k ^^^ 54) (hbyte key k ^^^ 92)
              simp only [hcell_put] at h1
              rw [hbyte_out key k (by rw [HN.out]; omega), UInt8.zero_xor, UInt8.zero_xor] at h1
              exact h1
            case measure => simp [intOf]; omega
        · have e1 : ¬ (k : Int) < 64 := by omega
          obtain rfl : k = 64 := by omega
          go_wp2
          go_ret2
          have h1 := hp.out
          have hs := hb0.out.size
          exact ⟨_, _, rfl, ⟨h1.ri, h1.ro, hb0.out.trans (h1.bel.mono hs), by have := h1.li; omega, by have := h1.lo; omega, h1.ne⟩⟩

theorem pads_any (v : Value) (key : List UInt8) (hlen : key.length < 4294967296) (w : World) (hv : Bs w v key) (hT : Tabbed w) :
    Calls Tryz.prog 108 #[v] w fun e w' => ∃ gi go, e = .returned (.tuple #[.slice (some ⟨gi, 0, none⟩) 64 64, .slice (some ⟨go, 0, none⟩) 64 64]) ∧ PD w w' gi go (hcell key 54 64) (hcell key 92 64) :=
  pads_anyL v key (by omega) w hv hT

end Go.Proofs.YtjnbdeopoohnmaaGreatDoor
/- Layer 8 (hmac): the walks of Tag and Derive. -/
set_option linter.unusedSimpArgs false
namespace Go.Proofs.YtjnbdeopoohnmaaGreatDoor
open Go.RowKit Go.Sort

set_option maxHeartbeats 1600000 in
theorem tag_anyL (vk vl : Value) (key : List UInt8) (vs : List Value) (ls : List (List UInt8)) (hn : vs.length = ls.length) (w : World) (hk : Bs w vk key) (hl : Rd w 1 vl vs.length vs)
    (hv : ∀ (i : Nat) (v : Value) (l : List UInt8), vs[i]? = some v → ls[i]? = some l → Bs w v l) (hlk : key.length < 140737488355328) (hlen : ls.flatten.length < 4294967000) (hT : Tabbed w) :
    Calls Tryz.prog 91 #[vk, vl] w fun e w' => ∃ v, e = .returned v ∧ Ob w' w.heap.size 5 v (htag key ls.flatten) ∧ Below w.heap.size w w' := by
  obtain ⟨a, c, adr, rfl, h2, h3, h4, h5, h6, h7⟩ := Rd.open_ elBs hl
  obtain ⟨n, hN⟩ : ∃ n, vs.length = n := ⟨_, rfl⟩
  rw [hN] at h2 h4 h5 h6 h7 hn ⊢
  have X : Hid (∀ (W : World) (i : Nat), i < n → (Instr.indexAt 133 (.slice a n c) (.int .i64 (i : Int))).run Tryz.prog W = .ok (.pointer (some (adr i))) W) := fun W i hi => by
    have := h5 W i (by omega) (by omega)
    simpa using this
  have C : Hid (∀ W, Below w.heap.size w W → ∀ (i : Nat) (v : Value), vs[i]? = some v → W.cell? (adr i) = some v) := by
    intro W hW i v hi
    have hlt : i < n := by rw [← hN]; exact (List.getElem?_eq_some_iff.1 hi).1
    have := h7 i hlt 0 (by omega)
    rw [Addr.add_zero'] at this
    rw [hW.cell (h6 i hlt), this]
    simpa using hi
  have HV := Lib.hid hv
  have HLN := Lib.hid hlen
  have HT := Lib.hid hT
  have HNN := Lib.hid hN
  have HN2 := Lib.hid hn
  have HK := Lib.hid hk
  have L1 := Lib.hid (hpad_len key 54)
  clear hl hk h4 h5 h6 h7 hv hlen hT hN hn
  go_enter Tryz.func91, Tryz.ntmps91
  go_wp2_with fail
  refine (pads_anyL vk key hlk w HK.out HT.out).mono ?_
  rintro e w1 ⟨gi, go, rfl, hp⟩
  have hi1 : Hid (Ob w1 w.heap.size 5 (.slice (some ⟨gi, 0, none⟩) 64 64) (hpad key 54 ++ (ls.take 0).flatten)) := by
    have := ob_rowb hp.ri w.heap.size 64 hp.li (Nat.le_refl _) (by decide)
    rw [hcell_all] at this
    exact Lib.hid (by simpa using this)
  have hb1 : Hid (Below w.heap.size w w1) := hp.bel
  have hr1 : Hid (w1.heap[go]? = some (.cells (rowb 64 (hcell key 92 64)) 5 (0, 0))) := hp.ro
  have hgo : Hid (w.heap.size ≤ go) := hp.lo
  have hne : Hid ((Value.slice (some ⟨gi, 0, none⟩) 64 64).ownBlock ≠ some go) := by
    show _ ≠ _
    simp only [Value.ownBlock, ne_eq, Option.some.injEq]
    exact hp.ne
  clear hp
  go_wp2_with fail
  go_loopw [5, 16] (fun v i wr => ∃ k : Nat, k ≤ n ∧ i = .int .i64 k ∧ Hid (Ob wr w.heap.size 5 v (hpad key 54 ++ (ls.take k).flatten)) ∧ Hid (Below w.heap.size w wr) ∧ Hid (wr.heap[go]? = some (.cells (rowb 64 (hcell key 92 64)) 5 (0, 0))) ∧ Hid (v.ownBlock ≠ some go)) (fun _ i _ => n - (intOf i).toNat)
  case atStart => exact ⟨0, by omega, rfl, hi1, hb1, hr1, hne⟩
  case round =>
    obtain ⟨k, hk, rfl, ho, hb, hr, hne2⟩ := hrel
    clear hi1 hb1 hr1 hne
    by_cases hlt : k < n
    · have e1 : (k : Int) < (n : Int) := by omega
      have XK := fun W => X.out W k hlt
      obtain ⟨v, hv⟩ : ∃ v, vs[k]? = some v := ⟨_, List.getElem?_eq_getElem (by rw [HNN.out]; exact hlt)⟩
      obtain ⟨l, hl⟩ : ∃ l, ls[k]? = some l := ⟨_, List.getElem?_eq_getElem (by rw [← HN2.out]; exact hlt)⟩
      have hbl : Bs wr v l := (HV.out k v l hv hl).below hb.out
      have ck := C.out wr hb.out k v hv
      have hsum : (ls.take k).flatten.length + l.length ≤ ls.flatten.length := by
        have h1 : ls.take (k + 1) = ls.take k ++ [l] := by rw [List.take_add_one, hl]; rfl
        have h2 : ls.flatten = (ls.take (k + 1)).flatten ++ (ls.drop (k + 1)).flatten := by rw [← List.flatten_append, List.take_append_drop]
        rw [h2, h1]
        simp
      have hs := hb.out.size
      have HBL := Lib.hid hbl
      have HS := Lib.hid hsum
      have HTK : Hid ((ls.take (k + 1)).flatten = (ls.take k).flatten ++ l) := by
        show _ = _
        rw [List.take_add_one, hl]
        simp
      clear hv hl hbl hsum
      go_wp2_with (at_builtin; go_must (refine wpList_append_bytes_mv ho.out HBL.out elB (by rw [List.length_append]; have := HS.out; have := HLN.out; have := L1.out; omega) (by rw [List.length_append]; have := HS.out; have := HLN.out; have := L1.out; omega) hs ?_ _ _ rfl rfl rfl rfl; intro v4 w4 ho4 hg4 hm4; have HO4 := Lib.hid ho4; have HG4 := Lib.hid hg4; have HM4 := Lib.hid hm4; clear ho4 hg4 hm4))
      go_roundw
      case rel =>
        have hgl := heap_lt hr.out
        refine ⟨k + 1, by omega, by go_num, Lib.hid ?_, Lib.hid (hb.out.trans ((Below.refl _ _).grown HG4.out hs fun j hj => (ho.out.lt j hj).1)), Lib.hid ?_, Lib.hid ?_⟩
        · rw [HTK.out, ← List.append_assoc]
          exact HO4.out
        · rw [HG4.out.block go hgl (fun e => hne2.out e.symm)]
          exact hr.out
        · rcases HM4.out with h | h
          · rw [h]; exact hne2.out
          · rw [h]
            simp only [ne_eq, Option.some.injEq]
            omega
      case measure => simp [intOf]; omega
    · have e1 : ¬ (k : Int) < (n : Int) := by omega
      obtain rfl : k = n := by omega
      have hall : ls.take k = ls := List.take_of_length_le (by rw [← HN2.out]; exact Nat.le_refl _)
      rw [hall] at ho
      have hs := hb.out.size
      go_wp2_with fail
      refine (sha_sum _ _ (by rw [List.length_append, L1.out]; have := HLN.out; omega) _ ho.out.bs (HT.out.below hb.out)).mono ?_
      rintro e w5 ⟨v5, rfl, ho5, hb5⟩
      obtain ⟨a5, c5, rfl⟩ := ho5.shape
      rw [shaSum_len] at ho5 ⊢
      have HO5 := Lib.hid ho5
      have HB5 := Lib.hid (hb.out.trans (hb5.mono hs))
      have HR5 : Hid (w5.heap[go]? = some (.cells (rowb 64 (hcell key 92 64)) 5 (0, 0))) := (hb5.block go (heap_lt hr.out)).trans hr.out
      clear ho5 hb5
      go_wp2_with fail
      have hba : Below w5.heap.size w5 (w5.alloc (.cells #[.slice (some ⟨go, 0, none⟩) 64 64, .slice a5 32 c5] 25)) := (Below.refl _ _).alloc (Nat.le_refl _) _
      have hout : Bs w5 (.slice (some ⟨go, 0, none⟩) 64 64) (hpad key 92) := by
        have := bs_rowb HR5.out 0 64 (by omega) (by decide)
        simp only [Nat.zero_add] at this
        rwa [show (List.range 64).map (fun j => hcell key 92 64 j) = hpad key 92 from hcell_all key 92] at this
      have hfl : [hpad key 92, shaSum (hpad key 54 ++ ls.flatten)].flatten = hpad key 92 ++ shaSum (hpad key 54 ++ ls.flatten) := by simp
      refine (parts_any (.slice (some ⟨w5.heap.size, 0, none⟩) 2 2) [.slice (some ⟨go, 0, none⟩) 64 64, .slice a5 32 c5] [hpad key 92, shaSum (hpad key 54 ++ ls.flatten)] rfl _ (rd_lit w5 25 #[.slice (some ⟨go, 0, none⟩) 64 64, .slice a5 32 c5] 2 rfl (by decide)) ?_ (by rw [hfl, List.length_append, hpad_len, shaSum_len]; omega) (HT.out.below (HB5.out.alloc HB5.out.size _))).mono ?_
      · intro i v l hv hl
        match i with
        | 0 => obtain rfl : _ = v := by simpa using hv
               obtain rfl : hpad key 92 = l := by simpa using hl
               exact hout.below hba
        | 1 => obtain rfl : _ = v := by simpa using hv
               obtain rfl : shaSum _ = l := by simpa using hl
               exact HO5.out.bs.below hba
        | i + 2 => simp at hv
      · rw [hfl]
        rintro e w6 ⟨v6, rfl, ho6, hb6⟩
        have HO6 := Lib.hid ho6
        have HB6 := Lib.hid ((HB5.out.alloc HB5.out.size _).trans (hb6.mono (HB5.out.alloc HB5.out.size _).size))
        clear ho6 hb6 hba hout hfl
        go_wp2
        go_ret
        exact ⟨_, rfl, HO6.out.mono (by have := HB5.out.size; simp; omega), HB6.out⟩

theorem tag_any (vk vl : Value) (key : List UInt8) (vs : List Value) (ls : List (List UInt8)) (hn : vs.length = ls.length) (w : World) (hk : Bs w vk key) (hl : Rd w 1 vl vs.length vs)
    (hv : ∀ (i : Nat) (v : Value) (l : List UInt8), vs[i]? = some v → ls[i]? = some l → Bs w v l) (hlk : key.length < 4294967296) (hlen : ls.flatten.length < 4294967000) (hT : Tabbed w) :
    Calls Tryz.prog 91 #[vk, vl] w fun e w' => ∃ v, e = .returned v ∧ Ob w' w.heap.size 5 v (htag key ls.flatten) ∧ Below w.heap.size w w' :=
  tag_anyL vk vl key vs ls hn w hk hl hv (by omega) hlen hT

set_option maxHeartbeats 1600000 in
theorem derive_anyL (vk vl : Value) (key : List UInt8) (s : ByteArray) (vs : List Value) (ls : List (List UInt8)) (hn : vs.length = ls.length) (w : World) (hk : Bs w vk key) (hl : Rd w 1 vl vs.length vs)
    (hv : ∀ (i : Nat) (v : Value) (l : List UInt8), vs[i]? = some v → ls[i]? = some l → Bs w v l) (hlk : key.length < 140737488355328) (hlen : s.size + ls.flatten.length < 4294960000) (hT : Tabbed w) :
    Calls Tryz.prog 61 #[vk, .string s, vl] w fun e w' => ∃ v, e = .returned v ∧ Ob w' w.heap.size 5 v (hderive key s.data.toList ls.flatten) ∧ Below w.heap.size w w' := by
  obtain ⟨a, c, adr, rfl, h2, h3, h4, h5, h6, h7⟩ := Rd.open_ elBs hl
  obtain ⟨n, hN⟩ : ∃ n, vs.length = n := ⟨_, rfl⟩
  rw [hN] at h2 h4 h5 h6 h7 hn ⊢
  have X : Hid (∀ (W : World) (i : Nat), i < n → (Instr.indexAt 133 (.slice a n c) (.int .i64 (i : Int))).run Tryz.prog W = .ok (.pointer (some (adr i))) W) := fun W i hi => by
    have := h5 W i (by omega) (by omega)
    simpa using this
  have C : Hid (∀ W, Below w.heap.size w W → ∀ (i : Nat) (v : Value), vs[i]? = some v → W.cell? (adr i) = some v) := by
    intro W hW i v hi
    have hlt : i < n := by rw [← hN]; exact (List.getElem?_eq_some_iff.1 hi).1
    have := h7 i hlt 0 (by omega)
    rw [Addr.add_zero'] at this
    rw [hW.cell (h6 i hlt), this]
    simpa using hi
  obtain ⟨v1, w1, hr, ho1, hb1⟩ := run_mark (P := Tryz.prog) (t := 25) (e := 5) w 9 s Tryz.underlying9 Tryz.underlying25 Tryz.underlying5 (by simp [maxLen]; omega)
  have HSZ : Hid (s.data.toList.length = s.size) := by show _ = _; rw [Array.length_toList]; rfl
  have HO1 := Lib.hid ho1
  have HB1 := Lib.hid hb1
  have hs1 := hb1.size
  have HV := Lib.hid hv
  have HLN := Lib.hid hlen
  have HT := Lib.hid hT
  have HNN := Lib.hid hN
  have HN2 := Lib.hid hn
  have HK := Lib.hid hk
  clear hl hk h4 h5 h6 h7 hv hlen hT hN hn ho1 hb1
  go_enter Tryz.func61, Tryz.ntmps61
  go_wp2_with (at_builtin; refine wpList_append_mark_lit HO1.out [0] 1 rfl elB (by have := HLN.out; have := HSZ.out; simp; omega) (by have := HLN.out; have := HSZ.out; simp; omega) hs1 ?_ _ _ rfl rfl _ rfl rfl rfl; intro v2 w2 ho2 hb2; have HO2 := Lib.hid ho2; have HB2 := Lib.hid (HB1.out.trans hb2); clear ho2 hb2)
  have HO2' : Hid (Om w2 w.heap.size 5 v2 (s.data.toList ++ [0] ++ (ls.take 0).flatten)) := by simpa using HO2
  clear HO2 hr hs1
  go_loopw [7, 16] (fun v i wr => ∃ k : Nat, k ≤ n ∧ i = .int .i64 k ∧ Hid (Om wr w.heap.size 5 v (s.data.toList ++ [0] ++ (ls.take k).flatten)) ∧ Hid (Below w.heap.size w wr)) (fun _ i _ => n - (intOf i).toNat)
  case atStart => exact ⟨0, by omega, rfl, HO2', HB2⟩
  case round =>
    obtain ⟨k, hk, rfl, ho, hb⟩ := hrel
    clear HO2' HB2
    by_cases hlt : k < n
    · have e1 : (k : Int) < (n : Int) := by omega
      have XK := fun W => X.out W k hlt
      obtain ⟨v, hv⟩ : ∃ v, vs[k]? = some v := ⟨_, List.getElem?_eq_getElem (by rw [HNN.out]; exact hlt)⟩
      obtain ⟨l, hl⟩ : ∃ l, ls[k]? = some l := ⟨_, List.getElem?_eq_getElem (by rw [← HN2.out]; exact hlt)⟩
      have hbl : Bs wr v l := (HV.out k v l hv hl).below hb.out
      have ck := C.out wr hb.out k v hv
      have hsum : (ls.take k).flatten.length + l.length ≤ ls.flatten.length := by
        have h1 : ls.take (k + 1) = ls.take k ++ [l] := by rw [List.take_add_one, hl]; rfl
        have h2 : ls.flatten = (ls.take (k + 1)).flatten ++ (ls.drop (k + 1)).flatten := by rw [← List.flatten_append, List.take_append_drop]
        rw [h2, h1]
        simp
      have hs := hb.out.size
      have HBL := Lib.hid hbl
      have HS := Lib.hid hsum
      have HTK : Hid ((ls.take (k + 1)).flatten = (ls.take k).flatten ++ l) := by
        show _ = _
        rw [List.take_add_one, hl]
        simp
      clear hv hl hbl hsum
      go_wp2_with (at_builtin; go_must (refine wpList_append_mark ho.out HBL.out elB (by rw [List.length_append, List.length_append]; have := HS.out; have := HLN.out; have := HSZ.out; simp only [List.length_singleton]; omega) (by rw [List.length_append, List.length_append]; have := HS.out; have := HLN.out; have := HSZ.out; simp only [List.length_singleton]; omega) hs ?_ _ _ rfl rfl rfl rfl; intro v4 w4 ho4 hb4; have HO4 := Lib.hid ho4; have HB4 := Lib.hid hb4; clear ho4 hb4))
      go_roundw
      case rel =>
        refine ⟨k + 1, by omega, by go_num, Lib.hid ?_, Lib.hid (hb.out.trans HB4.out)⟩
        rw [HTK.out, ← List.append_assoc]
        exact HO4.out
      case measure => simp [intOf]; omega
    · have e1 : ¬ (k : Int) < (n : Int) := by omega
      obtain rfl : k = n := by omega
      have hall : ls.take k = ls := List.take_of_length_le (by rw [← HN2.out]; exact Nat.le_refl _)
      rw [hall] at ho
      have hs := hb.out.size
      obtain ⟨all, hAll⟩ : ∃ all, s.data.toList ++ [0] ++ ls.flatten = all := ⟨_, rfl⟩
      have hla : all.length < 4294967000 := by rw [← hAll, List.length_append, List.length_append]; have := HLN.out; have := HSZ.out; simp only [List.length_singleton]; omega
      have hfin : hderive key s.data.toList ls.flatten = htag key [all].flatten := by unfold hderive; rw [← hAll]; simp
      rw [hAll] at ho
      have HFIN := Lib.hid hfin
      clear hAll hfin hall
      obtain ⟨av, cv, rfl⟩ := ho.out.bs.shape
      go_wp2_with fail
      have hba : Below wr.heap.size wr (wr.alloc (.cells #[.slice av all.length cv] 25)) := (Below.refl _ _).alloc (Nat.le_refl _) _
      refine (tag_anyL _ (.slice (some ⟨wr.heap.size, 0, none⟩) 1 1) key [.slice av all.length cv] [all] rfl _ (HK.out.below (hb.out.alloc hs _)) (rd_lit wr 25 #[.slice av all.length cv] 1 rfl (by decide)) ?_ hlk (by simpa using hla) (HT.out.below (hb.out.alloc hs _))).mono ?_
      · intro i v l hv hl
        match i with
        | 0 => obtain rfl : _ = v := by simpa using hv
               obtain rfl : all = l := by simpa using hl
               exact ho.out.bs.below hba
        | i + 1 => simp at hv
      · rintro e w6 ⟨v6, rfl, ho6, hb6⟩
        have HO6 := Lib.hid ho6
        have HB6 := Lib.hid ((hb.out.alloc hs _).trans (hb6.mono (hb.out.alloc hs _).size))
        clear ho6 hb6 hba
        go_wp2
        go_ret
        refine ⟨_, rfl, ?_, HB6.out⟩
        rw [HFIN.out]
        exact HO6.out.mono (by simp; omega)

theorem derive_any (vk vl : Value) (key : List UInt8) (s : ByteArray) (vs : List Value) (ls : List (List UInt8)) (hn : vs.length = ls.length) (w : World) (hk : Bs w vk key) (hl : Rd w 1 vl vs.length vs)
    (hv : ∀ (i : Nat) (v : Value) (l : List UInt8), vs[i]? = some v → ls[i]? = some l → Bs w v l) (hlk : key.length < 4294967296) (hlen : s.size + ls.flatten.length < 4294960000) (hT : Tabbed w) :
    Calls Tryz.prog 61 #[vk, .string s, vl] w fun e w' => ∃ v, e = .returned v ∧ Ob w' w.heap.size 5 v (hderive key s.data.toList ls.flatten) ∧ Below w.heap.size w w' :=
  derive_anyL vk vl key s vs ls hn w hk hl hv (by omega) hlen hT

end Go.Proofs.YtjnbdeopoohnmaaGreatDoor
