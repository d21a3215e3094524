/- Layer 7 (sha): Same and Parts. -/
import Derived.Test.YtjnbdeopoohnmaaGreatDoorShaM
set_option linter.unusedSimpArgs false
namespace Go.Proofs.YtjnbdeopoohnmaaGreatDoor
open Go.RowKit Go.Sort

theorem b8_xor (a b : UInt8) : bits BinOp.xor IntKind.u8 (a.toNat : Int) (b.toNat : Int) = ((a ^^^ b).toNat : Int) := by
  rw [u8_xor_nat _ _ a.toNat_lt b.toNat_lt, UInt8.toNat_xor]
theorem b8_or (a b : UInt8) : bits BinOp.or IntKind.u8 (a.toNat : Int) (b.toNat : Int) = ((a ||| b).toNat : Int) := by
  rw [u8_or_nat _ _ a.toNat_lt b.toNat_lt, UInt8.toNat_or]
theorem or_zero8 (a b : UInt8) : a ||| b = 0 ↔ a = 0 ∧ b = 0 := by
  constructor
  · intro h
    have h1 : (a ||| b).toNat = 0 := by rw [h]; rfl
    rw [UInt8.toNat_or, Nat.or_eq_zero_iff] at h1
    exact ⟨UInt8.toNat_inj.1 h1.1, UInt8.toNat_inj.1 h1.2⟩
  · rintro ⟨rfl, rfl⟩; rfl
theorem xor_zero8 (a b : UInt8) : a ^^^ b = 0 ↔ a = b := UInt8.xor_eq_zero_iff

set_option maxHeartbeats 800000 in
theorem shasame_any (va vb : Value) (la lb : List UInt8) (w : World) (ha : Bs w va la) (hb : Bs w vb lb) :
    Calls Tryz.prog 60 #[va, vb] w fun e w' => e = .returned (.bool (la == lb)) ∧ Below w.heap.size w w' := by
  obtain ⟨a, ca, adr, rfl, ha1, ha2, ha3, ha4, ha5⟩ := Bs.open_ elB ha
  obtain ⟨b, cb, bdr, rfl, hb1, hb2, hb3, hb4, hb5⟩ := Bs.open_ elB hb
  clear ha hb
  by_cases hl : la.length = lb.length
  · have hle : (lb.length : Int) ≤ la.length ∧ (la.length : Int) ≤ lb.length := by omega
    have HL := Lib.hid hl
    have hl' : ((la.length : Int) != lb.length) = false := by simp [hl]
    have BXOR := b8_xor
    have BOR := b8_or
    clear hl
    go_enter Tryz.func60, Tryz.ntmps60
    go_wp2
    go_loopw [5, 15] (fun vo i wr => ∃ (k : Nat) (o : UInt8), k ≤ la.length ∧ i = .int .i64 k ∧ vo = .int .u8 (o.toNat : Int) ∧ Hid (o = 0 ↔ la.take k = lb.take k) ∧ Below w.heap.size w wr) (fun _ i _ => la.length - (intOf i).toNat)
    case atStart => exact ⟨0, 0, by omega, rfl, rfl, Lib.hid (by simp), Below.refl _ _⟩
    case round =>
      obtain ⟨k, o, hk, rfl, rfl, ht, hw⟩ := hrel
      by_cases hlt : k < la.length
      · obtain ⟨x, hx⟩ : ∃ x, la[k]? = some x := ⟨_, List.getElem?_eq_getElem hlt⟩
        obtain ⟨y, hy⟩ : ∃ y, lb[k]? = some y := ⟨_, List.getElem?_eq_getElem (by omega)⟩
        have h3 : wr.cell? (adr k) = some (.int .u8 x.toNat) := by rw [hw.cell (ha4 k hlt)]; exact ha5 k x hx
        have h4 : wr.cell? (bdr k) = some (.int .u8 y.toNat) := by rw [hw.cell (hb4 k (by omega))]; exact hb5 k y hy
        have HX := Lib.hid hx
        have HY := Lib.hid hy
        clear ha5 hb5 ha4 hb4 hx hy
        have e1 : (k : Int) < la.length := by omega
        have e2 : (k : Int) < lb.length := by omega
        go_wp2
        go_roundw
        case rel =>
          refine ⟨k + 1, o ||| (x ^^^ y), by omega, by go_num, by rw [← UInt8.toNat_xor, b8_or], Lib.hid ?_, hw⟩
          rw [or_zero8, xor_zero8, ht.out, List.take_add_one, List.take_add_one, HX.out, HY.out]
          constructor
          · rintro ⟨h1, rfl⟩; rw [h1]
          · intro h
            have h5 := List.append_inj h (by rw [List.length_take, List.length_take]; have := HL.out; omega)
            exact ⟨h5.1, by simpa using h5.2⟩
        case measure => simp [intOf]; omega
      · have e1 : ¬ (k : Int) < la.length := by omega
        go_wp2
        go_ret
        refine ⟨ret_bool ?_, hw⟩
        have h1 := ht.out
        rw [List.take_of_length_le (by omega), List.take_of_length_le (by have := HL.out; omega)] at h1
        have h2 : (((o.toNat : Int) == 0) = true) ↔ o = 0 := by
          rw [beq_iff_eq]
          constructor
          · intro h; exact UInt8.toNat_inj.1 (by have : (0 : UInt8).toNat = 0 := rfl; omega)
          · rintro rfl; rfl
        rw [Bool.eq_iff_iff, h2, h1, beq_iff_eq]
  · have hl' : ((la.length : Int) != lb.length) = true := by simp; omega
    go_enter Tryz.func60, Tryz.ntmps60
    go_wp2
    go_ret
    refine ⟨ret_bool ?_, Below.refl _ _⟩
    symm
    exact beq_eq_false_iff_ne.2 fun e => hl (by rw [e])

theorem elBs : ElTy Tryz.prog 133 25 (.slice none 0 0) 1 24 := ⟨Tryz.underlying133, info_parts (by kernel_rfl), rfl, by decide⟩

set_option maxHeartbeats 800000 in
theorem parts_any (y : Value) (vs : List Value) (ls : List (List UInt8)) (hn : vs.length = ls.length) (w : World) (hy : Rd w 1 y vs.length vs)
    (hv : ∀ (i : Nat) (v : Value) (l : List UInt8), vs[i]? = some v → ls[i]? = some l → Bs w v l) (hlen : ls.flatten.length < 4294967296) (hT : Tabbed w) :
    Calls Tryz.prog 109 #[y] w fun e w' => ∃ v, e = .returned v ∧ Ob w' w.heap.size 5 v (shaSum ls.flatten) ∧ Below w.heap.size w w' := by
  obtain ⟨a, c, adr, rfl, h2, h3, h4, h5, h6, h7⟩ := Rd.open_ elBs hy
  obtain ⟨n, hN⟩ : ∃ n, vs.length = n := ⟨_, rfl⟩
  rw [hN] at h2 h4 h5 h6 h7 hn ⊢
  have X : Hid (∀ (W : World) (i : Nat), i < n → (Instr.indexAt 133 (.slice a n c) (.int .i64 (i : Int))).run Tryz.prog W = .ok (.pointer (some (adr i))) W) := fun W i hi => by
    have := h5 W i (by omega) (by omega)
    simpa using this
  have C : Hid (∀ W, Below w.heap.size w W → ∀ (i : Nat) (v : Value), vs[i]? = some v → W.cell? (adr i) = some v) := by
    intro W hW i v hi
    have hlt : i < n := by rw [← hN]; exact (List.getElem?_eq_some_iff.1 hi).1
    have := h7 i hlt 0 (by omega)
    rw [Addr.add_zero'] at this
    rw [hW.cell (h6 i hlt), this]
    simpa using hi
  have HV := Lib.hid hv
  have HLN := Lib.hid hlen
  have HT := Lib.hid hT
  have HNN := Lib.hid hN
  have HN2 := Lib.hid hn
  clear hy h4 h5 h6 h7 hv hlen hT hN hn
  go_enter Tryz.func109, Tryz.ntmps109
  go_wp2_with fail
  go_loopw [3, 8] (fun v i wr => ∃ k : Nat, k ≤ n ∧ i = .int .i64 k ∧ Hid (Ob wr w.heap.size 5 v (ls.take k).flatten) ∧ Hid (Below w.heap.size w wr)) (fun _ i _ => n - (intOf i).toNat)
  case atStart => exact ⟨0, by omega, rfl, Lib.hid (Ob.nil _ _ _), Lib.hid (Below.refl _ _)⟩
  case round =>
    obtain ⟨k, hk, rfl, ho, hb⟩ := hrel
    by_cases hlt : k < n
    · have e1 : (k : Int) < (n : Int) := by omega
      have XK := fun W => X.out W k hlt
      obtain ⟨v, hv⟩ : ∃ v, vs[k]? = some v := ⟨_, List.getElem?_eq_getElem (by rw [HNN.out]; exact hlt)⟩
      obtain ⟨l, hl⟩ : ∃ l, ls[k]? = some l := ⟨_, List.getElem?_eq_getElem (by rw [← HN2.out]; exact hlt)⟩
      have hbl : Bs wr v l := (HV.out k v l hv hl).below hb.out
      have ck := C.out wr hb.out k v hv
      have hsum : (ls.take k).flatten.length + l.length ≤ ls.flatten.length := by
        have h1 : ls.take (k + 1) = ls.take k ++ [l] := by rw [List.take_add_one, hl]; rfl
        have h2 : ls.flatten = (ls.take (k + 1)).flatten ++ (ls.drop (k + 1)).flatten := by rw [← List.flatten_append, List.take_append_drop]
        rw [h2, h1]
        simp
      have hs := hb.out.size
      have HBL := Lib.hid hbl
      have HS := Lib.hid hsum
      have HTK : Hid ((ls.take (k + 1)).flatten = (ls.take k).flatten ++ l) := by
        show _ = _
        rw [List.take_add_one, hl]
        simp
      clear hv hl hbl hsum
      go_wp2_with (at_builtin; go_must (refine wpList_append_bytes ho.out HBL.out elB (by have := HS.out; have := HLN.out; omega) (by have := HS.out; have := HLN.out; omega) hs ?_ _ _ rfl rfl rfl rfl; intro v4 w4 ho4 hg4 hb4 _; have HO4 := Lib.hid ho4; have HB4 := Lib.hid hb4; clear ho4 hb4 hg4))
      go_roundw
      case rel =>
        refine ⟨k + 1, by omega, by go_num, Lib.hid ?_, Lib.hid (hb.out.trans HB4.out)⟩
        rw [HTK.out]
        exact HO4.out
      case measure => simp [intOf]; omega
    · have e1 : ¬ (k : Int) < (n : Int) := by omega
      obtain rfl : k = n := by omega
      have hall : ls.take k = ls := List.take_of_length_le (by rw [← HN2.out]; exact Nat.le_refl _)
      rw [hall] at ho
      have hs := hb.out.size
      go_wp2_with (go_at_call 110; refine (sha_sum _ ls.flatten HLN.out _ ho.out.bs (HT.out.below hb.out)).mono ?_; rintro e w5 ⟨v5, rfl, ho5, hb5⟩; have HO5 := Lib.hid ho5; have HB5 := Lib.hid hb5; clear ho5 hb5)
      go_ret
      exact ⟨_, rfl, HO5.out.mono hs, hb.out.trans (HB5.out.mono hs)⟩

end Go.Proofs.YtjnbdeopoohnmaaGreatDoor
