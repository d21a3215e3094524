/- Walks of layer 2 (crc) and of its reference. -/
import Derived.Test.YticpmkdlnjnfgaaCTable
namespace Go.Proofs.Yticpmkdlnjnfgaa
open Go.RowKit

theorem xor_ones32 (x : Nat) (h : x < 4294967296) : 4294967295 ^^^ x = 4294967295 - x := by
  have h1 := congrArg BitVec.toNat (BitVec.allOnes_xor (x := BitVec.ofNat 32 x))
  rw [BitVec.toNat_xor, BitVec.toNat_not, BitVec.toNat_ofNat, BitVec.toNat_allOnes] at h1
  rw [Nat.mod_eq_of_lt (by omega)] at h1
  exact h1

theorem u32_notn (n : Nat) (h : n < 4294967296) : bits BinOp.xor IntKind.u32 IntKind.u32.max (n : Int) = ((4294967295 - n : Nat) : Int) := by
  rw [show IntKind.u32.max = 4294967295 from by decide, u32_xor _ _ (by omega) (by omega) (by omega) (by omega), show (4294967295 : Int).toNat = 4294967295 from rfl, show (n : Int).toNat = n by omega, xor_ones32 n h]

theorem ctab_lt (i : Nat) (h : i < 16) : ctab i < 4294967296 := citer_lt 4 i (by omega)

set_option maxRecDepth 100000 in
set_option maxHeartbeats 400000 in
theorem more_any (s : Nat) (hs : s < 4294967296) (vb : Value) (l : List UInt8) (w : World) (hb : Bs w vb l) :
    Calls Try.prog 114 #[.int .u32 s, vb] w fun e w' => e = .returned (.int .u32 (cmore s l)) ∧ Below w.heap.size w w' := by
  obtain ⟨a, ca, adr, rfl, ha1, ha2, ha3, ha4, ha5⟩ := Bs.open_ elB hb
  go_enter Try.func114, Try.ntmps114
  go_wp2_with fail
  refine (table_any _).mono ?_
  rintro e w1 ⟨rfl, hb1⟩
  go_wp2_with (with_reducible refine wpList_store_new rfl _ _ rfl rfl rfl (by kernel_rfl) (by simp [tcells_size]) (tcells_one 16) ?_)
  have hn := u32_notn s hs
  have HT : Hid (∀ i, i < 16 → (w1.alloc (.cells (tcells 16) 146)).cell? ⟨w1.heap.size, i, none⟩ = some (.int .u32 (ctab i : Nat))) := by
    intro i hi
    rw [World.cell?_alloc_at _ _ _ _ rfl, tcells_get 16 i hi]
    simp [tcell, hi]
  rw [hn]
  clear hn
  obtain ⟨W, hW⟩ : ∃ W, W = w1.alloc (.cells (tcells 16) 146) := ⟨_, rfl⟩
  have hbW : Below w.heap.size w W := by rw [hW]; exact hb1.alloc hb1.size _
  rw [← hW]
  rw [← hW] at HT
  clear hW
  go_loop [6, 14] (fun c i => ∃ k n : Nat, k ≤ l.length ∧ i = .int .i64 k ∧ c = .int .u32 n ∧ n < 4294967296 ∧ Hid (creg (4294967295 - s) l = creg n (l.drop k))) (fun _ i => l.length - (intOf i).toNat)
  case atStart => exact ⟨0, 4294967295 - s, by omega, rfl, rfl, by omega, rfl⟩
  case round =>
    obtain ⟨k, n, hk, rfl, rfl, hn, hc⟩ := hrel
    by_cases hlt : k < l.length
    · obtain ⟨x, hx⟩ : ∃ x, l[k]? = some x := ⟨_, List.getElem?_eq_getElem hlt⟩
      have h3 : W.cell? (adr k) = some (.int .u8 x.toNat) := by rw [hbW.cell (ha4 k hlt)]; exact ha5 k x hx
      have hstep : l.drop k = x :: l.drop (k + 1) := by rw [List.drop_eq_getElem_cons hlt, (List.getElem?_eq_some_iff.1 hx).2]
      rw [hstep] at hc
      have hc2 : Hid (creg (4294967295 - s) l = creg (cbyte n x.toNat) (l.drop (k + 1))) := hc
      obtain ⟨y, hy⟩ : ∃ y, y = x.toNat := ⟨_, rfl⟩
      have hy256 : y < 256 := by have := x.toNat_lt; omega
      rw [← hy] at h3 hc2
      clear hc hstep hy hx ha5 ha4
      obtain ⟨n1, e1⟩ : ∃ n1, n1 = n ^^^ y := ⟨_, rfl⟩
      have l1 : n1 < 4294967296 := by rw [e1]; exact xor_lt32 hn (by omega)
      obtain ⟨n2, e2⟩ : ∃ n2, n2 = n1 / 16 ^^^ ctab (n1 % 16) := ⟨_, rfl⟩
      have l2 : n2 < 4294967296 := by rw [e2]; exact xor_lt32 (by omega) (ctab_lt _ (by omega))
      obtain ⟨n3, e3⟩ : ∃ n3, n3 = n2 / 16 ^^^ ctab (n2 % 16) := ⟨_, rfl⟩
      have l3 : n3 < 4294967296 := by rw [e3]; exact xor_lt32 (by omega) (ctab_lt _ (by omega))
      have f1 : bits BinOp.xor IntKind.u32 (n : Int) (y : Int) = (n1 : Int) := by
        rw [e1, u32_xor _ _ (by omega) (by omega) (by omega) (by omega)]; simp
      have g1 := u32_and15 n1 l1
      have g2 := u32_and15 n2 l2
      have t1 := HT.out (n1 % 16) (by omega)
      have t2 := HT.out (n2 % 16) (by omega)
      have tl1 := ctab_lt (n1 % 16) (by omega)
      have tl2 := ctab_lt (n2 % 16) (by omega)
      have f2 : bits BinOp.xor IntKind.u32 ((n1 : Int) / 16) (ctab (n1 % 16) : Nat) = (n2 : Int) := by
        rw [e2, u32_xor _ _ (by omega) (by omega) (by omega) (by omega), show ((n1 : Int) / 16).toNat = n1 / 16 by omega]; simp
      have f3 : bits BinOp.xor IntKind.u32 ((n2 : Int) / 16) (ctab (n2 % 16) : Nat) = (n3 : Int) := by
        rw [e3, u32_xor _ _ (by omega) (by omega) (by omega) (by omega), show ((n2 : Int) / 16).toNat = n2 / 16 by omega]; simp
      have hn3 : Hid (n3 = cbyte n y) := by
        show _ = _
        rw [e3, nibble, e2, nibble, e1, cbyte_two]
      clear e1 e2 e3
      go_wp2
      go_round
      case rel => exact ⟨k + 1, n3, by omega, by go_num, rfl, l3, by rw [hn3.out]; exact hc2⟩
      case measure => simp [intOf]; omega
    · have hcr : creg (4294967295 - s) l = n := by
        have h := hc.out
        rw [List.drop_eq_nil_of_le (by omega)] at h
        exact h
      have hn := u32_notn n hn
      have HC := Lib.hid hcr
      have HN := Lib.hid hn
      clear hcr hc hn
      go_wp2
      go_ret
      refine ⟨ret_int ?_, hbW⟩
      unfold cmore
      rw [HC.out]
      first | exact HN.out | exact u32_notn _ (by omega)

theorem sum_any (vb : Value) (l : List UInt8) (w : World) (hb : Bs w vb l) :
    Calls Try.prog 108 #[vb] w fun e w' => e = .returned (.int .u32 (csum l)) ∧ Below w.heap.size w w' := by
  have hm := more_any 0 (by omega) vb l w hb
  go_enter Try.func108, Try.ntmps108
  go_wp2_with fail
  refine hm.mono ?_
  rintro e w1 ⟨rfl, hb1⟩
  go_wp2
  go_ret
  exact ⟨rfl, hb1⟩


theorem cbytes_any (n : Nat) (hn : n < 4294967296) (w : World) :
    Calls Try.prog 107 #[.int .u32 n] w fun e w' => ∃ v, e = .returned v ∧ Ob w' w.heap.size 5 v (cbytes n) ∧ Below w.heap.size w w' := by
  go_enter Try.func107, Try.ntmps107
  go_wp2
  go_ret
  refine ⟨_, rfl, ob_lit w _ _ _ 4 rfl (by simp [maxLen]) ?_, (Below.refl _ _).alloc (Nat.le_refl _) _⟩
  simp [cbytes, bv]
  omega

set_option maxRecDepth 100000 in
set_option maxHeartbeats 400000 in
theorem rcbytes_any (n : Nat) (hn : n < 4294967296) (w : World) :
    Calls Try.prog 109 #[.int .u32 n] w fun e w' => ∃ v, e = .returned v ∧ Ob w' w.heap.size 5 v (cbytes n) ∧ Below w.heap.size w w' := by
  go_enter Try.func109, Try.ntmps109
  go_wp2
  go_loopw [0, 3, 4] (fun m v i wr => ∃ k : Nat, k ≤ 4 ∧ i = .int .i64 k ∧ m = .int .u32 ((n / 256 ^ k : Nat) : Int) ∧ Ob wr w.heap.size 5 v ((cbytes n).take k) ∧ Below w.heap.size w wr) (fun _ _ i _ => 4 - (intOf i).toNat)
  case atStart => exact ⟨0, by omega, rfl, by simp, World.ownsRow_nil _ _ _ _, Below.refl _ _⟩
  case round =>
    obtain ⟨k, hk, rfl, rfl, ho, hb⟩ := hrel
    have hsz := hb.size
    by_cases hlt : k < 4
    · obtain ⟨m, hm⟩ : ∃ m, m = n / 256 ^ k := ⟨_, rfl⟩
      have hml : m < 4294967296 := by rw [hm]; exact Nat.lt_of_le_of_lt (Nat.div_le_self _ _) hn
      have hnext : n / 256 ^ (k + 1) = m / 256 := by rw [hm, Nat.pow_succ, Nat.div_div_eq_div_mul]
      have hget : (cbytes n)[k]? = some (UInt8.ofNat m) := by
        rw [hm]
        rcases (show k = 0 ∨ k = 1 ∨ k = 2 ∨ k = 3 by omega) with rfl | rfl | rfl | rfl <;> simp [cbytes]
      rw [← hm]
      have hlen : ((cbytes n).take k).length ≤ 4 := by simp [cbytes]; omega
      have HM := Lib.hid hm
      have HN := Lib.hid hnext
      have HG := Lib.hid hget
      clear hm hnext hget
      go_wp2_with (at_builtin; go_must (refine wpList_append_byte ho (UInt8.ofNat m) elB (by omega) (by omega) hsz ?_ _ _ rfl rfl _ rfl rfl (by simp [bv])); intro v' w' h1 h2 h3; have H1 := Lib.hid h1; clear h1)
      go_roundw
      case rel =>
        refine ⟨k + 1, by omega, by go_num, by rw [HN.out]; go_num, ?_, hb.trans h3⟩
        rw [List.take_add_one, HG.out]
        exact H1.out
      case measure => simp [intOf]; omega
    · obtain rfl : k = 4 := by omega
      go_wp2
      go_ret
      exact ⟨_, rfl, ho, hb⟩


set_option maxRecDepth 100000 in
set_option maxHeartbeats 400000 in
theorem rsum_any (vb : Value) (l : List UInt8) (w : World) (hb : Bs w vb l) :
    Calls Try.prog 110 #[vb] w fun e w' => e = .returned (.int .u32 (csum l)) ∧ w = w' := by
  obtain ⟨a, ca, adr, rfl, ha1, ha2, ha3, ha4, ha5⟩ := Bs.open_ elB hb
  go_enter Try.func110, Try.ntmps110
  go_wp2
  go_loop [3, 4] (fun r i => ∃ k n : Nat, k ≤ l.length ∧ i = .int .i64 k ∧ r = .int .u32 n ∧ n < 4294967296 ∧ Hid (creg 4294967295 l = creg n (l.drop k))) (fun _ i => l.length - (intOf i).toNat)
  case atStart => exact ⟨0, 4294967295, by omega, rfl, rfl, by omega, rfl⟩
  case round =>
    obtain ⟨k, n, hk, rfl, rfl, hn, hc⟩ := hrel
    by_cases hlt : k < l.length
    · obtain ⟨x, hx⟩ : ∃ x, l[k]? = some x := ⟨_, List.getElem?_eq_getElem hlt⟩
      have h3 := ha5 k x hx
      have hstep : l.drop k = x :: l.drop (k + 1) := by rw [List.drop_eq_getElem_cons hlt, (List.getElem?_eq_some_iff.1 hx).2]
      rw [hstep] at hc
      have hc2 : Hid (creg 4294967295 l = creg (cbyte n x.toNat) (l.drop (k + 1))) := hc
      obtain ⟨y, hy⟩ : ∃ y, y = x.toNat := ⟨_, rfl⟩
      have hy256 : y < 256 := by have := x.toNat_lt; omega
      rw [← hy] at h3 hc2
      clear hc hstep hy hx ha5 ha4
      go_wp2
      go_loop [3, 5, 6] (fun r z j => ∃ m q i : Nat, i ≤ 8 ∧ j = .int .i64 i ∧ r = .int .u32 m ∧ m < 4294967296 ∧ z = .int .i64 q ∧ q < 256 ∧ Hid (riter (8 - i) m q = cbyte n y)) (fun _ _ j => 8 - (intOf j).toNat)
      case atStart => exact ⟨n, y, 0, by omega, rfl, rfl, hn, rfl, hy256, riter_cbyte n y hy256⟩
      case round =>
        obtain ⟨m, q, i, hi, rfl, rfl, hm, rfl, hq, hr⟩ := hrel
        by_cases hi8 : i < 8
        · have e1 : riter (8 - i) m q = riter (8 - (i + 1)) (rbit m (q % 2)) (q / 2) := by rw [show 8 - i = (8 - (i + 1)) + 1 by omega]; rfl
          have E1 := Lib.hid e1
          clear e1
          by_cases hb2 : m % 2 = q % 2
          · have hd : (((m : Int) % 2) != ((q : Int) % 2)) = false := by simp; omega
            go_wp2
            go_round
            case rel =>
              refine ⟨m / 2, q / 2, i + 1, by omega, by go_num, by go_num, by omega, by go_num, by omega, ?_⟩
              have := E1.out
              rw [rbit, if_pos hb2] at this
              exact this.symm.trans hr.out
            case measure => simp [intOf]; omega
          · have hd : (((m : Int) % 2) != ((q : Int) % 2)) = true := by simp; omega
            have hx := u32_xorn ((m : Int) / 2) 3988292384 (by omega) (by omega) (by omega) (by omega)
            rw [show ((m : Int) / 2).toNat = m / 2 by omega] at hx
            go_wp2
            go_round
            case rel =>
              refine ⟨m / 2 ^^^ cpoly, q / 2, i + 1, by omega, by go_num, rfl, xor_lt32 (by omega) (by decide), by go_num, by omega, ?_⟩
              have := E1.out
              rw [rbit, if_neg hb2] at this
              exact this.symm.trans hr.out
            case measure => simp [intOf]; omega
        · obtain rfl : i = 8 := by omega
          have hm2 : m = cbyte n y := hr.out
          have HM := Lib.hid hm2
          clear hm2 hr
          go_wp2
          go_round
          case rel => exact ⟨k + 1, m, by omega, by go_num, rfl, hm, by rw [HM.out]; exact hc2⟩
          case measure => simp [intOf]; omega
    · have hcr : creg 4294967295 l = n := by
        have h := hc.out
        rw [List.drop_eq_nil_of_le (by omega)] at h
        exact h
      have HC := Lib.hid hcr
      clear hcr hc
      go_wp2
      go_ret
      refine ⟨ret_int ?_, rfl⟩
      unfold csum cmore
      rw [show 4294967295 - 0 = 4294967295 from rfl, HC.out]
      omega

end Go.Proofs.Yticpmkdlnjnfgaa
