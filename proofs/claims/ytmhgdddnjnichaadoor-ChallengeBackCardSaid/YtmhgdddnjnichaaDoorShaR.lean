/- Layer 7 (sha): the walk of the reference's padded. -/
import Derived.Test.YtmhgdddnjnichaaDoorShaM
set_option linter.unusedSimpArgs false
namespace Go.Proofs.YtmhgdddnjnichaaDoor
open Go.RowKit Go.Sort

theorem zeros_lt (N : Nat) : zeros N < 64 := by unfold zeros; split <;> omega
theorem zeros_stop (N z : Nat) (h : z ≤ zeros N) : (N + 1 + z) % 64 = 56 ↔ z = zeros N := by
  unfold zeros at *
  split at h <;> (rename_i h1; first | rw [if_pos h1] | rw [if_neg h1]) <;> omega

/-- the last k bytes of the length -/
def lenk (N k : Nat) : List UInt8 := (List.range k).map fun i => UInt8.ofNat (8 * N / 256 ^ (k - 1 - i))
theorem lenk_succ (N k : Nat) : lenk N (k + 1) = UInt8.ofNat (8 * N / 256 ^ k) :: lenk N k := by
  unfold lenk
  rw [List.range_succ_eq_map]
  simp only [List.map_cons, List.map_map, Nat.add_sub_cancel, Nat.sub_zero]
  congr 1
  apply List.map_congr_left
  intro i hi
  have := List.mem_range.1 hi
  simp only [Function.comp]
  rw [show k - (i + 1) = k - 1 - i by omega]
theorem lenk_len (N k : Nat) : (lenk N k).length = k := by simp [lenk]
theorem lenk_8 (N : Nat) : lenk N 8 = (List.range 8).map (len8 N) := rfl

set_option maxRecDepth 100000 in
set_option maxHeartbeats 1600000 in
theorem padded_any (y : Value) (l : List UInt8) (hlen : l.length < 4294967296) (w : World) (hy : Bs w y l) :
    Calls Tryd.prog 65 #[y] w fun e w' => ∃ v, e = .returned v ∧ Ob w' w.heap.size 5 v (l ++ pad l.length) ∧ Below w.heap.size w w' := by
  obtain ⟨a, c, rfl⟩ := hy.shape
  have ho0 := Ob.nil w w.heap.size 5
  have HL := Lib.hid hlen
  obtain ⟨B0, hB0⟩ : ∃ B, w.heap.size = B := ⟨_, rfl⟩
  have HB0 := Lib.hid hB0
  go_enter Tryd.func65, Tryd.ntmps65
  go_upto_region 3 with (at_builtin; go_must (refine wpList_append_bytes ho0 hy elB (by simp; omega) (by simp; omega) (Nat.le_refl _) ?_ _ _ rfl rfl rfl rfl); intro v1 w1 ho1 hg1 hb1 _; have HO1 := Lib.hid ho1; have HBE1 := Lib.hid hb1; clear ho1 hb1)
  have ho1 := HO1.out
  simp only [List.nil_append] at ho1
  have hs1 := HBE1.out.size
  go_wp2_with (at_builtin; go_must (refine wpList_append_byte ho1 128 elB (by omega) (by omega) hs1 ?_ _ _ rfl rfl _ rfl rfl rfl); intro v2 w2 ho2 hg2 hb2; have HO2 := Lib.hid ho2; have HBE2 := Lib.hid hb2; clear ho2 hb2)
  obtain ⟨N, hN⟩ : ∃ N, l.length = N := ⟨_, rfl⟩
  have HN := Lib.hid hN
  have hw2 : Hid (Below w.heap.size w w2) := HBE1.out.trans HBE2.out
  clear ho1 ho0 hg1 hg2 hs1 hlen hB0 hy hN HO1
  go_loopw [3] (fun v wr => ∃ z : Nat, z ≤ zeros N ∧ Hid (Ob wr w.heap.size 5 v (l ++ 128 :: List.replicate z 0)) ∧ Hid (Below w.heap.size w wr)) (fun v _ => l.length + 65 - sliceN v)
  case atStart => exact ⟨0, by omega, HO2, hw2⟩
  case round =>
    obtain ⟨z, hz, ho, hb⟩ := hrel
    clear HO2 hw2 HBE1 HBE2
    obtain ⟨a3, c3, rfl⟩ := ho.out.shape
    have hzl := zeros_lt N
    have hst := zeros_stop N z hz
    have hNs : Hid (N < 4294967296) := by have := HL.out; have := HN.out; show N < _; omega
    have hlen3 : (l ++ 128 :: List.replicate z 0).length = N + 1 + z := by rw [List.length_append, HN.out]; simp; omega
    have ho3 := ho
    rw [hlen3] at ho3 ⊢
    have d2 : Int.tmod ((N + 1 + z : Nat) : Int) 64 = (((N + 1 + z) % 64 : Nat) : Int) := rfl
    obtain ⟨M, hM⟩ : ∃ M, N + 1 + z = M := ⟨_, rfl⟩
    rw [hM] at hst d2 ho3 ⊢
    obtain ⟨r, hr⟩ : ∃ r, M % 64 = r := ⟨_, rfl⟩
    rw [hr] at hst d2
    have HST := Lib.hid hst
    have HO3 := Lib.hid ho3
    have HM := Lib.hid hM
    have hs3 := hb.out.size
    have HLN := Lib.hid hlen3
    clear ho hr hM hst hlen3 ho3
    by_cases hz2 : r = 56
    · have e1 : ¬ (r : Int) ≠ 56 := by omega
      have hzz : z = zeros N := HST.out.1 hz2
      subst hz2
      have hbl := hb.out
      have e6 : IntKind.i64.wrap (8 * (l.length : Int)) = ((8 * N : Nat) : Int) := by
        have := HN.out
        have := hNs.out
        rw [IntWalk.i64_in _ (by omega)]
        omega
      clear HLN
      subst hzz
      have HO5 : Hid (Ob wr w.heap.size 5 (.slice a3 M c3) (l ++ 128 :: List.replicate (zeros N) 0)) := HO3.out.out
      clear HO3
      obtain ⟨W5, hW5⟩ : ∃ W, W = wr := ⟨_, rfl⟩
      subst hW5
      go_wp2_with fail
      go_loopw [4, 5, 6] (fun n v i w' => ∃ k : Nat, k ≤ 8 ∧ n = .int .i64 ((8 * N / 256 ^ k : Nat) : Int) ∧ i = .int .i64 k ∧ Hid (Ob w' W5.heap.size 5 v (lenk N k)) ∧ Hid (Below W5.heap.size W5 w')) (fun _ _ i _ => 8 - (intOf i).toNat)
      case atStart => exact ⟨0, by omega, by simp, rfl, Lib.hid (Ob.nil _ _ _), Lib.hid (Below.refl _ _)⟩
      case round =>
        obtain ⟨k, hk, rfl, rfl, hov, hbv⟩ := hrel
        obtain ⟨a5, c5, rfl⟩ := hov.out.shape
        have hlk := lenk_len N k
        rw [hlk] at hov ⊢
        have hs5 := hbv.out.size
        have HLK := Lib.hid hlk
        by_cases hlt : k < 8
        · have e7 : (k : Int) < 8 := by omega
          obtain ⟨p, hp⟩ : ∃ p, 8 * N / 256 ^ k = p := ⟨_, rfl⟩
          rw [hp]
          have d3 : Int.tmod (p : Int) 256 = ((p % 256 : Nat) : Int) := rfl
          have d4 : Int.tdiv (p : Int) 256 = ((p / 256 : Nat) : Int) := rfl
          obtain ⟨x, hx⟩ : ∃ x : UInt8, UInt8.ofNat p = x := ⟨_, rfl⟩
          have hx2 : p % 256 = x.toNat := by rw [← hx, UInt8.toNat_ofNat']
          rw [hx2] at d3
          have hx3 := x.toNat_lt
          have d5 : (x.toNat : Int) % 256 = x.toNat := by omega
          have hol := ob_lit wr 5 #[.int .u8 (x.toNat : Int)] [x] 1 rfl (by decide) rfl
          have hba : Below wr.heap.size wr (wr.alloc (.cells #[.int .u8 (x.toNat : Int)] 5)) := (Below.refl _ _).alloc (Nat.le_refl _) _
          have hbs5 := hov.out.bs.below hba
          have HLX := HLK.out
          have hsa := hba.size
          have HBA := Lib.hid hba
          clear hx hba
          go_wp2_with (at_builtin; go_must (refine wpList_append_bytes hol hbs5 elB (by rw [HLX]; simp; omega) (by rw [HLX]; simp; omega) hsa ?_ _ _ rfl rfl rfl rfl); intro v6 w6 ho6 hg6 hb6 _; have HO6 := Lib.hid ho6; have HBE6 := Lib.hid hb6; clear ho6 hb6 hg6)
          go_roundw
          case rel =>
            refine ⟨k + 1, by omega, ?_, by go_num, Lib.hid ?_, Lib.hid ?_⟩
            · have hp2 : p ≤ 8 * N := by rw [← hp]; exact Nat.div_le_self _ _
              have := hNs.out
              rw [Nat.pow_succ, ← Nat.div_div_eq_div_mul, hp, IntWalk.wrap64_in _ (by omega)]
              rfl
            · have h1 := HO6.out.mono (B' := W5.heap.size) (by omega)
              rw [lenk_succ, hp, show UInt8.ofNat p = x from by apply UInt8.toNat_inj.1; rw [UInt8.toNat_ofNat', hx2]]
              exact h1
            · exact (hbv.out.trans (HBA.out.mono (by omega))).trans (HBE6.out.mono (by omega))
          case measure => simp [intOf]; omega
        · have e7 : ¬ (k : Int) < 8 := by omega
          obtain rfl : k = 8 := by omega
          have h3 : Ob wr w.heap.size 5 (.slice a3 M c3) (l ++ 128 :: List.replicate (zeros N) 0) := HO5.out.below hbv.out
          have hw3 := hbl.trans (hbv.out.mono hbl.size)
          have hsz := hw3.size
          have hl3 : (l ++ 128 :: List.replicate (zeros N) 0).length < 4294967400 := by
            have := hNs.out
            have := HN.out
            simp
            omega
          have hl8 := HLK.out
          have H3 := Lib.hid h3
          have H8 := Lib.hid (hov.out.bs)
          clear h3
          go_wp2_with (at_builtin; go_must (refine wpList_append_bytes H3.out H8.out elB (by omega) (by omega) hsz ?_ _ _ rfl rfl rfl rfl; intro v6 w6 ho6 hg6 hb6 _; have HO6 := Lib.hid ho6; have HBE6 := Lib.hid hb6; clear ho6 hb6 hg6))
          go_ret
          refine ⟨_, rfl, ?_, hw3.trans HBE6.out⟩
          have h1 := HO6.out
          rw [List.append_assoc, List.cons_append, lenk_8] at h1
          rw [HN.out]
          exact h1
    · have e1 : (r : Int) ≠ 56 := by omega
      have hzz : z < zeros N := by have := mt HST.out.2 hz2; omega
      go_wp2_with (at_builtin; go_must (refine wpList_append_byte HO3.out.out 0 elB (by have := HLN.out; have := hNs.out; have := HM.out; omega) (by have := HLN.out; have := hNs.out; have := HM.out; omega) hs3 ?_ _ _ rfl rfl _ rfl rfl rfl); intro v4 w4 ho4 hg4 hb4; have HO4 := Lib.hid ho4; have HBE4 := Lib.hid hb4; clear ho4 hb4 hg4)
      go_roundw
      case rel =>
        refine ⟨z + 1, by omega, Lib.hid ?_, Lib.hid (hb.out.trans HBE4.out)⟩
        have := HO4.out
        rw [List.append_assoc, List.cons_append, ← List.replicate_succ'] at this
        exact this
      case measure =>
        obtain ⟨a4, c4, h4⟩ := HO4.out.shape
        rw [h4]
        have := HN.out
        have := HM.out
        have := HLN.out
        simp only [sliceN, List.length_append, List.length_cons, List.length_nil, List.length_replicate] at this ⊢
        omega

end Go.Proofs.YtmhgdddnjnichaaDoor
