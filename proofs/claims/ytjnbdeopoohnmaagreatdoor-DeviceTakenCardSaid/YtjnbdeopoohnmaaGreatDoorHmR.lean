/- Layer 8 (hmac): the walks of the reference's Block, Tag and Derive. -/
import Derived.Test.YtjnbdeopoohnmaaGreatDoorShaW
import Derived.Test.YtjnbdeopoohnmaaGreatDoorBase
import Derived.Test.YtjnbdeopoohnmaaGreatDoorShaQ
import Derived.Test.YtjnbdeopoohnmaaGreatDoorShaU
set_option linter.unusedSimpArgs false
namespace Go.Proofs.YtjnbdeopoohnmaaGreatDoor
open Go.RowKit Go.Sort

set_option maxHeartbeats 1600000 in
theorem rblock_any (v : Value) (key : List UInt8) (x : UInt8) (hlen : key.length < 4294967296) (w : World) (hv : Bs w v key) :
    Calls Tryz.prog 97 #[v, .int .u8 (x.toNat : Int)] w fun e w' => ∃ r, e = .returned r ∧ Ob w' w.heap.size 5 r (hpad key x) ∧ Below w.heap.size w w' := by
  obtain ⟨a, c, rfl⟩ := hv.shape
  have HV := Lib.hid hv
  clear hv
  go_enter Tryz.func97, Tryz.ntmps97
  go_upto_if 9 with fail
  go_cut [0] (fun s0 wx => Hid (Bs wx s0 (hkey key)) ∧ Hid (Below w.heap.size w wx))
  case first =>
    by_cases hk : 64 < key.length
    · have e1 : (64 : Int) < (key.length : Int) := by omega
      go_wp2_with (go_at_call 96; refine (rsum_any _ key hlen _ HV.out).mono ?_; rintro e w1 ⟨v1, rfl, ho1, hb1⟩; have HO1 := Lib.hid ho1; have HB1 := Lib.hid hb1; clear ho1 hb1)
      go_meet
      case rel => exact ⟨Lib.hid (by unfold hkey; rw [if_pos hk]; exact HO1.out.bs), HB1⟩
    · have e1 : ¬ (64 : Int) < (key.length : Int) := by omega
      go_wp2
      go_meet
      case rel => exact ⟨Lib.hid (by unfold hkey; rw [if_neg hk]; exact HV.out), Lib.hid (Below.refl _ _)⟩
  case rest =>
    obtain ⟨hk0, hb0⟩ := hcut
    obtain ⟨a0, c0, adr, rfl, -, -, hi, hlt, hc⟩ := Bs.open_ elB hk0.out
    obtain ⟨n, hn⟩ : ∃ n, (hkey key).length = n := ⟨_, rfl⟩
    have hn64 : n ≤ 64 := by rw [← hn]; exact hkey_len key
    rw [hn] at hi hlt
    have HI := Lib.hid hi
    have HC : Hid (∀ W, Below wc.heap.size wc W → ∀ j y, (hkey key)[j]? = some y → W.cell? (adr j) = some (.int .u8 (y.toNat : Int))) := by
      intro W hW j y hy
      rw [hW.cell (hlt j (by rw [← hn]; exact (List.getElem?_eq_some_iff.1 hy).1))]
      exact hc j y hy
    rw [hn]
    have HN := Lib.hid hn
    have BX := b8_xor
    clear hi hlt hc hk0 hn
    go_wp2_with fail
    go_loopw [5, 6] (fun vo vi wr => ∃ k : Nat, k ≤ 64 ∧ vi = .int .i64 k ∧ Hid (Ob wr wc.heap.size 5 vo ((List.range k).map fun i => hbyte key i ^^^ x)) ∧ Hid (Below wc.heap.size wc wr)) (fun _ vi _ => 64 - (intOf vi).toNat)
    case atStart => exact ⟨0, by omega, rfl, Lib.hid (Ob.nil _ _ _), Lib.hid (Below.refl _ _)⟩
    case round =>
      obtain ⟨k, hk, rfl, ho, hb⟩ := hrel
      by_cases hlt : k < 64
      · have e1 : (k : Int) < 64 := by omega
        have hs := hb.out.size
        obtain ⟨l, hl⟩ : ∃ l, (List.range k).map (fun i => hbyte key i ^^^ x) = l := ⟨_, rfl⟩
        have hll : l.length ≤ 64 := by rw [← hl]; simp; omega
        rw [hl] at ho
        have HL := Lib.hid hl
        clear hl
        by_cases hin : k < n
        · have e2 : (k : Int) < (n : Int) := by omega
          have X := fun W => HI.out W k (by omega) (by omega)
          rw [Int.toNat_natCast] at X
          obtain ⟨y, hy⟩ : ∃ y, (hkey key)[k]? = some y := ⟨_, List.getElem?_eq_getElem (by rw [HN.out]; exact hin)⟩
          have cy := HC.out wr hb.out k y hy
          have HY := Lib.hid hy
          clear hy
          go_wp2_with (at_builtin; go_must (refine wpList_append_byte ho.out (y ^^^ x) elB (by omega) (by omega) hs ?_ _ _ rfl rfl _ rfl rfl rfl); intro v4 w4 ho4 hg4 hb4; have HO4 := Lib.hid ho4; have HB4 := Lib.hid hb4; clear ho4 hb4 hg4)
          go_roundw
          case rel =>
            refine ⟨k + 1, by omega, by go_num, Lib.hid ?_, Lib.hid (hb.out.trans HB4.out)⟩
            rw [hblk_snoc, HL.out, hbyte_in key k y HY.out]
            exact HO4.out
          case measure => simp [intOf]; omega
        · have e2 : ¬ (k : Int) < (n : Int) := by omega
          go_wp2_with (at_builtin; go_must (refine wpList_append_byte ho.out x elB (by omega) (by omega) hs ?_ _ _ rfl rfl _ rfl rfl rfl); intro v4 w4 ho4 hg4 hb4; have HO4 := Lib.hid ho4; have HB4 := Lib.hid hb4; clear ho4 hb4 hg4)
          go_roundw
          case rel =>
            refine ⟨k + 1, by omega, by go_num, Lib.hid ?_, Lib.hid (hb.out.trans HB4.out)⟩
            rw [hblk_snoc, HL.out, hbyte_out key k (by rw [HN.out]; omega), UInt8.zero_xor]
            exact HO4.out
          case measure => simp [intOf]; omega
      · have e1 : ¬ (k : Int) < 64 := by omega
        obtain rfl : k = 64 := by omega
        have hs := hb0.out.size
        have hob := ho.out.mono hs
        have HOB : Hid (Ob wr w.heap.size 5 u5 (hpad key x)) := hob
        clear ho hob
        go_wp2
        go_ret
        exact ⟨_, rfl, HOB.out, hb0.out.trans (hb.out.mono hs)⟩

set_option maxHeartbeats 800000 in
theorem rtag_any (vk vb : Value) (key b : List UInt8) (hlen : key.length < 4294967296) (hlb : b.length < 4294967000) (w : World) (hk : Bs w vk key) (hb : Bs w vb b) :
    Calls Tryz.prog 68 #[vk, vb] w fun e w' => ∃ v, e = .returned v ∧ Ob w' w.heap.size 5 v (htag key b) ∧ Below w.heap.size w w' := by
  have HK := Lib.hid hk
  have HB := Lib.hid hb
  have h1 := rblock_any vk key 54 hlen w hk
  rw [show (((54 : UInt8).toNat : Nat) : Int) = 54 from rfl] at h1
  have H1 := Lib.hid h1
  have h2 := fun w (h : Bs w vk key) => rblock_any vk key 92 hlen w h
  simp only [show (((92 : UInt8).toNat : Nat) : Int) = 92 from rfl] at h2
  have H2 := Lib.hid h2
  have L1 := Lib.hid (hpad_len key 54)
  have L2 := Lib.hid (hpad_len key 92)
  have HLB := Lib.hid hlb
  clear hk hb h1 h2 hlb hlen
  go_enter Tryz.func68, Tryz.ntmps68
  go_wp2_with fail
  refine H1.out.mono ?_
  rintro e w1 ⟨v1, rfl, ho1, hb1⟩
  have HO1 := Lib.hid ho1
  have HB1 := Lib.hid hb1
  have hs1 := hb1.size
  clear ho1 hb1
  go_wp2_with (at_builtin; go_must (refine wpList_append_bytes HO1.out (HB.out.below HB1.out) elB (by have := L1.out; have := HLB.out; omega) (by have := L1.out; have := HLB.out; omega) hs1 ?_ _ _ rfl rfl rfl rfl; intro v2 w2 ho2 hg2 hb2 _; have HO2 := Lib.hid ho2; have HB2 := Lib.hid (HB1.out.trans hb2); clear ho2 hg2 hb2))
  refine (rsum_any _ _ (by rw [List.length_append, L1.out]; have := HLB.out; omega) _ HO2.out.bs).mono ?_
  rintro e w3 ⟨v3, rfl, ho3, hb3⟩
  have HO3 := Lib.hid ho3
  have HB3 := Lib.hid (HB2.out.trans (hb3.mono HB2.out.size))
  clear ho3 hb3
  go_wp2_with fail
  refine (H2.out _ (HK.out.below HB3.out)).mono ?_
  rintro e w4 ⟨v4, rfl, ho4, hb4⟩
  have HO4 := Lib.hid ho4
  have HB4 := Lib.hid (HB3.out.trans (hb4.mono HB3.out.size))
  have hs4 := hb4.size
  have HV3 := Lib.hid (HO3.out.below hb4)
  clear ho4 hb4
  go_wp2_with (at_builtin; go_must (refine wpList_append_bytes HO4.out HV3.out.bs elB (by rw [L2.out, shaSum_len]; omega) (by rw [L2.out, shaSum_len]; omega) hs4 ?_ _ _ rfl rfl rfl rfl; intro v5 w5 ho5 hg5 hb5 _; have HO5 := Lib.hid ho5; have HB5 := Lib.hid (HB4.out.trans (hb5.mono HB3.out.size)); clear ho5 hg5 hb5))
  refine (rsum_any _ _ (by rw [List.length_append, L2.out, shaSum_len]; omega) _ HO5.out.bs).mono ?_
  rintro e w6 ⟨v6, rfl, ho6, hb6⟩
  have HO6 := Lib.hid ho6
  have HB6 := Lib.hid (HB5.out.trans (hb6.mono HB5.out.size))
  clear ho6 hb6
  go_wp2
  go_ret
  exact ⟨_, rfl, HO6.out.mono HB5.out.size, HB6.out⟩

set_option maxHeartbeats 800000 in
theorem rderive_any (vk vb : Value) (key b : List UInt8) (s : ByteArray) (hlen : key.length < 4294967296) (hlb : s.size + b.length < 4294960000) (w : World) (hk : Bs w vk key) (hb : Bs w vb b) :
    Calls Tryz.prog 30 #[vk, .string s, vb] w fun e w' => ∃ v, e = .returned v ∧ Ob w' w.heap.size 5 v (hderive key s.data.toList b) ∧ Below w.heap.size w w' := by
  have HK := Lib.hid hk
  have HB := Lib.hid hb
  obtain ⟨v1, w1, hr, ho1, hb1⟩ := run_mark (P := Tryz.prog) (t := 25) (e := 5) w 9 s Tryz.underlying9 Tryz.underlying25 Tryz.underlying5 (by simp [maxLen]; omega)
  have HLN := Lib.hid hlen
  have HLB := Lib.hid hlb
  have HSZ : Hid (s.data.toList.length = s.size) := by show _ = _; rw [Array.length_toList]; rfl
  have HO1 := Lib.hid ho1
  have HB1 := Lib.hid hb1
  have hs1 := hb1.size
  clear hk hb ho1 hb1 hlen hlb
  go_enter Tryz.func30, Tryz.ntmps30
  go_wp2_with (first
    | (at_builtin; refine wpList_append_mark_lit HO1.out [0] 1 rfl elB (by have := HLB.out; have := HSZ.out; simp; omega) (by have := HLB.out; have := HSZ.out; simp; omega) hs1 ?_ _ _ rfl rfl _ rfl rfl rfl; intro v2 w2 ho2 hb2; have HO2 := Lib.hid ho2; have HB2 := Lib.hid (HB1.out.trans hb2); have hs2 := hb2.size; clear ho2 hb2)
    | (at_builtin; refine wpList_append_mark HO2.out (HB.out.below HB2.out) elB (by have := HLB.out; have := HSZ.out; simp; omega) (by have := HLB.out; have := HSZ.out; simp; omega) (by omega) ?_ _ _ rfl rfl rfl rfl; intro v3 w3 ho3 hb3; have HO3 := Lib.hid ho3; have HB3 := Lib.hid (HB2.out.trans hb3); clear ho3 hb3))
  refine (rtag_any _ _ key _ HLN.out (by have := HLB.out; have := HSZ.out; simp; omega) _ (HK.out.below HB3.out) HO3.out.bs).mono ?_
  rintro e w4 ⟨v4, rfl, ho4, hb4⟩
  have HO4 := Lib.hid ho4
  have HB4 := Lib.hid (HB3.out.trans (hb4.mono HB3.out.size))
  clear ho4 hb4
  go_wp2
  go_ret
  refine ⟨_, rfl, ?_, HB4.out⟩
  have h1 := HO4.out.mono HB3.out.size
  rw [List.append_assoc] at h1
  exact h1

end Go.Proofs.YtjnbdeopoohnmaaGreatDoor
