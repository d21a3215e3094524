/- Layer 7 (sha): the walks of the statements ShaSums and ShaParts. -/
import Derived.Test.YtmhgdddnjnichaaDoorShaU
import Derived.Test.YtmhgdddnjnichaaDoorShaQ
import Derived.Test.YtmhgdddnjnichaaDoorShaA
import Derived.Deep.RegionHeld3
set_option linter.unusedSimpArgs false
namespace Go.Proofs.YtmhgdddnjnichaaDoor
open Go.RowKit Go.Sort

theorem awake7 (w : World) (hT : Tabbed w) : Calls Tryd.prog 16 #[] w fun e w' => e = .returned (.bool true) ∧ Below w.heap.size w w' := by
  have hl0 := Lib.hid (ob_lit w 5 #[.int .u8 97, .int .u8 98, .int .u8 99] abc 3 rfl (by decide) rfl)
  have hb0 : Hid (Below w.heap.size w (w.alloc (.cells #[.int .u8 97, .int .u8 98, .int .u8 99] 5))) := (Below.refl _ _).alloc (Nat.le_refl _) _
  have HT := Lib.hid hT
  clear hT
  go_enter Tryd.func16, Tryd.ntmps16
  go_upto_region 2 with (go_at_call 19; refine (sha_sum _ abc (by decide) _ hl0.out.bs (HT.out.below hb0.out)).mono ?_; rintro e w1 ⟨v1, rfl, ho1, hb1⟩; have HO1 := Lib.hid ho1; have HB1 := Lib.hid hb1; clear ho1 hb1)
  have ho := HO1.out.bs
  rw [abc_sum] at ho
  obtain ⟨a, c, adr, rfl, -, -, hi, -, hc⟩ := Bs.open_n elB ho 32 rfl
  have x0 := fun W => hi W 0 (by omega) (by omega)
  have x1 := fun W => hi W 1 (by omega) (by omega)
  have x2 := fun W => hi W 2 (by omega) (by omega)
  have x3 := fun W => hi W 3 (by omega) (by omega)
  have x31 := fun W => hi W 31 (by omega) (by omega)
  have c0 : w1.cell? (adr (0 : Int).toNat) = some (.int .u8 186) := hc 0 0xba rfl
  have c1 : w1.cell? (adr (1 : Int).toNat) = some (.int .u8 120) := hc 1 0x78 rfl
  have c2 : w1.cell? (adr (2 : Int).toNat) = some (.int .u8 22) := hc 2 0x16 rfl
  have c3 : w1.cell? (adr (3 : Int).toNat) = some (.int .u8 191) := hc 3 0xbf rfl
  have c31 : w1.cell? (adr (31 : Int).toNat) = some (.int .u8 173) := hc 31 0xad rfl
  simp only [show (0:Int).toNat = 0 from rfl, show (1:Int).toNat = 1 from rfl, show (2:Int).toNat = 2 from rfl, show (3:Int).toNat = 3 from rfl, show (31:Int).toNat = 31 from rfl] at x0 x1 x2 x3 x31 c0 c1 c2 c3 c31
  have HB := Lib.hid (hb0.out.trans (HB1.out.mono hb0.out.size))
  clear ho hi hc HO1 HB1 hl0 hb0
  go_wp2
  go_ret
  exact ⟨rfl, HB.out⟩

set_option maxRecDepth 100000 in
set_option maxHeartbeats 800000 in
theorem shasums_walk (va : Value) (la : List UInt8) (vb : Value) (lb : List UInt8) (w : World) (ha : Bs w va la) (hb : Bs w vb lb) (hT : Tabbed w) :
    Calls Tryd.prog 4 #[va, vb] w fun e w' => e = .returned (.bool true) ∧ Below w.heap.size w w' := by
  obtain ⟨a, ca, rfl⟩ := ha.shape
  obtain ⟨b, cb, rfl⟩ := hb.shape
  have HT := Lib.hid hT
  have HA := Lib.hid ha
  have HB := Lib.hid hb
  clear hT ha hb
  have hrefl : (la == la) = true := by simp
  go_enter Tryd.func4, Tryd.ntmps4
  go_upto_region 3 with (go_at_call 16; refine (awake7 _ HT.out).mono ?_; rintro e w1 ⟨rfl, hb1⟩; have HB1 := Lib.hid hb1; clear hb1)
  by_cases hl : la.length ≤ 2000 ∧ lb.length ≤ 2000
  · have l1 : (la.length : Int) ≤ 2000 := by omega
    have l2 : (lb.length : Int) ≤ 2000 := by omega
    have l3 : la.length < 4294967296 := by omega
    go_wp2_with fail
    refine (sha_sum _ la l3 _ (HA.out.below HB1.out) (HT.out.below HB1.out)).mono ?_
    rintro e w2 ⟨v2, rfl, ho2, hb2⟩
    have HO2 := Lib.hid ho2
    have HB2 := Lib.hid (HB1.out.trans (hb2.mono HB1.out.size))
    clear ho2 hb2
    go_wp2_with fail
    refine (rsum_any _ la l3 _ (HA.out.below HB2.out)).mono ?_
    rintro e w3 ⟨v3, rfl, ho3, hb3⟩
    have HO3 := Lib.hid ho3
    have HB3 := Lib.hid (HB2.out.trans (hb3.mono HB2.out.size))
    have HS2 := Lib.hid (HO2.out.below hb3)
    clear ho3 hb3
    go_wp2_with fail
    refine (same_any _ _ _ _ _ HS2.out.bs HO3.out.bs).mono ?_
    rintro e w4 ⟨rfl, hb4⟩
    have HB4 := Lib.hid (HB3.out.trans (hb4.mono HB3.out.size))
    clear hb4
    go_wp2_with fail
    refine (shasame_any _ _ _ _ _ (HA.out.below HB4.out) (HB.out.below HB4.out)).mono ?_
    obtain ⟨q, hq⟩ : ∃ q, (la == lb) = q := ⟨_, rfl⟩
    have HQ := Lib.hid hq
    rw [hq]
    clear hq
    rintro e w5 ⟨rfl, hb5⟩
    have HB5 := Lib.hid (HB4.out.trans (hb5.mono HB4.out.size))
    clear hb5
    have hqq : (q == q) = true := by simp
    go_wp2_with fail
    refine (same_any _ _ _ _ _ (HA.out.below HB5.out) (HB.out.below HB5.out)).mono ?_
    rw [HQ.out]
    rintro e w6 ⟨rfl, hb6⟩
    have HB6 := Lib.hid (HB5.out.trans (hb6.mono HB5.out.size))
    clear hb6
    go_wp2_with fail
    refine (shasame_any _ _ _ _ _ (HA.out.below HB6.out) (HA.out.below HB6.out)).mono ?_
    rw [hrefl]
    rintro e w7 ⟨rfl, hb7⟩
    have HB7 := Lib.hid (HB6.out.trans (hb7.mono HB6.out.size))
    clear hb7
    go_wp2
    go_ret
    exact ⟨rfl, HB7.out⟩
  · by_cases h1 : la.length ≤ 2000
    · have h2 : ¬ lb.length ≤ 2000 := fun h => hl ⟨h1, h⟩
      have e1 : (la.length : Int) ≤ 2000 := by omega
      have e2 : (2000 : Int) < lb.length := by omega
      clear hl hrefl
      go_wp2
      go_ret
      exact ⟨rfl, HB1.out⟩
    · have e2 : (2000 : Int) < la.length := by omega
      clear hl hrefl
      go_wp2
      go_ret
      exact ⟨rfl, HB1.out⟩

theorem parts_nil (w : World) (hT : Tabbed w) :
    Calls Tryd.prog 18 #[.slice none 0 0] w fun e w' => ∃ a c, e = .returned (.slice a 32 c) ∧ Below w.heap.size w w' := by
  refine (parts_any (.slice none 0 0) [] [] rfl w (Rd.nil _ 1) (fun i v l h => by simp at h) (by decide) hT).mono ?_
  rintro e w' ⟨v, rfl, ho, hb⟩
  obtain ⟨a, c, rfl⟩ := ho.shape
  exact ⟨a, c, by rw [shaSum_len], hb⟩

theorem rd_lit (w : World) (e : Nat) (cs : Array Value) (n : Nat) (hn : cs.size = n) (hm : n ≤ maxLen) : Rd (w.alloc (.cells cs e)) 1 (.slice (some ⟨w.heap.size, 0, none⟩) n n) n cs.toList := by
  subst hn
  exact Rd.of_own (World.ownsRow_lit w cs cs.size (Nat.le_refl _) hm (by omega))

set_option maxRecDepth 100000 in
set_option maxHeartbeats 1600000 in
theorem shaparts_walk (vb : Value) (l : List UInt8) (x y : Nat) (hx : x < 65536) (hy : y < 65536) (w : World) (hb : Bs w vb l) (hT : Tabbed w) :
    Calls Tryd.prog 3 #[vb, .agg #[.int .u16 x, .int .u16 y]] w fun e w' => e = .returned (.bool true) ∧ Below w.heap.size w w' := by
  obtain ⟨b, cb, rfl⟩ := hb.shape
  have HT := Lib.hid hT
  have HB := Lib.hid hb
  have x1 : (0 : Int) ≤ x ∧ (x : Int) < 65536 := by omega
  have y1 : (0 : Int) ≤ y ∧ (y : Int) < 65536 := by omega
  clear hT hb hx hy
  have HA0 : Hid (Below w.heap.size w (w.alloc (.cells #[.int .u16 x, .int .u16 y] 24))) := (Below.refl _ _).alloc (Nat.le_refl _) _
  by_cases hl : l.length ≤ 2000
  · have l1 : (l.length : Int) ≤ 2000 := by omega
    have l3 : l.length < 4294967296 := by omega
    obtain ⟨i, hi⟩ : ∃ i : Nat, (x : Int) % ((l.length : Int) + 1) = i := ⟨((x : Int) % ((l.length : Int) + 1)).toNat, by have := Int.emod_nonneg (x : Int) (show ((l.length : Int) + 1) ≠ 0 by omega); omega⟩
    have hi2 : i ≤ l.length := by
      have := Int.emod_lt_of_pos (x : Int) (show (0 : Int) < (l.length : Int) + 1 by omega)
      omega
    obtain ⟨k, hk⟩ : ∃ k : Nat, (y : Int) % ((l.length : Int) - i + 1) = k := ⟨((y : Int) % ((l.length : Int) - i + 1)).toNat, by have := Int.emod_nonneg (y : Int) (show ((l.length : Int) - i + 1) ≠ 0 by omega); omega⟩
    have hk2 : i + k ≤ l.length := by
      have := Int.emod_lt_of_pos (y : Int) (show (0 : Int) < (l.length : Int) - i + 1 by omega)
      omega
    obtain ⟨j, hj⟩ : ∃ j : Nat, (i : Int) + k = j := ⟨i + k, by omega⟩
    have hj2 : i ≤ j ∧ j ≤ l.length := by omega
    have hij : (0 : Int) ≤ i ∧ (i : Int) ≤ j ∧ (j : Int) ≤ l.length ∧ (0 : Int) ≤ k := by omega
    have hcap : (i : Int) ≤ cb ∧ (j : Int) ≤ cb ∧ (l.length : Int) ≤ cb := by have := HB.out.len_eq; omega
    have hcap2 : i ≤ cb ∧ j ≤ cb ∧ l.length ≤ cb := by omega
    obtain ⟨Y1, r1, b1⟩ := HB.out.upto elB i (by omega)
    obtain ⟨Y2, r2, b2⟩ := HB.out.piece elB i j (by omega) (by omega)
    obtain ⟨Y3, r3, b3⟩ := HB.out.from elB j (by omega)
    have hcat : l.take i ++ ((l.drop i).take (j - i) ++ l.drop j) = l := by
      have h1 : (l.drop i).drop (j - i) = l.drop j := by rw [List.drop_drop]; congr 1; omega
      rw [← h1, List.take_append_drop, List.take_append_drop]
    obtain ⟨L1, hL1⟩ : ∃ L, l.take i = L := ⟨_, rfl⟩
    obtain ⟨L2, hL2⟩ : ∃ L, (l.drop i).take (j - i) = L := ⟨_, rfl⟩
    obtain ⟨L3, hL3⟩ : ∃ L, l.drop j = L := ⟨_, rfl⟩
    rw [hL1, hL2, hL3] at hcat
    rw [hL1] at b1
    rw [hL2] at b2
    rw [hL3] at b3
    clear hL1 hL2 hL3
    obtain ⟨A1, C1, rfl⟩ := b1.shape
    obtain ⟨A2, C2, rfl⟩ := b2.shape
    obtain ⟨A3, C3, rfl⟩ := b3.shape
    have HB1 := Lib.hid b1
    have HB2 := Lib.hid b2
    have HB3 := Lib.hid b3
    have HCAT := Lib.hid hcat
    clear hcat
    clear b1 b2 b3 hk2 hi2 hj2
    go_enter Tryd.func3, Tryd.ntmps3
    go_wp2_with fail
    refine (awake7 _ (HT.out.below HA0.out)).mono ?_
    rintro e w1 ⟨rfl, hb1⟩
    have HW1 := Lib.hid (HA0.out.trans (hb1.mono HA0.out.size))
    have hrow : w1.heap[w.heap.size]? = some (.cells #[.int .u16 (x : Int), .int .u16 (y : Int)] 24 (0, 0)) := (hb1.block _ (by simp)).trans (heap_alloc_new w _)
    have c0 : w1.cell? ⟨w.heap.size, 0, none⟩ = some (.int .u16 (x : Int)) := cell_of_row w1 _ _ _ _ _ hrow
    have c1 : w1.cell? ⟨w.heap.size, 1, none⟩ = some (.int .u16 (y : Int)) := cell_of_row w1 _ _ _ _ _ hrow
    clear hb1 hrow
    go_upto_region 7 with (fail)
    simp only [hi]
    clear hi hk hj c0 c1
    have hr1 : Hid (Rd (w1.alloc (.cells #[.slice A1 L1.length C1, .slice A2 L2.length C2, .slice none 0 0, .slice A3 L3.length C3] 22)).drew 1 (.slice (some ⟨w1.heap.size, 0, none⟩) 4 4) 4 [.slice A1 L1.length C1, .slice A2 L2.length C2, .slice none 0 0, .slice A3 L3.length C3]) := (rd_lit w1 22 _ 4 rfl (by decide)).drew
    have hbW : Hid (Below w.heap.size w (w1.alloc (.cells #[.slice A1 L1.length C1, .slice A2 L2.length C2, .slice none 0 0, .slice A3 L3.length C3] 22)).drew) := (HW1.out.alloc HW1.out.size _).drew
    have hP : Calls Tryd.prog 18 #[.slice (some ⟨w1.heap.size, 0, none⟩) 4 4] (w1.alloc (.cells #[.slice A1 L1.length C1, .slice A2 L2.length C2, .slice none 0 0, .slice A3 L3.length C3] 22)).drew fun e w' => ∃ v, e = .returned v ∧ Hid (Ob w' (w1.alloc (.cells #[.slice A1 L1.length C1, .slice A2 L2.length C2, .slice none 0 0, .slice A3 L3.length C3] 22)).drew.heap.size 5 v (shaSum l)) ∧ Hid (Below w.heap.size w w') := by
      have hflat : [L1, L2, [], L3].flatten = l := by simpa using HCAT.out
      refine (parts_any _ _ [L1, L2, [], L3] rfl _ hr1.out ?_ (by rw [hflat]; exact l3) (HT.out.below hbW.out)).mono ?_
      · intro i v m hv hm
        match i with
        | 0 => obtain rfl : _ = v := by simpa using hv
               obtain rfl : L1 = m := by simpa using hm
               exact HB1.out.below hbW.out
        | 1 => obtain rfl : _ = v := by simpa using hv
               obtain rfl : L2 = m := by simpa using hm
               exact HB2.out.below hbW.out
        | 2 => obtain rfl : _ = v := by simpa using hv
               obtain rfl : [] = m := by simpa using hm
               exact Rd.nil _ 1
        | 3 => obtain rfl : _ = v := by simpa using hv
               obtain rfl : L3 = m := by simpa using hm
               exact HB3.out.below hbW.out
        | i + 4 => simp at hv
      · rw [hflat]
        rintro e w' ⟨v, rfl, ho, hb⟩
        exact ⟨v, rfl, Lib.hid ho, Lib.hid (hbW.out.trans (hb.mono hbW.out.size))⟩
    have HP := Lib.hid hP
    have hrefl : (shaSum l == shaSum l) = true := by simp
    have HRF := Lib.hid hrefl
    clear hP hrefl
    go_region_held3 (fun _ => True) (exact trivial) (first
      | (go_at_call 17; with_reducible refine (same_any _ _ _ _ _ HS2.out HO3.out.bs).mono ?_; rw [HRF.out]; rintro e w4 ⟨rfl, hb4⟩; have HB4 := Lib.hid (HB3'.out.trans (hb4.mono HB3'.out.size)); clear hb4)
      | (go_at_call 19; with_reducible refine (sha_sum _ l l3 _ (HB.out.below HB2'.out) (HT.out.below HB2'.out)).mono ?_; rintro e w3 ⟨v3, rfl, ho3, hb3⟩; have HO3 := Lib.hid ho3; have HB3' := Lib.hid (HB2'.out.trans (hb3.mono HB2'.out.size)); have HS2 := Lib.hid (HO2.out.bs.below hb3); clear ho3 hb3)
      | (go_at_call 18; with_reducible refine HP.out.mono ?_; rintro e w2 ⟨v2, rfl, HO2, HB2'⟩)
      | (go_at_call 18; with_reducible refine (parts_nil _ (HT.out.below HB4.out)).mono ?_; rintro e w5 ⟨a5, c5, rfl, hb5⟩; have HB5 := Lib.hid (HB4.out.trans (hb5.mono HB4.out.size)); clear hb5))
    go_wp2
    go_ret
    exact ⟨rfl, HB5.out⟩
  · have e2 : (2000 : Int) < l.length := by omega
    go_enter Tryd.func3, Tryd.ntmps3
    go_wp2_with (go_at_call 16; refine (awake7 _ (HT.out.below HA0.out)).mono ?_; rintro e w1 ⟨rfl, hb1⟩; have HB1 := Lib.hid (HA0.out.trans (hb1.mono HA0.out.size)); clear hb1)
    go_ret
    exact ⟨rfl, HB1.out⟩

theorem shaparts_row (vb : Value) (l : List UInt8) (vp : Value) (xy : Int × Int) (w : World) (hb : Bs w vb l)
    (hp : vp = .agg #[.int .u16 xy.1, .int .u16 xy.2] ∧ (0 ≤ xy.1 ∧ xy.1 < 65536) ∧ 0 ≤ xy.2 ∧ xy.2 < 65536) (hT : Tabbed w) :
    Calls Tryd.prog 3 #[vb, vp] w fun e w' => e = .returned (.bool true) ∧ Below w.heap.size w w' := by
  obtain ⟨rfl, ⟨h1, h2⟩, h3, h4⟩ := hp
  obtain ⟨x, y⟩ := xy
  obtain ⟨x, rfl⟩ := Int.eq_ofNat_of_zero_le h1
  obtain ⟨y, rfl⟩ := Int.eq_ofNat_of_zero_le h3
  exact shaparts_walk vb l x y (by omega) (by omega) w hb hT

end Go.Proofs.YtmhgdddnjnichaaDoor
