/- The walk of the statement CrcPieces. -/
import Derived.Test.YtkgfcaoeldfbdaaCrcLaws
import Derived.Test.YtkgfcaoeldfbdaaBase2
import Derived.Test.YtkgfcaoeldfbdaaVBack
import Derived.BigRegion
import Derived.StillTailTactics
import Derived.ChangeAlike
namespace Go.Proofs.Ytkgfcaoeldfbdaa
open Go.RowKit

theorem csum_set (l : List UInt8) (i : Nat) (x y : UInt8) (hx : l[i]? = some x) (h : y ≠ x) : csum (l.set i y) ≠ csum l := by
  obtain ⟨hi, hx'⟩ := List.getElem?_eq_some_iff.1 hx
  have e1 : l = l.take i ++ x :: l.drop (i + 1) := by
    rw [← hx']
    simp
  have e2 : l.set i y = l.take i ++ y :: l.drop (i + 1) := by rw [List.set_eq_take_append_cons_drop, if_pos hi]
  intro he
  rw [e2] at he
  conv at he => rhs; rw [e1]
  exact h (csum_turned _ _ _ _ he)

theorem u8_xor_ne (x : UInt8) (d : Nat) (hd : d < 256) (h0 : d ≠ 0) : UInt8.ofNat (x.toNat ^^^ d) ≠ x := by
  intro h
  have h1 := congrArg UInt8.toNat h
  have hx := x.toNat_lt
  rw [UInt8.toNat_ofNat', Nat.mod_eq_of_lt (Nat.xor_lt_two_pow (n := 8) hx hd)] at h1
  have h2 : x.toNat ^^^ (x.toNat ^^^ d) = x.toNat ^^^ x.toNat := by rw [h1]
  rw [← Nat.xor_assoc, Nat.xor_self, Nat.zero_xor] at h2
  exact h0 h2

theorem u16_and255 (n : Nat) (h : n < 65536) : bits BinOp.and IntKind.u16 (n : Int) 255 = ((n % 256 : Nat) : Int) := by
  rw [u16_and _ _ (by omega) (by omega) (by omega) (by omega), show (255 : Int).toNat = 255 from rfl, nat_mask8, show (n : Int).toNat = n by omega]

set_option maxRecDepth 100000 in
set_option maxHeartbeats 400000 in
theorem pieces_nat (va vb : Value) (la lb : List UInt8) (x y : Nat) (w : World) (ha : Bs w va la) (hb : Bs w vb lb) (hx : x < 65536) (hy : y < 65536) :
    Calls Try.prog 6 #[va, vb, .agg #[.int .u16 x, .int .u16 y]] w fun e w' => e = .returned (.bool true) ∧ Below w.heap.size w w' := by
  obtain ⟨a, ca, adr, rfl, ha1, ha2, ha3, ha4, ha5⟩ := Bs.open_ elB ha
  obtain ⟨b, cb, bdr, rfl, hb1, hb2, hb3, hb4, hb5⟩ := Bs.open_ elB hb
  clear ha3 ha4 ha5 hb3 hb4 hb5
  have hand := u16_and255 y hy
  by_cases hl : la.length ≤ 3000 ∧ lb.length ≤ 3000
  · obtain ⟨hla, hlb⟩ := hl
    go_enter Try.func6, Try.ntmps6
    go_wp2_with fail
    refine (awake2 _).mono ?_
    rintro e w1 ⟨rfl, hb1'⟩
    have hw1 : Below w.heap.size w w1 := ((Below.refl _ _).alloc (Nat.le_refl _) _).trans (hb1'.mono (by simp))
    have c0 : w1.cell? ⟨w.heap.size, 0, none⟩ = some (.int .u16 x) := by rw [hb1'.cell (by simp), World.cell?_alloc_at _ _ _ _ rfl]; rfl
    have c1 : w1.cell? ⟨w.heap.size, 1, none⟩ = some (.int .u16 y) := by rw [hb1'.cell (by simp), World.cell?_alloc_at _ _ _ _ rfl]; rfl
    have hs1 : w.heap.size < w1.heap.size := by have := hb1'.size; simp at this; omega
    clear hb1'
    have ha' := ha.below hw1
    have hb' := hb.below hw1
    go_wp2_with (first | (at_builtin; refine wpList_append_bytes (ob_made w1 _) (ha'.alloc _) elB (by simp; omega) (by simp; omega) (by simp) ?_ _ _ rfl rfl rfl rfl; intro v3 w3 ho3 hg3 hb3 _; have hbs3 := hb'.below (((Below.refl _ _).alloc (Nat.le_refl _) _).trans hb3); have hsz3 := hb3.size) | (at_builtin; go_must (refine wpList_append_bytes ho3 hbs3 elB (by simp; omega) (by simp; omega) (by simp at hsz3; omega) ?_ _ _ rfl rfl rfl rfl); intro v4 w4 ho4 hg4 hb4 _))
    have hst : Below w1.heap.size w1 w4 := ((Below.refl _ _).alloc (Nat.le_refl _) _).trans (hb3.trans hb4)
    have hw4 := hw1.trans (hst.mono hw1.size)
    have hob : Ob w4 w1.heap.size 5 v4 (la ++ lb) := by simpa using ho4
    have d0 : w4.cell? ⟨w.heap.size, 0, none⟩ = some (.int .u16 x) := by rw [hst.cell hs1]; exact c0
    have d1 : w4.cell? ⟨w.heap.size, 1, none⟩ = some (.int .u16 y) := by rw [hst.cell hs1]; exact c1
    have hs4 : w.heap.size < w4.heap.size := by have := hst.size; omega
    have hs14 := hst.size
    clear ho4 ho3 hb3 hb4 hg3 hg4 hbs3 hsz3 c0 c1 ha' hb' hst
    refine (sum_any _ _ _ hob.bs).mono ?_
    rintro e w5 ⟨rfl, hb5⟩
    have hw5 := hw4.trans (hb5.mono hw4.size)
    have ho5 := hob.below hb5
    have d0 : w5.cell? ⟨w.heap.size, 0, none⟩ = some (.int .u16 x) := by rw [hb5.cell hs4]; exact d0
    have d1 : w5.cell? ⟨w.heap.size, 1, none⟩ = some (.int .u16 y) := by rw [hb5.cell hs4]; exact d1
    go_wp2_with fail
    refine (sum_any _ _ _ (ha.below hw5)).mono ?_
    rintro e w6 ⟨rfl, hb6⟩
    have hw6 := hw5.trans (hb6.mono hw5.size)
    have ho6 := ho5.below hb6
    have hs5 : w.heap.size < w5.heap.size := by have := hb5.size; omega
    have d0 : w6.cell? ⟨w.heap.size, 0, none⟩ = some (.int .u16 x) := by rw [hb6.cell hs5]; exact d0
    have d1 : w6.cell? ⟨w.heap.size, 1, none⟩ = some (.int .u16 y) := by rw [hb6.cell hs5]; exact d1
    have hmm := more_any (csum la) (cmore_lt _ _) _ _ _ (hb.below hw6)
    rw [cmore_csum] at hmm
    go_wp2_with fail
    refine hmm.mono ?_
    rintro e w7 ⟨rfl, hb7⟩
    have hw7 := hw6.trans (hb7.mono hw6.size)
    have ho7 := ho6.below hb7
    have hs6 : w.heap.size < w6.heap.size := by have := hb6.size; omega
    have d0 : w7.cell? ⟨w.heap.size, 0, none⟩ = some (.int .u16 x) := by rw [hb7.cell hs6]; exact d0
    have d1 : w7.cell? ⟨w.heap.size, 1, none⟩ = some (.int .u16 y) := by rw [hb7.cell hs6]; exact d1
    have hs7 : w.heap.size < w7.heap.size := by have := hb7.size; omega
    have hB7 : w1.heap.size ≤ w7.heap.size := by have := hb7.size; have := hb6.size; have := hb5.size; omega
    clear hmm hb5 hb6 hb7 ho5 ho6 hob hs4 hs5 hs6 hw4 hw5 hw6 hs14
    obtain ⟨all, hall⟩ : ∃ all, all = la ++ lb := ⟨_, rfl⟩
    rw [← hall] at ho7
    rw [← hall]
    have hlen : all.length = la.length + lb.length := by rw [hall]; simp
    have HLEN := Lib.hid hlen
    have hle : all.length ≤ 6000 := by omega
    clear hall hlen
    by_cases hz : all.length = 0
    · obtain ⟨a7, c7, adr7, rfl, _, _, _, _, _⟩ := Bs.open_n elB ho7.bs 0 hz
      go_wp2
      go_ret
      exact ⟨rfl, hw7⟩
    · obtain ⟨g, c, rfl, hc1, hc2, hg1, hg2, hcell, hfz⟩ := Ob.open_ ho7 (by omega)
      have hzz : ((all.length : Int) == 0) = false := by rw [beq_eq_false_iff_ne]; omega
      by_cases hy0 : y % 256 = 0
      · have hyy : (((y % 256 : Nat) : Int) == 0) = true := by clear hand; rw [beq_iff_eq]; omega
        go_wp2
        go_ret
        exact ⟨rfl, hw7⟩
      · have hyy : (((y % 256 : Nat) : Int) == 0) = false := by clear hand; rw [beq_eq_false_iff_ne]; omega
        have hj : x % all.length < all.length := Nat.mod_lt _ (by omega)
        obtain ⟨j, hjd⟩ : ∃ j, j = x % all.length := ⟨_, rfl⟩
        rw [← hjd] at hj
        obtain ⟨p, hp⟩ : ∃ p, all[j]? = some p := ⟨_, List.getElem?_eq_getElem hj⟩
        have hpc := hcell j p hp
        have hpf := hfz j
        have hrem : (x : Int).tmod (all.length : Int) = (j : Int) := by rw [hjd, Int.tmod_eq_emod_of_nonneg (by omega)]; simp
        have hrem2 : (x : Int) % (all.length : Int) = (j : Int) := by rw [hjd]; simp
        have hj2 : (j : Int) < (all.length : Int) := by omega
        have hj3 : (0 : Int) ≤ (j : Int) := by omega
        have hzero : ((all.length : Int) == 0) = false := by rw [beq_eq_false_iff_ne]; omega
        clear hjd hcell hfz
        go_wp2
        go_region
        go_wp2_with fail
        have hpn := p.toNat_lt
        obtain ⟨nb, hnb⟩ : ∃ nb, nb = UInt8.ofNat (p.toNat ^^^ (y % 256)) := ⟨_, rfl⟩
        have hval : bits BinOp.xor IntKind.u8 (p.toNat : Int) ((y : Int) % 256) = (nb.toNat : Int) := by
          rw [hnb, u8_xor _ _ (by omega) (by omega) (by omega) (by omega), show (p.toNat : Int).toNat = p.toNat by omega, show ((y : Int) % 256).toNat = y % 256 by omega, UInt8.toNat_ofNat',
            Nat.mod_eq_of_lt (Nat.xor_lt_two_pow (n := 8) hpn (by omega))]
        have hne := csum_set all j p nb hp (by rw [hnb]; exact u8_xor_ne p (y % 256) (by omega) hy0)
        have hset := Ob.set ho7 j nb
        rw [← hval] at hset
        clear hnb
        refine (sum_any _ _ _ hset.drew.bs).mono ?_
        rintro e w8 ⟨rfl, hb8⟩
        have HNE : Hid ((((csum (all.set j nb) : Nat) : Int) != (csum all : Nat)) = true) := by
          show _ = _
          rw [bne_iff_ne]; omega
        clear hne hset hval
        go_wp2
        go_ret
        have hsz : (w7.setCell ⟨g, j, none⟩ (Value.int IntKind.u8 (bits BinOp.xor IntKind.u8 (p.toNat : Int) ((y : Int) % 256)))).drew.heap.size = w7.heap.size := by simp [World.setCell, World.drew]
        exact ⟨ret_bool HNE.out, (hw7.setCell (by show w.heap.size ≤ g; omega) _).drew.trans (hb8.mono (by rw [hsz]; exact hw7.size))⟩
  · by_cases hla : la.length ≤ 3000
    · have hd1 : decide ((3000 : Int) < la.length) = false := by simp; omega
      have hd2 : decide ((3000 : Int) < lb.length) = true := by simp; omega
      go_enter Try.func6, Try.ntmps6
      go_wp2_with fail
      refine (awake2 _).mono ?_
      rintro e w1 ⟨rfl, hb1'⟩
      go_wp2
      go_ret
      exact ⟨rfl, ((Below.refl _ _).alloc (Nat.le_refl _) _).trans (hb1'.mono (by simp))⟩
    · have hd1 : decide ((3000 : Int) < la.length) = true := by simp; omega
      go_enter Try.func6, Try.ntmps6
      go_wp2_with fail
      refine (awake2 _).mono ?_
      rintro e w1 ⟨rfl, hb1'⟩
      go_wp2
      go_ret
      exact ⟨rfl, ((Below.refl _ _).alloc (Nat.le_refl _) _).trans (hb1'.mono (by simp))⟩


theorem pieces_walk (va : Value) (la : List UInt8) (vb : Value) (lb : List UInt8) (vp : Value) (xy : Int × Int) (w : World) (ha : Bs w va la) (hb : Bs w vb lb)
    (hp : vp = .agg #[.int .u16 xy.1, .int .u16 xy.2] ∧ (0 ≤ xy.1 ∧ xy.1 < 65536) ∧ (0 ≤ xy.2 ∧ xy.2 < 65536)) :
    Calls Try.prog 6 #[va, vb, vp] w fun e w' => e = .returned (.bool true) ∧ Below w.heap.size w w' := by
  obtain ⟨x, y⟩ := xy
  obtain ⟨rfl, hx, hy⟩ := hp
  obtain ⟨m, rfl⟩ := Int.eq_ofNat_of_zero_le hx.1
  obtain ⟨n, rfl⟩ := Int.eq_ofNat_of_zero_le hy.1
  exact pieces_nat va vb la lb m n w ha hb (by omega) (by omega)

end Go.Proofs.Ytkgfcaoeldfbdaa
