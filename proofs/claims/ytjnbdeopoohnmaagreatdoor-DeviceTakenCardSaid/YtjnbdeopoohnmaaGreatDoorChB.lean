/- Layer 11 (challenge): ChallengeBack: what is answered is taken; clash. -/
import Derived.Test.YtjnbdeopoohnmaaGreatDoorCh5
import Derived.Deep.RegionHeld3
import Derived.Deep.RegionLaw
import Derived.Deep.CutBlock
set_option linter.unusedSimpArgs false
namespace Go.Proofs.YtjnbdeopoohnmaaGreatDoor
open Go.RowKit Go.Sort

theorem ccheck_cans {l : List RK} {b q q0 : List UInt8} {now slack at' : Int} {t : Tok} (hm : cmay q now = true) (hs : 0 ≤ slack) (hv : tverify l b now = (t, 0)) (h0 : cmay q0 at' = true) :
    ccheck l b q (cans (cdev l b).1 q0 at') now slack = if slack < at' - now ∨ slack < now - at' then (tz, 22) else
            if (ctag (cdev l b).1 q0 at' == ctag (cdev l b).1 q at') = false then (tz, 21) else (t, 0) := by
  have hat := ((cmay_iff q0 at').1 h0).2
  have hw := cmay_wf h0
  obtain ⟨key, hkey⟩ : ∃ k, (cdev l b).1 = k := ⟨_, rfl⟩
  have hbl := cbody_len key q0 hw
  have htl := ctag_len key q0 at'
  have hf := fwhole_frame 6 (cbody key q0 at') (by omega)
  obtain ⟨tg, htg⟩ : ∃ x, ctag key q0 at' = x := ⟨_, rfl⟩
  have hc : (cbody key q0 at').drop 0 = vput at'.toNat ++ (vput 32 ++ (tg ++ [])) := by
    unfold cbody fnum
    rw [htg]
    simp
  obtain ⟨L, hL⟩ : ∃ L, cbody key q0 at' = L := ⟨_, rfl⟩
  have hlen : L.length = (vput at'.toNat).length + (vput 32).length + tg.length := by
    rw [← hL]
    unfold cbody fnum
    rw [htg]
    simp only [List.length_append]
    omega
  rw [htg] at htl
  rw [hL] at hc hbl hf
  have e1 := rnum_vput (most := 1099511627776) hc (by omega) (by omega)
  have d1 := drop_more hc
  have e7 := rnum_vput (most := 32) d1 (by omega) (by omega)
  have d7 := drop_more d1
  have hb : rbytes 32 L (0 + (vput at'.toNat).length) 0 = (tg, L.length, 0) := by
    unfold rbytes
    rw [e7]
    simp only [ne_eq, not_true_eq_false, if_false]
    rw [if_neg (by omega), d7]
    rw [List.take_append_of_le_length (by omega), List.take_of_length_le (by omega)]
    simp only [Prod.mk.injEq, true_and, and_true]
    omega
  have hcans : cans key q0 at' = fframe 6 L := by unfold cans; rw [hL]
  rw [hkey, hcans, htg, cck_r ⟨hm, hs⟩ hv hf e1 hb, if_neg (by unfold rdone; simp), hkey]
  rw [show ((at'.toNat : Nat) : Int) = at' by omega]

theorem grown_below {w1 X w' : World} {v : Value} {l : List UInt8} {e : Nat} (hX : Below w1.heap.size w1 X) (ho : Ob X w1.heap.size e v l) (hg : X.grownBy w' v.ownBlock) : Below w1.heap.size w1 w' := hX.grown hg hX.size (fun k hk => (ho.lt k hk).1)
theorem two_new (w : World) (o1 o2 : Obj) : ((w.alloc o1).alloc o2).heap[w.heap.size + 1]? = some o2 := by rw [alloc_get, if_pos (by simp)]
theorem two_old (w : World) (o1 o2 : Obj) : ((w.alloc o1).alloc o2).heap[w.heap.size]? = some o1 := by rw [alloc_get, if_neg (by simp), alloc_get, if_pos rfl]
theorem own_ne {X : World} {v : Value} {l : List UInt8} {e B : Nat} (ho : Ob X B e v l) : some X.heap.size ≠ v.ownBlock := fun h => by have := (ho.lt _ h.symm).2; omega

end Go.Proofs.YtjnbdeopoohnmaaGreatDoor
