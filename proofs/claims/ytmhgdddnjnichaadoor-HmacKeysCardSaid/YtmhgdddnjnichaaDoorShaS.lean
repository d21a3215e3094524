/- Layer 7 (sha): what a block's turn computes: plain. -/
import Derived.Test.YtmhgdddnjnichaaDoorShaW
namespace Go.Proofs.YtmhgdddnjnichaaDoor

structure St where
  a : UInt32
  b : UInt32
  c : UInt32
  d : UInt32
  e : UInt32
  f : UInt32
  g : UInt32
  h : UInt32

def sig0 (x : UInt32) : UInt32 := rotr x 7 ^^^ rotr x 18 ^^^ x >>> UInt32.ofNat 3
def sig1 (x : UInt32) : UInt32 := rotr x 17 ^^^ rotr x 19 ^^^ x >>> UInt32.ofNat 10
def Sg1 (e : UInt32) : UInt32 := rotr e 6 ^^^ rotr e 11 ^^^ rotr e 25
def Sg0 (a : UInt32) : UInt32 := rotr a 2 ^^^ rotr a 13 ^^^ rotr a 22
def chW (e f g : UInt32) : UInt32 := g ^^^ e &&& (f ^^^ g)
def majW (a b c : UInt32) : UInt32 := a &&& b ||| c &&& (a ||| b)

def sched (m : Nat → UInt32) (t : Nat) : UInt32 :=
  if _h : t < 16 then m t else sched m (t - 16) + (sched m (t - 7) + sig0 (sched m (t - 15)) + sig1 (sched m (t - 2)))
termination_by t

theorem sched_lo (m : Nat → UInt32) {t : Nat} (h : t < 16) : sched m t = m t := by rw [sched, dif_pos h]
theorem sched_hi (m : Nat → UInt32) {t : Nat} (h : 16 ≤ t) : sched m t = sched m (t - 16) + (sched m (t - 7) + sig0 (sched m (t - 15)) + sig1 (sched m (t - 2))) := by
  rw [sched, dif_neg (by omega)]

def rone (s : St) (k w : UInt32) : UInt32 := s.h + Sg1 s.e + chW s.e s.f s.g + k + w
def rtwo (s : St) : UInt32 := Sg0 s.a + majW s.a s.b s.c
def rstep (s : St) (k w : UInt32) : St := ⟨rone s k w + rtwo s, s.a, s.b, s.c, s.d + rone s k w, s.e, s.f, s.g⟩
def rnds (K W : Nat → UInt32) (s : St) : Nat → St
  | 0 => s
  | t + 1 => rstep (rnds K W s t) (K t) (W t)
def St.add (s t : St) : St := ⟨s.a + t.a, s.b + t.b, s.c + t.c, s.d + t.d, s.e + t.e, s.f + t.f, s.g + t.g, s.h + t.h⟩
def blk (K : Nat → UInt32) (s : St) (m : Nat → UInt32) : St := (rnds K (sched m) s 64).add s

/-- where the ring's cell j has its word from, ahead of round t -/
def rix (t j : Nat) : Nat := if t ≤ 16 then j else t - 1 - (t - 1 - j) % 16

theorem rix_lo {t j : Nat} (h : t ≤ 16) : rix t j = j := by unfold rix; rw [if_pos h]
/-- the cells that round t (from 16 on) looks into -/
theorem rix_hi {t : Nat} (h : 16 ≤ t) : rix t (t % 16) = t - 16 ∧ rix t ((t % 16 + 1) % 16) = t - 15 ∧ rix t ((t % 16 + 9) % 16) = t - 7 ∧ rix t ((t % 16 + 14) % 16) = t - 2 := by
  unfold rix
  split
  · have : t = 16 := by omega
    subst this
    omega
  · omega
theorem rix_put {t j : Nat} (h : 16 ≤ t) (hj : j < 16) : rix (t + 1) j = if j = t % 16 then t else rix t j := by
  unfold rix
  split <;> split <;> (try split) <;> omega

end Go.Proofs.YtmhgdddnjnichaaDoor
