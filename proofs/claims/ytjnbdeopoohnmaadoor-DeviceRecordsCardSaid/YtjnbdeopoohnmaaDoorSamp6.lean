/- Samp6: Samp6, Samp7 as one text. -/
import Derived.Test.YtjnbdeopoohnmaaDoorSamp5
import Derived.Test.YtjnbdeopoohnmaaDoorSamp2
import Derived.Test.YtjnbdeopoohnmaaDoorReader
import Derived.Test.YtjnbdeopoohnmaaDoorRReader
/- The walk of Take of layer 5 (sample). -/
namespace Go.Proofs.YtjnbdeopoohnmaaDoor
open Go.RowKit Go.Sort

theorem stake_out {l : List UInt8} {n : Int} (h : n < 0 ∨ 2048 < n) : stake l n = ([], 0, 3) := by unfold stake; rw [if_pos h]
theorem stake_in {l : List UInt8} {n : Int} (h : ¬ (n < 0 ∨ 2048 < n)) : stake l n = sgo l n.toNat 0 szero 0 [] := by unfold stake; rw [if_neg h]

theorem rdr_abide {g A : Nat} {y : Value} {l : List UInt8} {B : Nat} (hg : g < A) (hB : B ≤ A) (hy : l ≠ [] → ∀ k, y.ownBlock = some k → k < B) : Abide A (fun pos W => Rdr W g y l pos 0) := fun pos W W' h hb =>
  h.only (F := fun k => A ≤ k) ⟨hb.os, hb.tape, hb.output, hb.size, fun k _ hk => hb.block k (by omega)⟩ (by omega) (fun hl k hk e => by have := hy hl k hk; omega)

end Go.Proofs.YtjnbdeopoohnmaaDoor
/- The walk of Take of layer 5's reference. -/
namespace Go.Proofs.YtjnbdeopoohnmaaDoor
open Go.RowKit Go.Sort

theorem rstake_out {l : List UInt8} {n : Int} (h : n < 0 ∨ 2048 < n) : stake l n = ([], 0, 3) := by unfold stake; rw [if_pos h]
theorem rstake_in {l : List UInt8} {n : Int} (h : ¬ (n < 0 ∨ 2048 < n)) : stake l n = sgo l n.toNat 0 szero 0 [] := by unfold stake; rw [if_neg h]

theorem rrd_abide {g A : Nat} {y : Value} {l : List UInt8} {B : Nat} (hg : g < A) (hB : B ≤ A) (hy : l ≠ [] → ∀ k, y.ownBlock = some k → k < B) : Abide A (fun pos W => RRd W g y l pos 0) := fun pos W W' h hb =>
  h.only (F := fun k => A ≤ k) ⟨hb.os, hb.tape, hb.output, hb.size, fun k _ hk => hb.block k (by omega)⟩ (by omega) (fun hl k hk e => by have := hy hl k hk; omega)

end Go.Proofs.YtjnbdeopoohnmaaDoor
