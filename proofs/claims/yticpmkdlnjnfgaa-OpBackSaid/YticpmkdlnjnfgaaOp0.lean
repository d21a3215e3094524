/- Layer 38 (op): operations as plain data. No function of the program stands here. -/
import Derived.Test.YticpmkdlnjnfgaaRspec
import Derived.Test.YticpmkdlnjnfgaaVBspec
import Derived.Test.YticpmkdlnjnfgaaBase
namespace Go.Proofs.Yticpmkdlnjnfgaa
open Go.RowKit

structure OpD where
  k : Int
  x0 : Int
  x1 : Int
  x2 : Int
  a : List UInt8
  b : List UInt8
  c : List UInt8

/-- how many numbers, how many bytes; is there such a kind -/
def opN (k : Int) : Nat := if k = 1 then 1 else if k = 2 then 3 else if k = 5 then 1 else if k = 9 then 2 else if k = 10 then 2 else if k = 11 then 2 else 0
def opK (k : Int) : Nat := if k = 3 then 2 else if k = 4 then 3 else if k = 5 then 1 else if k = 6 then 1 else if k = 7 then 1 else if k = 8 then 1 else 0
def opIs (k : Int) : Bool := decide (1 ≤ k ∧ k ≤ 11)

def OpD.num (o : OpD) (i : Nat) : Int := if i = 0 then o.x0 else if i = 1 then o.x1 else o.x2
def OpD.part (o : OpD) (i : Nat) : List UInt8 := if i = 0 then o.a else if i = 1 then o.b else o.c
def numOk (n i : Nat) (x : Int) : Bool := decide (0 ≤ x) && (decide (x ≤ 4611686018427387904) && (decide (i < n) || decide (x = 0)))
def partOk (k i : Nat) (l : List UInt8) : Bool := decide (l.length ≤ 1048576) && (decide (i < k) || decide (l.length = 0))
def numsOk (o : OpD) (m : Nat) : Bool := (List.range m).all fun i => numOk (opN o.k) i (o.num i)
def partsOk (o : OpD) (m : Nat) : Bool := (List.range m).all fun i => partOk (opK o.k) i (o.part i)
def opRight (o : OpD) : Bool := opIs o.k && (numsOk o 3 && partsOk o 3)
theorem numsOk_succ (o : OpD) (m : Nat) : numsOk o (m + 1) = (numsOk o m && numOk (opN o.k) m (o.num m)) := by simp [numsOk, List.range_succ, List.all_append]
theorem partsOk_succ (o : OpD) (m : Nat) : partsOk o (m + 1) = (partsOk o m && partOk (opK o.k) m (o.part m)) := by simp [partsOk, List.range_succ, List.all_append]
theorem numsOk_no (o : OpD) (i : Nat) (h : numOk (opN o.k) i (o.num i) = false) (hi : i < 3) : numsOk o 3 = false := by
  unfold numsOk
  rw [List.all_eq_false]
  exact ⟨i, by simpa using hi, by simp [h]⟩
theorem partsOk_no (o : OpD) (i : Nat) (h : partOk (opK o.k) i (o.part i) = false) (hi : i < 3) : partsOk o 3 = false := by
  unfold partsOk
  rw [List.all_eq_false]
  exact ⟨i, by simpa using hi, by simp [h]⟩
def opSame (o p : OpD) : Bool := (o.k == p.k) && ((o.x0 == p.x0) && ((o.x1 == p.x1) && ((o.x2 == p.x2) && ((o.a == p.a) && ((o.b == p.b) && (o.c == p.c))))))

/-- its bytes -/
def opNums (o : OpD) : Nat → List UInt8
  | 0 => []
  | m + 1 => opNums o m ++ vput (o.num m).toNat
def opParts (o : OpD) : Nat → List UInt8
  | 0 => []
  | m + 1 => opParts o m ++ (vput (o.part m).length ++ o.part m)
def opBytes (o : OpD) : List UInt8 := [UInt8.ofNat (o.k % 256).toNat] ++ (opNums o (opN o.k) ++ opParts o (opK o.k))

theorem opN_le (k : Int) : opN k ≤ 3 := by
  unfold opN
  repeat' split
  all_goals omega
theorem opK_le (k : Int) : opK k ≤ 3 := by
  unfold opK
  repeat' split
  all_goals omega

end Go.Proofs.Yticpmkdlnjnfgaa
