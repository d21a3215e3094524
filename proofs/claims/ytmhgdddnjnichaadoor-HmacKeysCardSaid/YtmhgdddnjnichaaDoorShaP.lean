/- Layer 7 (sha): sums: plain. -/
import Derived.Test.YtmhgdddnjnichaaDoorShaB
namespace Go.Proofs.YtmhgdddnjnichaaDoor

def ktab : List UInt32 := [
  0x428a2f98, 0x71374491, 0xb5c0fbcf, 0xe9b5dba5, 0x3956c25b, 0x59f111f1, 0x923f82a4, 0xab1c5ed5,
  0xd807aa98, 0x12835b01, 0x243185be, 0x550c7dc3, 0x72be5d74, 0x80deb1fe, 0x9bdc06a7, 0xc19bf174,
  0xe49b69c1, 0xefbe4786, 0x0fc19dc6, 0x240ca1cc, 0x2de92c6f, 0x4a7484aa, 0x5cb0a9dc, 0x76f988da,
  0x983e5152, 0xa831c66d, 0xb00327c8, 0xbf597fc7, 0xc6e00bf3, 0xd5a79147, 0x06ca6351, 0x14292967,
  0x27b70a85, 0x2e1b2138, 0x4d2c6dfc, 0x53380d13, 0x650a7354, 0x766a0abb, 0x81c2c92e, 0x92722c85,
  0xa2bfe8a1, 0xa81a664b, 0xc24b8b70, 0xc76c51a3, 0xd192e819, 0xd6990624, 0xf40e3585, 0x106aa070,
  0x19a4c116, 0x1e376c08, 0x2748774c, 0x34b0bcb5, 0x391c0cb3, 0x4ed8aa4a, 0x5b9cca4f, 0x682e6ff3,
  0x748f82ee, 0x78a5636f, 0x84c87814, 0x8cc70208, 0x90befffa, 0xa4506ceb, 0xbef9a3f7, 0xc67178f2]
def shaK (t : Nat) : UInt32 := ktab[t]?.getD 0
def shaInit : St := ⟨0x6a09e667, 0xbb67ae85, 0x3c6ef372, 0xa54ff53a, 0x510e527f, 0x9b05688c, 0x1f83d9ab, 0x5be0cd19⟩

/-- whole blocks, one behind the other -/
def blks (K : Nat → UInt32) (s : St) (l : List UInt8) : St :=
  if _h : 64 ≤ l.length then blks K (blk K s (mword (l.take 64))) (l.drop 64) else s
termination_by l.length
decreasing_by simp [List.length_drop]; omega

theorem blks_go (K : Nat → UInt32) (s : St) {l : List UInt8} (h : 64 ≤ l.length) : blks K s l = blks K (blk K s (mword (l.take 64))) (l.drop 64) := by rw [blks, dif_pos h]
theorem blks_end (K : Nat → UInt32) (s : St) {l : List UInt8} (h : l.length < 64) : blks K s l = s := by rw [blks, dif_neg (by omega)]

/-- the length's eight bytes -/
def len8 (n i : Nat) : UInt8 := UInt8.ofNat (8 * n / 256 ^ (7 - i))
def zeros (n : Nat) : Nat := if 55 < n % 64 then 128 - 9 - n % 64 else 64 - 9 - n % 64
def pad (n : Nat) : List UInt8 := 128 :: (List.replicate (zeros n) 0 ++ (List.range 8).map (len8 n))
def shaOut (s : St) : List UInt8 := (List.range 32).map fun i => UInt8.ofNat ((s.nth (i / 4)).toNat / 2 ^ (24 - 8 * (i % 4)))
/-- the sum of bytes -/
def shaSum (l : List UInt8) : List UInt8 := shaOut (blks shaK shaInit (l ++ pad l.length))

theorem shaSum_len (l : List UInt8) : (shaSum l).length = 32 := by simp [shaSum, shaOut]
theorem pad_len (n : Nat) : (pad n).length = 9 + zeros n := by simp [pad]; omega
/-- the last bytes, by their places -/
theorem tail_at (q n : Nat) (r : List UInt8) (hq : r.length = q) (hn : n % 64 = q) (j : Nat) (hj : j < if 55 < q then 128 else 64) :
    (r ++ pad n)[j]? = some (if j < q then r[j]?.getD 0 else if j = q then 128 else if j < (if 55 < q then 128 else 64) - 8 then 0 else len8 n (j + 8 - if 55 < q then 128 else 64)) := by
  have hq64 : q < 64 := by omega
  have hz : zeros n = (if 55 < q then 128 else 64) - 9 - q := by unfold zeros; rw [hn]; split <;> rfl
  obtain ⟨m, hm⟩ : ∃ m, (if 55 < q then 128 else 64) = m := ⟨_, rfl⟩
  have hm9 : q + 9 ≤ m ∧ m ≤ 128 := by rw [← hm]; split <;> omega
  rw [hm] at hj hz ⊢
  rw [List.getElem?_append, hq]
  split
  · next h => rw [List.getElem?_eq_getElem (by omega)]; simp
  · next h =>
    unfold pad
    by_cases h1 : j = q
    · subst h1; simp
    · rw [if_neg h1, show j - q = (j - q - 1) + 1 by omega, List.getElem?_cons_succ, List.getElem?_append, List.length_replicate, hz]
      split
      · next h2 => rw [if_pos (by omega), List.getElem?_replicate, if_pos h2]
      · next h2 =>
        rw [if_neg (by omega), List.getElem?_map, List.getElem?_range (by omega)]
        show some _ = some _
        congr 2
        omega
theorem tail_len (q n : Nat) (r : List UInt8) (hq : r.length = q) (hn : n % 64 = q) : (r ++ pad n).length = if 55 < q then 128 else 64 := by
  rw [List.length_append, pad_len, hq]
  unfold zeros
  rw [hn]
  split <;> omega

end Go.Proofs.YtmhgdddnjnichaaDoor
