/- Layer 8 (hmac): plain. -/
import Derived.Test.YtmhgdddnjnichaaDoorShaP
namespace Go.Proofs.YtmhgdddnjnichaaDoor

def hkey (key : List UInt8) : List UInt8 := if 64 < key.length then shaSum key else key
def hbyte (key : List UInt8) (i : Nat) : UInt8 := (hkey key)[i]?.getD 0
def hpad (key : List UInt8) (x : UInt8) : List UInt8 := (List.range 64).map fun i => hbyte key i ^^^ x
def htag (key b : List UInt8) : List UInt8 := shaSum (hpad key 92 ++ shaSum (hpad key 54 ++ b))
def hderive (key name b : List UInt8) : List UInt8 := htag key (name ++ 0 :: b)

theorem hkey_len (key : List UInt8) : (hkey key).length ≤ 64 := by
  unfold hkey
  split
  · rw [shaSum_len]; omega
  · omega
theorem hpad_len (key : List UInt8) (x : UInt8) : (hpad key x).length = 64 := by simp [hpad]
theorem htag_len (key b : List UInt8) : (htag key b).length = 32 := shaSum_len _
theorem hbyte_in (key : List UInt8) (i : Nat) (x : UInt8) (h : (hkey key)[i]? = some x) : hbyte key i = x := by unfold hbyte; rw [h]; rfl
theorem hbyte_out (key : List UInt8) (i : Nat) (h : (hkey key).length ≤ i) : hbyte key i = 0 := by unfold hbyte; rw [List.getElem?_eq_none h]; rfl

/-- the pads' cells, while they are written -/
def hcell (key : List UInt8) (x : UInt8) (k j : Nat) : UInt8 := if j < k then hbyte key j ^^^ x else 0
theorem hcell_put (key : List UInt8) (x : UInt8) (k j : Nat) : (if j = k then hbyte key k ^^^ x else hcell key x k j) = hcell key x (k + 1) j := by
  unfold hcell
  by_cases h : j = k
  · subst h
    rw [if_pos rfl, if_pos (by omega)]
  · rw [if_neg h]
    by_cases h2 : j < k
    · rw [if_pos h2, if_pos (by omega)]
    · rw [if_neg h2, if_neg (by omega)]
theorem hcell_all (key : List UInt8) (x : UInt8) : (List.range 64).map (hcell key x 64) = hpad key x := by
  unfold hpad
  apply List.map_congr_left
  intro j hj
  unfold hcell
  rw [if_pos (List.mem_range.1 hj)]
theorem hblk_snoc (key : List UInt8) (x : UInt8) (k : Nat) : (List.range (k + 1)).map (fun i => hbyte key i ^^^ x) = (List.range k).map (fun i => hbyte key i ^^^ x) ++ [hbyte key k ^^^ x] := by
  rw [List.range_succ, List.map_append]
  rfl

/-- a key and the same with noughts behind it, and a long key and its sum -/
theorem hbyte_noughts (key : List UInt8) (n : Nat) (h : key.length + n ≤ 64) : hbyte (key ++ List.replicate n 0) = hbyte key := by
  funext i
  unfold hbyte hkey
  rw [if_neg (by simp; omega), if_neg (by omega)]
  by_cases hi : i < key.length
  · rw [List.getElem?_append_left hi]
  · rw [List.getElem?_append_right (by omega), List.getElem?_eq_none (l := key) (by omega)]
    by_cases h2 : i - key.length < n
    · rw [List.getElem?_replicate, if_pos h2]; rfl
    · rw [List.getElem?_eq_none (by simp; omega)]
theorem hbyte_long (key : List UInt8) (h : 64 < key.length) : hbyte (shaSum key) = hbyte key := by
  funext i
  unfold hbyte hkey
  rw [if_neg (by rw [shaSum_len]; omega), if_pos h]
theorem htag_congr {k1 k2 : List UInt8} (h : hbyte k1 = hbyte k2) (b : List UInt8) : htag k1 b = htag k2 b := by
  unfold htag hpad
  rw [h]

end Go.Proofs.YtmhgdddnjnichaaDoor
