/- Layer 8 (hmac): the chapter's example, reckoned. -/
import Derived.Test.YtjnbdeopoohnmaaGreatDoorShaW
import Derived.Test.YtjnbdeopoohnmaaGreatDoorShaL
import Derived.KernelRfl
namespace Go.Proofs.YtjnbdeopoohnmaaGreatDoor

def sumF : Nat → St → List UInt8 → St
  | 0, s, _ => s
  | n + 1, s, l => sumF n ((rlist s ktab (wrev (mword (l.take 64)) 64).reverse).add s) (l.drop 64)
theorem blks_sumF : ∀ (n : Nat) (s : St) (l : List UInt8), l.length = 64 * n → blks shaK s l = sumF n s l
  | 0, s, l, h => blks_end _ _ (by omega)
  | n + 1, s, l, h => by
    rw [blks_go _ _ (by omega), blk_list]
    exact blks_sumF n _ _ (by rw [List.length_drop]; omega)

def jefe : List UInt8 := [74, 101, 102, 101]
def wantL : List UInt8 := [119, 104, 97, 116, 32, 100, 111, 32, 121, 97, 32, 119, 97, 110, 116, 32, 102, 111, 114, 32, 110, 111, 116, 104, 105, 110, 103, 63]
def wantIn : List UInt8 := [162, 228, 133, 134, 61, 39, 249, 216, 100, 172, 141, 128, 36, 50, 161, 237, 71, 125, 140, 76, 111, 52, 157, 22, 212, 231, 233, 23, 198, 41, 202, 215]
def wantTag : List UInt8 := [91, 220, 193, 70, 191, 96, 117, 78, 106, 4, 36, 38, 8, 149, 117, 199, 90, 0, 63, 8, 157, 39, 57, 131, 157, 236, 88, 185, 100, 236, 56, 67]
theorem want_in : shaSum (hpad jefe 54 ++ wantL) = wantIn := by
  unfold shaSum
  rw [blks_sumF 2 _ _ (by rw [List.length_append, List.length_append, pad_len, hpad_len]; decide)]
  decide +kernel
theorem want_tag : htag jefe wantL = wantTag := by
  unfold htag
  rw [want_in]
  unfold shaSum
  rw [blks_sumF 2 _ _ (by rw [List.length_append, List.length_append, pad_len, hpad_len]; decide)]
  decide +kernel

end Go.Proofs.YtjnbdeopoohnmaaGreatDoor
