/- The plain law of frames: what is framed is taken; cut off it is none. -/
import Derived.Test.YticpmkdlnjnfgaaFrameWhole
import Derived.Test.YticpmkdlnjnfgaaVBspec
namespace Go.Proofs.Yticpmkdlnjnfgaa

theorem vgo_short (n : Nat) : ∀ (i m j : Nat), n * 128 ^ i < 18446744073709551616 → i ≤ 9 → j < (vput n).length → vgo ((vput n).take j) i m = (0, 0, 10) := by
  induction n using Nat.strongRecOn with
  | _ n ih =>
    intro i m j hb hi hj
    have h9 : i = 9 → n ≤ 1 := by
      rintro rfl
      have : (128 : Nat) ^ 9 = 9223372036854775808 := by decide
      rw [this] at hb
      omega
    by_cases hn : n < 128
    · rw [vput_small hn] at *
      have : j = 0 := by simpa using hj
      subst this
      rfl
    · rw [vput_big hn] at *
      cases j with
      | zero => rfl
      | succ j =>
        rw [List.take_succ_cons, vgo]
        have hc : (UInt8.ofNat (128 + n % 128)).toNat = 128 + n % 128 := by simp; omega
        rw [hc, if_neg (by omega), if_neg (by omega)]
        have hd : n / 128 * 128 ^ (i + 1) + n % 128 * 128 ^ i = n * 128 ^ i := by
          rw [Nat.pow_succ, Nat.mul_comm (128 ^ i) 128, ← Nat.mul_assoc, ← Nat.add_mul]
          congr 1
          omega
        exact ih (n / 128) (by omega) (i + 1) _ j (by omega) (by omega) (by simpa using hj)

theorem vtake_short (n j : Nat) (h : n < 18446744073709551616) (hj : j < (vput n).length) : vtake ((vput n).take j) = (0, 0, 10) := vgo_short n 0 0 j (by simpa using h) (by omega) hj

theorem fframe_len (k : UInt8) (c : List UInt8) : (fframe k c).length = 2 + (vput c.length).length + c.length + 4 := by
  unfold fframe fhead
  simp [cbytes_len]
  omega

theorem fframe_eq (k : UInt8) (c : List UInt8) : fframe k c = 199 :: k :: (vput c.length ++ (c ++ cbytes (csum (fhead k c)))) := by
  unfold fframe
  conv => lhs; lhs; unfold fhead
  simp

theorem ftake_frame (k : UInt8) (c more : List UInt8) (hc : c.length ≤ 1048576) : ftake (fframe k c ++ more) = (k, c, (fframe k c).length, 0) := by
  have hl := fframe_len k c
  have hv := vtake_vput c.length (by omega) (c ++ cbytes (csum (fhead k c)) ++ more)
  have hd : (fframe k c ++ more).drop 2 = vput c.length ++ (c ++ cbytes (csum (fhead k c)) ++ more) := by rw [fframe_eq]; simp
  have hh : (fhead k c).length = 2 + (vput c.length).length + c.length := by simp [fhead]; omega
  have hfr : fframe k c ++ more = fhead k c ++ (cbytes (csum (fhead k c)) ++ more) := by unfold fframe; simp
  unfold ftake
  rw [hd, hv]
  simp only
  rw [if_neg (by rw [List.length_append]; omega), if_neg (by rw [fframe_eq]; simp), if_neg (by rw [List.length_append]; omega), if_neg (by simp), if_neg (by omega), if_neg (by rw [List.length_append]; omega)]
  have h1 : (fframe k c ++ more).take (2 + (vput c.length).length + c.length) = fhead k c := by
    rw [hfr, ← hh]; exact List.take_left
  have h2 : ((fframe k c ++ more).drop (2 + (vput c.length).length + c.length)).take 4 = cbytes (csum (fhead k c)) := by
    rw [hfr, ← hh, List.drop_left, List.take_append_of_le_length (by rw [cbytes_len]; omega)]
    exact List.take_of_length_le (by rw [cbytes_len]; omega)
  rw [h1, h2, if_neg (by simp)]
  refine Prod.ext ?_ (Prod.ext ?_ (Prod.ext ?_ rfl))
  · rw [fframe_eq]; simp
  · show ((fframe k c ++ more).drop (2 + (vput c.length).length)).take c.length = c
    rw [← List.drop_drop, hd, List.drop_left]
    rw [List.append_assoc]
    exact List.take_left
  · show _ = (fframe k c).length
    rw [hl]

theorem fwhole_frame (k : UInt8) (c : List UInt8) (hc : c.length ≤ 1048576) : fwhole k (fframe k c) = (c, 0) := by
  have h := ftake_frame k c [] hc
  rw [List.append_nil] at h
  unfold fwhole
  rw [h]
  simp

theorem ftake_cut (k : UInt8) (c : List UInt8) (cut : Nat) (hc : c.length ≤ 1048576) (h : cut < (fframe k c).length) : (ftake ((fframe k c).take cut)).2.2.2 = 10 := by
  have hl := fframe_len k c
  have hlen : ((fframe k c).take cut).length = cut := by rw [List.length_take]; omega
  unfold ftake
  rw [hlen]
  by_cases h0 : cut = 0
  · rw [if_pos h0]
  · rw [if_neg h0]
    have hx : ((fframe k c).take cut)[0]? = some 199 := by rw [List.getElem?_take, if_pos (by omega), fframe_eq]; rfl
    rw [hx, if_neg (by simp)]
    by_cases h1 : cut = 1
    · rw [if_pos h1]
    · rw [if_neg h1]
      obtain ⟨j, rfl⟩ : ∃ j, cut = j + 2 := ⟨cut - 2, by omega⟩
      have hd : ((fframe k c).take (j + 2)).drop 2 = (vput c.length ++ (c ++ cbytes (csum (fhead k c)))).take j := by rw [fframe_eq]; simp
      rw [hd]
      by_cases hj : j < (vput c.length).length
      · rw [List.take_append_of_le_length (by omega), vtake_short _ _ (by omega) hj]
        rfl
      · have e : (vput c.length ++ (c ++ cbytes (csum (fhead k c)))).take j = vput c.length ++ (c ++ cbytes (csum (fhead k c))).take (j - (vput c.length).length) := by
          rw [List.take_append, List.take_of_length_le (by omega)]
        rw [e, vtake_vput _ (by omega)]
        simp only
        rw [if_neg (by simp), if_neg (by omega), if_pos (by omega)]

end Go.Proofs.Yticpmkdlnjnfgaa
