/- Tok6: Tok5, Tok6 as one text. -/
import Derived.Test.YtjnbdeopoohnmaaDoorTok4
import Derived.Test.YtjnbdeopoohnmaaDoorTok2
import Derived.Test.YtjnbdeopoohnmaaDoorRingS
import Derived.Test.YtjnbdeopoohnmaaDoorShaQ
import Derived.Test.YtjnbdeopoohnmaaDoorRingR
import Derived.Deep.RegionHeld3
import Derived.Deep.CutBlock
import Derived.Deep.DeepCutAuto
/- Layer 10 (token): Verify, plain and its walks. -/
set_option linter.unusedSimpArgs false
namespace Go.Proofs.YtjnbdeopoohnmaaDoor
open Go.RowKit Go.Sort

def tverify (l : List RK) (b : List UInt8) (now : Int) : Tok × Nat :=
  match topen b with
  | (t, tag, e) => if e ≠ 0 then (tz, e) else
    match kf t.ep l with
    | none => (tz, 20)
    | some k => if (tag == ttag k t) = false then (tz, 21) else if now < t.iss ∨ t.til < now then (tz, 22) else (t, 0)
section
variable {l : List RK} {b tag k : List UInt8} {now : Int} {t : Tok} {e : Nat}
theorem tver_e (h : topen b = (t, tag, e)) (he : e ≠ 0) : tverify l b now = (tz, e) := by
  unfold tverify; rw [h]; dsimp only; rw [if_pos he]
theorem tver_key (h : topen b = (t, tag, 0)) (hk : kf t.ep l = none) : tverify l b now = (tz, 20) := by
  unfold tverify; rw [h]; dsimp only; rw [if_neg (by omega), hk]
theorem tver_some (h : topen b = (t, tag, 0)) (hk : kf t.ep l = some k) : tverify l b now = if (tag == ttag k t) = false then (tz, 21) else if now < t.iss ∨ t.til < now then (tz, 22) else (t, 0) := by
  unfold tverify; rw [h]; dsimp only; rw [if_neg (by omega), hk]
theorem topen_ok (h : topen b = (t, tag, 0)) : tmay t = true ∧ tag.length = 32 := by
  obtain ⟨c, f, h0⟩ : ∃ c f, fwhole 2 b = (c, f) := ⟨_, _, rfl⟩
  by_cases hf : f = 0
  · subst hf
    obtain ⟨n1, p1, b1, hv1⟩ : ∃ n p b, rnum 2147483648 c 0 0 = (n, p, b) := ⟨_, _, _, rfl⟩
    obtain ⟨n2, p2, b2, hv2⟩ : ∃ n p b, rnum 2147483648 c p1 b1 = (n, p, b) := ⟨_, _, _, rfl⟩
    obtain ⟨n3, p3, b3, hv3⟩ : ∃ n p b, rnum 4095 c p2 b2 = (n, p, b) := ⟨_, _, _, rfl⟩
    obtain ⟨n4, p4, b4, hv4⟩ : ∃ n p b, rnum 1099511627776 c p3 b3 = (n, p, b) := ⟨_, _, _, rfl⟩
    obtain ⟨n5, p5, b5, hv5⟩ : ∃ n p b, rnum 1099511627776 c p4 b4 = (n, p, b) := ⟨_, _, _, rfl⟩
    obtain ⟨n6, p6, b6, hv6⟩ : ∃ n p b, rnum 1048576 c p5 b5 = (n, p, b) := ⟨_, _, _, rfl⟩
    obtain ⟨tg, p7, b7, hv7⟩ : ∃ n p b, rbytes 32 c p6 b6 = (n, p, b) := ⟨_, _, _, rfl⟩
    rw [topen_r h0 hv1 hv2 hv3 hv4 hv5 hv6 hv7] at h
    split at h
    · simp only [Prod.mk.injEq] at h; omega
    · split at h
      · rename_i hh; simp only [Prod.mk.injEq] at h; obtain ⟨rfl, rfl, _⟩ := h; exact hh
      · simp only [Prod.mk.injEq] at h; omega
  · rw [topen_f h0 hf] at h
    simp only [Prod.mk.injEq] at h; omega
theorem tmay_wf (h : tmay t = true) : t.Wf := by
  have := (tmay_iff t).1 h
  unfold Tok.Wf W64
  omega
theorem topen_wf (h : topen b = (t, tag, 0)) : t.Wf := tmay_wf (topen_ok h).1
end
def VerPost (l : List RK) (b : List UInt8) (now : Int) (w : World) (e : Ending) (w' : World) : Prop :=
  e = .returned (.tuple #[.agg (tverify l b now).1.row, .int .i64 ((tverify l b now).2 : Nat)]) ∧ Below w.heap.size w w'
theorem ver_end {w W : World} {l : List RK} {b : List UInt8} {now : Int} {t t0 : Tok} {e q : Nat} (hq : w.heap.size ≤ q) (ht : tverify l b now = (t, e)) (hb : Below w.heap.size w W) (hg : TAt W q t0) :
    VerPost l b now w (.returned (.tuple #[.agg t.row, .int .i64 (e : Int)])) (W.setRow q t.row) ∧ TAt (W.setRow q t.row) q t := by
  have h1 : Only (fun i => i = q) W (W.setRow q t.row) := setRow_only _ _ _
  refine ⟨⟨by rw [ht], hb.trans (h1.below (fun k hk => by omega) hb.size)⟩, ⟨setRow_heap W q _ t.row _ _ hg.row⟩⟩

end Go.Proofs.YtjnbdeopoohnmaaDoor
/- Layer 10 (token): what is issued opens and verifies; the chapter's example. -/
set_option linter.unusedSimpArgs false
namespace Go.Proofs.YtjnbdeopoohnmaaDoor
open Go.RowKit Go.Sort

theorem topen_issue {t : Tok} (ht : tmay t = true) (k : List UInt8) : topen (fframe 2 (tbody k t)) = (t, ttag k t, 0) := by
  have hwf := tmay_wf ht
  have hbl := tbody_len hwf k
  obtain ⟨⟨h1, z1⟩, ⟨h2, z2⟩, ⟨h3, z3⟩, ⟨h4, z4⟩, ⟨h5, z5⟩, ⟨h6, z6⟩⟩ := (tmay_iff t).1 ht
  have htl := ttag_len k t
  obtain ⟨tg, htg⟩ : ∃ x, ttag k t = x := ⟨_, rfl⟩
  have hc : (tbody k t).drop 0 = vput t.trip.toNat ++ (vput t.acct.toNat ++ (vput t.stop.toNat ++ (vput t.iss.toNat ++ (vput t.til.toNat ++ (vput t.ep.toNat ++ (vput 32 ++ (tg ++ []))))))) := by
    unfold tbody tfields fnum
    rw [htg]
    simp
  obtain ⟨L, hL⟩ : ∃ L, tbody k t = L := ⟨_, rfl⟩
  have hlen : L.length = (vput t.trip.toNat).length + (vput t.acct.toNat).length + (vput t.stop.toNat).length + (vput t.iss.toNat).length + (vput t.til.toNat).length + (vput t.ep.toNat).length + (vput 32).length + tg.length := by
    rw [← hL]
    unfold tbody tfields fnum
    rw [htg]
    simp only [List.length_append]
    omega
  rw [htg] at htl
  rw [hL] at hc hbl ⊢
  rw [htg]
  have e1 := rnum_vput (most := 2147483648) hc (by omega) (by omega)
  have d1 := drop_more hc
  have e2 := rnum_vput (most := 2147483648) d1 (by omega) (by omega)
  have d2 := drop_more d1
  have e3 := rnum_vput (most := 4095) d2 (by omega) (by omega)
  have d3 := drop_more d2
  have e4 := rnum_vput (most := 1099511627776) d3 (by omega) (by omega)
  have d4 := drop_more d3
  have e5 := rnum_vput (most := 1099511627776) d4 (by omega) (by omega)
  have d5 := drop_more d4
  have e6 := rnum_vput (most := 1048576) d5 (by omega) (by omega)
  have d6 := drop_more d5
  have e7 := rnum_vput (most := 32) d6 (by omega) (by omega)
  have d7 := drop_more d6
  have hb : rbytes 32 L (0 + (vput t.trip.toNat).length + (vput t.acct.toNat).length + (vput t.stop.toNat).length + (vput t.iss.toNat).length + (vput t.til.toNat).length + (vput t.ep.toNat).length) 0 = (tg, L.length, 0) := by
    unfold rbytes
    rw [e7]
    simp only [ne_eq, not_true_eq_false, if_false]
    rw [if_neg (by omega), d7]
    rw [List.take_append_of_le_length (by omega), List.take_of_length_le (by omega)]
    simp only [Prod.mk.injEq, true_and, and_true]
    omega
  have hf := fwhole_frame 2 L (by omega)
  have hnum : (⟨(t.trip.toNat : Int), (t.acct.toNat : Int), (t.stop.toNat : Int), (t.iss.toNat : Int), (t.til.toNat : Int), (t.ep.toNat : Int)⟩ : Tok) = t := by
    obtain ⟨a, b, c, d, e, f⟩ := t
    simp only at h1 h2 h3 h4 h5 h6
    simp only [Tok.mk.injEq]
    omega
  rw [topen_r hf e1 e2 e3 e4 e5 e6 hb, hnum, if_neg (by unfold rdone; simp), if_pos ⟨ht, htl⟩]

theorem tver_issue {l : List RK} {t : Tok} (ht : tmay t = true) {k : List UInt8} (hk : kf t.ep l = some k) (now : Int) :
    tverify l (fframe 2 (tbody k t)) now = if now < t.iss ∨ t.til < now then (tz, 22) else (t, 0) := by
  rw [tver_some (topen_issue ht k) hk, if_neg (by simp)]
theorem tver_nokey {l : List RK} {t : Tok} (ht : tmay t = true) {k : List UInt8} (hk : kf t.ep l = none) (now : Int) :
    tverify l (fframe 2 (tbody k t)) now = (tz, 20) := tver_key (topen_issue ht k) hk

theorem issue_ex (k : List UInt8) : (fframe 2 (tbody k ⟨1, 2, 3, 4, 5, 1⟩)).length = 46 := by
  have h1 : vput 1 = [1] := by rw [vput_small (by omega)]; rfl
  have h2 : vput 2 = [2] := by rw [vput_small (by omega)]; rfl
  have h3 : vput 3 = [3] := by rw [vput_small (by omega)]; rfl
  have h4 : vput 4 = [4] := by rw [vput_small (by omega)]; rfl
  have h5 : vput 5 = [5] := by rw [vput_small (by omega)]; rfl
  have h32 : vput 32 = [32] := by rw [vput_small (by omega)]; rfl
  have hl : (tbody k ⟨1, 2, 3, 4, 5, 1⟩).length = 39 := by
    unfold tbody tfields fnum
    simp only [List.length_append, ttag_len]
    rw [show (1 : Int).toNat = 1 from rfl, show (2 : Int).toNat = 2 from rfl, show (3 : Int).toNat = 3 from rfl, show (4 : Int).toNat = 4 from rfl, show (5 : Int).toNat = 5 from rfl, h1, h2, h3, h4, h5, h32]
    rfl
  rw [fframe_len, hl, vput_small (by omega)]
  rfl

end Go.Proofs.YtjnbdeopoohnmaaDoor
