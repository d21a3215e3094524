/- Layer 34 (block): the reference's Write. -/
import Derived.Test.YtbonapdainlpjaaBk8
import Derived.Deep.DeepCutAuto
import Derived.Deep.RegionLaw
import Derived.Deep.CutBlock
import Derived.StillTailTactics
set_option linter.unusedSimpArgs false
namespace Go.Proofs.Ytbonapdainlpjaa
open Go.RowKit Go.Sort

theorem bput_snoc (f : Nat → UInt8) (o k : Nat) (l : List UInt8) (x : UInt8) (hx : l[k]? = some x) : (fun j => if j = o + k then x else bput f o (l.take k) j) = bput f o (l.take (k + 1)) := by
  have hk : k < l.length := (List.getElem?_eq_some_iff.1 hx).1
  funext j
  unfold bput
  by_cases h1 : j = o + k
  · subst h1
    rw [if_pos rfl, if_pos (by simp; omega), show o + k - o = k by omega, List.getElem?_take_of_lt (by omega), hx]
    rfl
  · rw [if_neg h1]
    by_cases h2 : o ≤ j ∧ j < o + k
    · rw [if_pos (by simp; omega), if_pos (by simp; omega), List.getElem?_take_of_lt (by omega), List.getElem?_take_of_lt (by omega)]
    · rw [if_neg (by simp; omega), if_neg (by simp; omega)]

def RWritePost (w : World) (B r rb : Nat) (s : BSt) (i : Int) (l : List UInt8) (e : Ending) (w' : World) : Prop :=
  e = .returned (.int .i64 (bwrE s i l)) ∧ RfPost w B r rb (bwrS s i l) w'

set_option maxRecDepth 100000 in
theorem rbWrite_no (r rb : Nat) (p : Int) (s : BSt) (i : Int) (v : Value) (l : List UInt8) (B : Nat) (w : World) (h : RfAt w B r rb p s) (hl : Bs w v l) (hno : bmayE s i ≠ 0 ∨ l.length ≠ 64) :
    Calls Try.prog 32 #[.pointer (some ⟨r, 0, none⟩), .int .i64 i, v] w (RWritePost w B r rb s i l) := by
  unfold RWritePost
  have hS : bwrS s i l = s := by unfold bwrS; rw [if_neg (by rintro ⟨h1, h2⟩; rcases hno with h | h <;> omega)]
  rw [hS]
  have HP := Lib.hid (RfPost.refl h)
  have HM := Lib.hid (rbMay_any r rb p s i B w h)
  obtain ⟨E, hE⟩ : ∃ E, bmayE s i = E := ⟨_, rfl⟩
  unfold bwrE
  rw [hE] at HM hno ⊢
  obtain ⟨a, c, rfl⟩ := hl.shape
  obtain ⟨m, hm⟩ : ∃ m, l.length = m := ⟨_, rfl⟩
  rw [hm] at hno ⊢
  clear h hS hE hl hm
  go_enter Try.func32, Try.ntmps32
  go_wp2_with fail
  refine HM.out.mono ?_
  rintro e w2 ⟨rfl, rfl⟩
  by_cases h0 : E = 0
  · have h64 : m ≠ 64 := by rcases hno with h | h; exact absurd h0 h; exact h
    subst h0
    have e1 : ((m : Int) != 64) = true := by simp; omega
    go_wp2
    go_ret
    exact ⟨rfl, HP.out⟩
  · go_wp2
    go_ret
    exact ⟨rfl, HP.out⟩

/-- a byte is put into the reference's bytes -/
theorem RfAt.byte {w : World} {B r rb : Nat} {p : Int} {s : BSt} (h : RfAt w B r rb p s) (o : Nat) (x : UInt8) :
    RfAt (w.setCell ⟨rb, o, none⟩ (bv x)) B r rb p ⟨s.n, fun j => if j = o then x else s.f j, s.off, s.fu, s.cnt⟩ := by
  have ho := set_only w rb o (bv x)
  exact ⟨h.low, h.lowb, h.n1, h.n2, by rw [ho.block r (heap_lt h.row) h.ne]; exact h.row, by rw [row_setCell h.blk, rowb_set], h.fup, h.fur⟩

theorem rb_ix (rb m : Nat) (z : Int) (o : Nat) (hz : z = o) (ho : o < m) (W : World) : (Instr.indexAt 43 (.slice (some ⟨rb, 0, none⟩) m m) (.int .i64 z)).run Try.prog W = .ok (.pointer (some ⟨rb, o, none⟩)) W := by
  have hT := elB.1
  have hu : Try.prog.elem 43 = 5 := by simp [Program.elem, hT]
  rw [run_indexAt_slice W 43 _ m m .i64 z (by rw [hu]; exact hT), if_pos ⟨by omega, by omega⟩, hu, elB.sizeOf]
  simp [Result.andThen, Addr.add_lit, hz]

theorem ixb (b o n c : Nat) (k : Nat) (hk : k < n) (W : World) : (Instr.indexAt 43 (.slice (some ⟨b, o, none⟩) n c) (.int .i64 (k : Int))).run Try.prog W = .ok (.pointer (some ⟨b, o + k, none⟩)) W := by
  have hT := elB.1
  have hu : Try.prog.elem 43 = 5 := by simp [Program.elem, hT]
  rw [run_indexAt_slice W 43 _ n c .i64 k (by rw [hu]; exact hT), if_pos ⟨by omega, by omega⟩, hu, elB.sizeOf]
  simp [Result.andThen, Addr.add_lit]
theorem Bs.at {w : World} {a : Option Addr} {n c : Nat} {l : List UInt8} (h : Bs w (.slice a n c) l) (h0 : 0 < l.length) :
    ∃ b o, a = some ⟨b, o, none⟩ ∧ ∀ k x, l[k]? = some x → w.cell? ⟨b, o + k, none⟩ = some (bv x) := by
  obtain ⟨_, a', c', he, _, _, _, h5⟩ := h
  simp only [Value.slice.injEq] at he
  obtain ⟨rfl, _, _⟩ := he
  rcases h5 with h5 | ⟨b, off, rfl, _, hc⟩
  · omega
  · exact ⟨b, off, rfl, fun k x hx => hc k _ (by rw [List.getElem?_map, hx]; rfl)⟩

def RLoop (w : World) (B r rb : Nat) (p : Int) (s : BSt) (q k : Nat) (l : List UInt8) (wr : World) : Prop :=
  RfAt wr B r rb p ⟨s.n, bput s.f (q * 64) (l.take k), s.off, s.fu, s.cnt + 1⟩ ∧ Only (rfF r rb) w wr

set_option maxRecDepth 100000 in
set_option maxHeartbeats 1600000 in
theorem rbWrite_ok (r rb : Nat) (p : Int) (s : BSt) (q : Nat) (v : Value) (l : List UInt8) (B : Nat) (w : World) (h : RfAt w B r rb p s) (hl : Bs w v l) (hd : ∀ k, v.ownBlock = some k → ¬ rfF r rb k) (h0 : bmayE s q = 0) (h64 : l.length = 64) (hc0 : 0 ≤ s.cnt) (hc : s.cnt ≤ 4611686018427387904) :
    Calls Try.prog 32 #[.pointer (some ⟨r, 0, none⟩), .int .i64 (q : Int), v] w (RWritePost w B r rb s q l) := by
  unfold RWritePost
  have HM := Lib.hid (rbMay_any r rb p s q B w h)
  rw [h0] at HM
  obtain ⟨hoff, hi0, hi1⟩ := bgood h0
  have n2 := h.n2
  have hcn : RfAt (w.setCell ⟨r, 4, none⟩ (.int .i64 (s.cnt + 1))) B r rb p ⟨s.n, s.f, s.off, s.fu, s.cnt + 1⟩ := h.upd (set_only w r 4 _) (row_setCell h.row 4 _) h.fup h.fur
  have c4 : w.cell? ⟨r, 4, none⟩ = some (.int .i64 s.cnt) := by rw [cell_of_row w r 4 _ _ _ h.row]; rfl
  have f4 := row_free h.row 4
  obtain ⟨W1, hW1⟩ : ∃ W1, w.setCell ⟨r, 4, none⟩ (.int .i64 (s.cnt + 1)) = W1 := ⟨_, rfl⟩
  have ho1 : Only (rfF r rb) w W1 := by rw [← hW1]; exact (set_only w r 4 _).mono fun k _ hk => .inl hk
  rw [hW1] at hcn
  obtain ⟨fi, hfi⟩ : ∃ fi, fuI s.fu = fi := ⟨_, rfl⟩
  have d2 : W1.cell? ⟨r, 2, none⟩ = some (.int .i64 fi) := by rw [cell_of_row W1 r 2 _ _ _ hcn.row, ← hfi]; rfl
  have d3 : W1.cell? ⟨r, 3, none⟩ = some (.int .i64 p) := by rw [cell_of_row W1 r 3 _ _ _ hcn.row]; rfl
  obtain ⟨m, hm⟩ : ∃ m, (if fi = 0 then (min p 64).toNat else 64) = m := ⟨_, rfl⟩
  have hp0 : fi = 0 → 0 ≤ p := fun e => by
    rcases hs : s.fu with _ | ⟨x, y⟩
    · rw [hs] at hfi; rw [← hfi] at e; exact absurd e (by decide)
    · rw [h.fup x y hs]; exact (h.fur x y hs).2.2.1
  have hm64 : m ≤ 64 := by rw [← hm]; split <;> omega
  have hfr : -1 ≤ fi ∧ fi ≤ 9223372036854775807 := by
    rw [← hfi]
    rcases hs : s.fu with _ | ⟨x, y⟩
    · simp [fuI]
    · have := h.fur x y hs; simp only [fuI]; omega
  -- what is left behind the loop
  have fin0 : fi = 0 → bwrE s q l = 50 ∧ ∀ W2, RLoop w B r rb p s q m l W2 → RfPost w B r rb (bwrS s q l) ((W2.setCell ⟨r, 1, none⟩ (.bool true)).setCell ⟨r, 2, none⟩ (.int .i64 (-1))) := fun e => by
    rcases hs : s.fu with _ | ⟨x, y⟩
    · rw [hs] at hfi; rw [← hfi] at e; exact absurd e (by decide)
    · obtain rfl : x = 0 := by rw [hs] at hfi; exact hfi.trans e
      have hpy := h.fup _ _ hs
      refine ⟨by unfold bwrE; rw [if_pos h0, if_pos h64, hs]; rfl, fun W2 ⟨k1, k2⟩ => ?_⟩
      have hS : bwrS s q l = ⟨s.n, bput s.f (q * 64) (l.take m), true, none, s.cnt + 1⟩ := by
        unfold bwrS
        rw [if_pos ⟨h0, h64⟩, hs, ← hm, if_pos e, hpy]
        rfl
      rw [hS]
      have o1 : Only (fun k => k = r) W2 ((W2.setCell ⟨r, 1, none⟩ (.bool true)).setCell ⟨r, 2, none⟩ (.int .i64 (-1))) := (set_only W2 r 1 _).trans (set_only _ r 2 _)
      exact ⟨p, k1.upd o1 (row_setCell (row_setCell k1.row 1 _) 2 _) (fun a b h => (by cases h)) (fun a b h => (by cases h)), k2.trans (o1.mono fun k _ hk => .inl hk)⟩
  have htk : fi ≠ 0 → l.take m = l := fun e => by rw [← hm, if_neg e]; exact List.take_of_length_le (by omega)
  have fin1 : 0 < fi → bwrE s q l = 0 ∧ ∀ W2, RLoop w B r rb p s q m l W2 → RfPost w B r rb (bwrS s q l) (W2.setCell ⟨r, 2, none⟩ (.int .i64 (fi - 1))) := fun e => by
    rcases hs : s.fu with _ | ⟨x, y⟩
    · rw [hs] at hfi; rw [← hfi] at e; exact absurd e (by decide)
    · obtain rfl : x = fi := by rw [hs] at hfi; exact hfi
      have hpy := h.fup _ _ hs
      have hry := h.fur _ _ hs
      refine ⟨by unfold bwrE; rw [if_pos h0, if_pos h64, hs]; exact if_neg (by omega), fun W2 ⟨k1, k2⟩ => ?_⟩
      have hS : bwrS s q l = ⟨s.n, bput s.f (q * 64) (l.take m), s.off, some (x - 1, y), s.cnt + 1⟩ := by
        unfold bwrS
        rw [if_pos ⟨h0, h64⟩, hs, htk (by omega)]
        exact if_neg (by omega)
      rw [hS]
      have o1 : Only (fun k => k = r) W2 (W2.setCell ⟨r, 2, none⟩ (.int .i64 (x - 1))) := set_only W2 r 2 _
      exact ⟨p, k1.upd o1 (row_setCell k1.row 2 _) (fun a b h => by cases h; exact hpy) (fun a b h => by cases h; omega), k2.trans (o1.mono fun k _ hk => .inl hk)⟩
  have fin2 : fi < 0 → bwrE s q l = 0 ∧ ∀ W2, RLoop w B r rb p s q m l W2 → RfPost w B r rb (bwrS s q l) W2 := fun e => by
    rcases hs : s.fu with _ | ⟨x, y⟩
    · refine ⟨by unfold bwrE; rw [if_pos h0, if_pos h64, hs], fun W2 ⟨k1, k2⟩ => ?_⟩
      have hS : bwrS s q l = ⟨s.n, bput s.f (q * 64) (l.take m), s.off, s.fu, s.cnt + 1⟩ := by
        unfold bwrS
        rw [if_pos ⟨h0, h64⟩, hs, htk (by omega)]
        rfl
      rw [hS]
      exact ⟨p, k1, k2⟩
    · rw [hs] at hfi
      have := h.fur _ _ hs
      simp only [fuI] at hfi
      omega
  have hst : RLoop w B r rb p s q 0 l W1 := by
    refine ⟨?_, ho1⟩
    rw [show bput s.f (q * 64) (l.take 0) = s.f by funext j; unfold bput; rw [if_neg (by simp)]]
    exact hcn
  have FIN0 := Lib.hid fin0
  have FIN1 := Lib.hid fin1
  have FIN2 := Lib.hid fin2
  have HST := Lib.hid hst
  obtain ⟨a, c, rfl⟩ := hl.shape
  have HL := Lib.hid hl
  have HD := Lib.hid hd
  have HH := Lib.hid h64
  obtain ⟨ct, hct⟩ : ∃ n, s.cnt = n := ⟨_, rfl⟩
  rw [hct] at c4 hW1 hc0 hc
  rw [h64]
  have HM6 := Lib.hid hm64
  have HMM := Lib.hid hm
  have HI1 := Lib.hid hi1
  have HN2 := Lib.hid n2
  have HP0 := Lib.hid hp0
  have HFR := Lib.hid hfr
  have HFI := Lib.hid hfi
  have q1 : q < 32768 := by omega
  clear h hl hd h0 h64 hoff hi0 hi1 n2 hcn ho1 hfi hm hm64 hfr fin0 fin1 fin2 htk hst hct hp0
  go_enter Try.func32, Try.ntmps32
  go_wp2_with fail
  refine HM.out.mono ?_
  rintro e w2 ⟨rfl, rfl⟩
  go_upto_region 8 with fail
  obtain ⟨nb, hnb⟩ : ∃ nb, decide (fi = 0 ∧ p < 64) = nb := ⟨_, rfl⟩
  have HNB := Lib.hid hnb
  clear hnb
  go_cut [38] (fun c wx => c = .bool nb ∧ wx = W1)
  case first =>
    by_cases h1 : fi = 0
    · by_cases h2 : p < 64
      · have hmv : Hid (Value.bool true = .bool nb) := by show _ = _; rw [← HNB.out]; simp [h1, h2]
        go_wp2
        go_meet
        case rel => exact ⟨hmv.out, rfl⟩
      · have hmv : Hid (Value.bool false = .bool nb) := by show _ = _; rw [← HNB.out]; simp [h1, h2]
        go_wp2
        go_meet
        case rel => exact ⟨hmv.out, rfl⟩
    · have hmv : Hid (Value.bool false = .bool nb) := by show _ = _; rw [← HNB.out]; simp [h1]
      go_wp2
      go_meet
      case rel => exact ⟨hmv.out, rfl⟩
  case rest =>
  obtain ⟨rfl, hwc⟩ := hcut
  subst hwc
  obtain ⟨W1, hW1'⟩ : ∃ W, W = wc := ⟨_, rfl⟩
  subst hW1'
  go_upto_if 38 with fail
  go_cut [8] (fun s8 wx => s8 = .int .i64 (m : Int) ∧ wx = W1)
  case first =>
    cases nb with
    | true =>
      have h12 : fi = 0 ∧ p < 64 := of_decide_eq_true HNB.out
      have hmv : Hid (Value.int IntKind.i64 p = .int .i64 (m : Int)) := by
        show _ = _
        have := HP0.out h12.1
        rw [← HMM.out, if_pos h12.1, show min p 64 = p by omega, Int.toNat_of_nonneg this]
      clear h12
      go_wp2
      go_meet
      case rel => exact ⟨hmv.out, rfl⟩
    | false =>
      have h12 : ¬ (fi = 0 ∧ p < 64) := of_decide_eq_false HNB.out
      have hmv : Hid (Value.int IntKind.i64 64 = .int .i64 (m : Int)) := by
        show _ = _
        rw [← HMM.out]
        by_cases h1 : fi = 0
        · rw [if_pos h1, show min p 64 = 64 by omega]; rfl
        · rw [if_neg h1]; rfl
      clear h12
      go_wp2
      go_meet
      case rel => exact ⟨hmv.out, rfl⟩
  case rest =>
    obtain ⟨rfl, hwc⟩ := hcut
    subst hwc
    go_wp2_with fail
    go_loopw [9] (fun vi wr => ∃ k : Nat, k ≤ m ∧ vi = .int .i64 k ∧ Hid (RLoop w2 B r rb p s q k l wr)) (fun vi _ => m - (intOf vi).toNat)
    case atStart => exact ⟨0, by omega, rfl, HST⟩
    case round =>
      obtain ⟨k, hk, rfl, hp⟩ := hrel
      obtain ⟨R1, R2⟩ := hp.out
      have hm6 := HM6.out
      by_cases hlt : k < m
      · have e1 : (k : Int) < m := by omega
        have c0 : wr.cell? ⟨r, 0, none⟩ = some (.slice (some ⟨rb, 0, none⟩) (s.n * 64) (s.n * 64)) := by rw [cell_of_row wr r 0 _ _ _ R1.row]; rfl
        have hlr := HL.out.only R2 HD.out
        obtain ⟨sb, so, ha, hac⟩ := hlr.at (by rw [HH.out]; omega)
        subst ha
        have hix := ixb sb so 64 c k (by omega)
        have hsb : sb ≠ rb := fun e => HD.out sb rfl (.inr e)
        have hbs : rb ≠ sb := fun e => hsb e.symm
        have hrb := R1.ne
        obtain ⟨x, hx⟩ : ∃ x, l[k]? = some x := ⟨_, List.getElem?_eq_getElem (by rw [HH.out]; omega)⟩
        have cx : wr.cell? ⟨sb, so + k, none⟩ = some (.int .u8 (x.toNat : Int)) := hac k x hx
        have hq := HI1.out
        have hix2 := rb_ix rb (s.n * 64) (64 * (q : Int) + k) (q * 64 + k) (by omega) (by omega)
        obtain ⟨z, hz⟩ : ∃ z, wr.cell? ⟨rb, q * 64 + k, none⟩ = some z := ⟨_, by rw [cell_of_row wr _ _ _ _ _ R1.blk, rowb_get _ (by show _ < s.n * 64; omega)]⟩
        have fz := row_free R1.blk (q * 64 + k)
        have hne := R1.ne
        have hnext : Hid (RLoop w2 B r rb p s q (k + 1) l (wr.drew.setCell ⟨rb, q * 64 + k, none⟩ (.int .u8 (x.toNat : Int)))) := by
          have h1 := (R1.below (Below.refl _ _).drew).byte (q * 64 + k) x
          have e := bput_snoc s.f (q * 64) k l x hx
          refine ⟨?_, (only_drew R2).trans ((set_only wr.drew rb (q * 64 + k) (bv x)).mono fun k _ hk => .inr hk)⟩
          rw [← e]
          exact h1
        have HX := Lib.hid hx
        have HR1 := Lib.hid R1
        have HR2 := Lib.hid R2
        obtain ⟨N, hN⟩ : ∃ N, s.n * 64 = N := ⟨_, rfl⟩
        rw [hN] at c0 hix2
        have hm7 : m ≤ 64 := hm6
        have w1 : IntKind.i64.wrap (64 * (q : Int)) = 64 * q := by rw [IntKind.wrap_i64]; omega
        have w2' : IntKind.i64.wrap (64 * (q : Int) + k) = 64 * q + k := by rw [IntKind.wrap_i64]; omega
        clear hac hx hq R1 R2 hN hlr hm6
        go_wp2
        go_still_tail 13, (by kernel_rfl)
        change wpList _ _ _ _ _ wr.drew
        go_wp2
        go_roundw
        case rel => exact ⟨k + 1, by omega, by go_num, hnext⟩
        case measure => simp [intOf]; omega
      · obtain rfl : k = m := by omega
        have c2 : wr.cell? ⟨r, 2, none⟩ = some (.int .i64 fi) := by rw [cell_of_row wr r 2 _ _ _ R1.row, ← HFI.out]; rfl
        have c1 : wr.cell? ⟨r, 1, none⟩ = some (.bool s.off) := by rw [cell_of_row wr r 1 _ _ _ R1.row]; rfl
        have f1 := row_free R1.row 1
        have f2 := row_free R1.row 2
        clear R1 R2 hm6
        by_cases hz : fi = 0
        · have FF := FIN0.out hz
          have HF2 := Lib.hid (FF.2 wr hp.out)
          have HE := Lib.hid FF.1
          clear FF
          subst hz
          go_wp2
          go_ret
          exact ⟨by rw [HE.out]; rfl, HF2.out⟩
        · by_cases hp1 : 0 < fi
          · have FF := FIN1.out hp1
            have HF2 := Lib.hid (FF.2 wr hp.out)
            have HE := Lib.hid FF.1
            have hb1 : -1 ≤ fi := HFR.out.1
            have hb2 : fi ≤ 9223372036854775807 := HFR.out.2
            have hw : IntKind.i64.wrap (fi - 1) = fi - 1 := by rw [IntKind.wrap_i64]; omega
            clear FF
            go_wp2
            go_ret
            exact ⟨by rw [HE.out]; rfl, HF2.out⟩
          · have FF := FIN2.out (by omega)
            have HF2 := Lib.hid (FF.2 wr hp.out)
            have HE := Lib.hid FF.1
            clear FF
            go_wp2
            go_ret
            exact ⟨by rw [HE.out]; rfl, HF2.out⟩

theorem rbWrite_any (r rb : Nat) (p : Int) (s : BSt) (i : Int) (v : Value) (l : List UInt8) (B : Nat) (w : World) (h : RfAt w B r rb p s) (hl : Bs w v l) (hd : ∀ k, v.ownBlock = some k → ¬ rfF r rb k) (hc0 : 0 ≤ s.cnt) (hc : s.cnt ≤ 4611686018427387904) :
    Calls Try.prog 32 #[.pointer (some ⟨r, 0, none⟩), .int .i64 i, v] w (RWritePost w B r rb s i l) := by
  by_cases h0 : bmayE s i = 0
  · by_cases h64 : l.length = 64
    · obtain ⟨_, hi0, _⟩ := bgood h0
      obtain ⟨q, rfl⟩ : ∃ q : Nat, i = q := ⟨i.toNat, by omega⟩
      exact rbWrite_ok r rb p s q v l B w h hl hd h0 h64 hc0 hc
    · exact rbWrite_no r rb p s i v l B w h hl (.inr h64)
  · exact rbWrite_no r rb p s i v l B w h hl (.inl h0)

end Go.Proofs.Ytbonapdainlpjaa
