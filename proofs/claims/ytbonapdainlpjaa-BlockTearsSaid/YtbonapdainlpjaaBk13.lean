/- Layer 34 (block): the walk of the statement BlockTears. -/
import Derived.Test.YtbonapdainlpjaaBk11
import Derived.Deep.DeepCutAuto
import Derived.Deep.CutBlock
set_option linter.unusedSimpArgs false
namespace Go.Proofs.Ytbonapdainlpjaa
open Go.RowKit Go.Sort

theorem Ob.st_off {W : World} {B C g gb : Nat} {fo : Option Nat} {s : BSt} {v : Value} {l : List UInt8} (h : Ob W C 5 v l) (k : StAt W B g gb fo s) : ∀ x, v.ownBlock = some x → ¬ stF g gb fo x := by
  rintro x hx (rfl | rfl | hf)
  · exact h.ne k.row (by decide) hx
  · exact h.ne k.blk (by decide) hx
  · rcases k.fus with ⟨h1, _⟩ | ⟨y, a, b, h1, -, -, -, -, -, -, h8⟩
    · rw [h1] at hf; cases hf
    · rw [h1] at hf; cases hf; exact h.ne h8 (by decide) hx

/-- behind the first loop -/
def TLoop (w : World) (g gb m k : Nat) (W : World) : Prop :=
  ∃ fo F ct, StAt W w.heap.size g gb fo ⟨m, F, false, none, ct⟩ ∧ 0 ≤ ct ∧ ct ≤ (k : Int) ∧ Below w.heap.size w W

theorem TLoop.step {w W W' : World} {g gb m k : Nat} {fo : Option Nat} {F : Nat → UInt8} {ct : Int} {l : List UInt8} (hk : k < m) (h64 : l.length = 64) (h : StAt W w.heap.size g gb fo ⟨m, F, false, none, ct⟩) (h0 : 0 ≤ ct) (h1 : ct ≤ (k : Int)) (hb : Below w.heap.size w W)
    (hp : StPost W w.heap.size g gb fo (bwrS ⟨m, F, false, none, ct⟩ k l) W') : TLoop w g gb m (k + 1) W' := by
  have hm : bmayE ⟨m, F, false, none, ct⟩ k = 0 := by unfold bmayE; rw [if_neg (by simp), if_pos ⟨by omega, by show (k : Int) < (m : Int); omega⟩]
  have e : bwrS ⟨m, F, false, none, ct⟩ k l = ⟨m, bput F (k * 64) l, false, none, ct + 1⟩ := by
    unfold bwrS
    rw [if_pos ⟨hm, h64⟩]
    rfl
  rw [e] at hp
  obtain ⟨fo', k1, k2, k3⟩ := hp
  exact ⟨fo', _, _, k1, by omega, by omega, hb.trans (k2.below (fun x hx => (h.foot x hx).1) hb.size)⟩

theorem bwrE_new {m k : Nat} {F : Nat → UInt8} {ct : Int} {l : List UInt8} (hk : k < m) (h64 : l.length = 64) : bwrE ⟨m, F, false, none, ct⟩ k l = 0 := by
  have hm : bmayE ⟨m, F, false, none, ct⟩ k = 0 := by unfold bmayE; rw [if_neg (by simp), if_pos ⟨by omega, by show (k : Int) < (m : Int); omega⟩]
  unfold bwrE
  rw [if_pos hm, if_pos h64]

theorem bput_at (F : Nat → UInt8) (o k : Nat) (b : List UInt8) (mm : Nat) (hmm : mm ≤ b.length) :
    bput F o (b.take mm) k = if o ≤ k ∧ k < o + mm then b[k - o]?.getD 0 else F k := by
  unfold bput
  rw [List.length_take, Nat.min_eq_left hmm]
  by_cases h : o ≤ k ∧ k < o + mm
  · rw [if_pos h, if_pos h, List.getElem?_take_of_lt (by omega)]
  · rw [if_neg h, if_neg h]

/-- what the write at hand answers, and the store behind it -/
theorem tear_wr {m i : Nat} {F : Nat → UInt8} {ct : Int} {x part : Nat} {b : List UInt8} (hi : i < m) (h64 : b.length = 64) :
    (0 < (x : Int) → bwrE ⟨m, F, false, some ((x : Int), (part : Int)), ct⟩ i b = 0 ∧ bwrS ⟨m, F, false, some ((x : Int), (part : Int)), ct⟩ i b = ⟨m, bput F (i * 64) (b.take 64), false, some ((x : Int) - 1, (part : Int)), ct + 1⟩) ∧
    (¬ 0 < (x : Int) → bwrE ⟨m, F, false, some ((x : Int), (part : Int)), ct⟩ i b = 50 ∧ bwrS ⟨m, F, false, some ((x : Int), (part : Int)), ct⟩ i b = ⟨m, bput F (i * 64) (b.take (min part 64)), true, none, ct + 1⟩) := by
  have hm : bmayE ⟨m, F, false, some ((x : Int), (part : Int)), ct⟩ i = 0 := by unfold bmayE; rw [if_neg (by simp), if_pos ⟨by omega, by show (i : Int) < (m : Int); omega⟩]
  unfold bwrE bwrS
  rw [if_pos hm, if_pos h64, if_pos ⟨hm, h64⟩]
  refine ⟨fun h => ?_, fun h => ?_⟩
  · rw [List.take_of_length_le (by omega)]
    exact ⟨if_neg (by omega), if_neg (by omega)⟩
  · refine ⟨if_pos (by omega), ?_⟩
    show (if (x : Int) = 0 then _ else _) = _
    rw [if_pos (by omega)]
    have e : (min (part : Int) 64).toNat = min part 64 := by omega
    rw [e]
    rfl

theorem bmayE_on {m i : Nat} {F : Nat → UInt8} {ct : Int} {fu : Option (Int × Int)} (hi : i < m) : bmayE ⟨m, F, false, fu, ct⟩ i = 0 := by unfold bmayE; rw [if_neg (by simp), if_pos ⟨by omega, by show (i : Int) < (m : Int); omega⟩]
theorem bmayE_off {m i : Nat} {F : Nat → UInt8} {ct : Int} {fu : Option (Int × Int)} : bmayE ⟨m, F, true, fu, ct⟩ i = 50 := rfl

set_option maxRecDepth 100000 in
set_option maxHeartbeats 3200000 in
theorem tears_any (v0 v4 : Value) (l lb : List UInt8) (at' x part : Nat) (ha : at' < 256) (hx : x < 256) (hp : part < 256) (w : World) (h0 : Bs w v0 l) (h4 : Bs w v4 lb) :
    Calls Try.prog 40 #[v0, .int .i64 (at' : Int), .int .i64 (x : Int), .int .i64 (part : Int), v4] w fun e w' => e = .returned (.bool true) ∧ Below w.heap.size w w' := by
  have H0 := Lib.hid h0
  have H4 := Lib.hid h4
  obtain ⟨a, c, rfl⟩ := h0.shape
  obtain ⟨a4, c4, rfl⟩ := h4.shape
  obtain ⟨n, hn⟩ : ∃ n, l.length = n := ⟨_, rfl⟩
  obtain ⟨n4, hn4⟩ : ∃ n, lb.length = n := ⟨_, rfl⟩
  have hmax := h0.len_eq
  obtain ⟨m, hm⟩ : ∃ m, n / 64 = m := ⟨_, rfl⟩
  have hq : (n : Int).tdiv 64 = (m : Int) := by rw [Int.tdiv_eq_ediv_of_nonneg (by omega)]; omega
  rw [hn] at H0 hmax ⊢
  have hwm : wrap64 (m : Int) = (m : Int) := IntWalk.wrap64_in _ (by omega)
  rw [hn4] at H4 ⊢
  have HN := Lib.hid hn
  have HN4 := Lib.hid hn4
  have HM := Lib.hid hm
  clear h0 h4 hn hn4 hm
  go_enter Try.func40, Try.ntmps40
  go_wp2_with fail
  refine (bawake_any w).mono ?_
  rintro e w1 ⟨rfl, hb1⟩
  have HB1 := Lib.hid hb1
  clear hb1
  go_wp2_with fail
  refine (bRead_nil 0 w1).mono ?_
  rintro e w2 ⟨rfl, rfl⟩
  go_wp2_with fail
  refine (bWrite_nil 0 _ _).mono ?_
  rintro e w2 ⟨rfl, rfl⟩
  go_wp2_with fail
  refine (bFuse_nil 0 0 _).mono ?_
  rintro e w2 ⟨rfl, rfl⟩
  go_wp2_with fail
  refine (bOn_nil _).mono ?_
  rintro e w2 ⟨rfl, rfl⟩
  go_wp2_with fail
  refine (bLen_nil _).mono ?_
  rintro e w2 ⟨rfl, rfl⟩
  go_wp2_with fail
  refine (bWrites_nil _).mono ?_
  rintro e w2 ⟨rfl, rfl⟩
  go_wp2_with fail
  refine (bImage_nil _).mono ?_
  rintro e w2 ⟨rfl, rfl⟩
  obtain ⟨w1, hw1⟩ : ∃ W, W = w2 := ⟨_, rfl⟩
  subst hw1
  by_cases hb1 : (m : Int) < 1
  · go_wp2
    go_ret
    exact ⟨rfl, HB1.out⟩
  by_cases hb2 : 20 < (m : Int)
  · go_wp2
    go_ret
    exact ⟨rfl, HB1.out⟩
  by_cases hb3 : n4 = 64
  rotate_left 1
  · have e3 : ((n4 : Int) != 64) = true := by simp; omega
    clear hb3
    go_wp2
    go_ret
    exact ⟨rfl, HB1.out⟩
  subst hb3
  go_wp2_with fail
  refine (bNew_any m (by omega) (by omega) w1).mono ?_
  rintro e w2 ⟨rfl, hb2', hs2⟩
  obtain ⟨g, hg⟩ : ∃ g, w1.heap.size + 1 = g := ⟨_, rfl⟩
  obtain ⟨gb, hgb⟩ : ∃ g, w1.heap.size = g := ⟨_, rfl⟩
  have HT : Hid (TLoop w g gb m 0 w2) := by
    have h1 := HB1.out.size
    rw [hg, hgb] at hs2
    refine ⟨none, fun _ => 0, 0, ?_, Int.le_refl 0, Int.le_refl 0, HB1.out.trans (hb2'.mono HB1.out.size)⟩
    exact ⟨by omega, by omega, hs2.n1, hs2.n2, hs2.row, hs2.blk, .inl ⟨rfl, rfl⟩⟩
  have HG := Lib.hid hg
  have hm1 : 1 ≤ m := by omega
  have hm2 : m ≤ 20 := by omega
  clear hb2' hs2 hg hgb hb1 hb2 hq hwm
  go_wp2_with fail
  rw [HG.out]
  go_loopw [91] (fun i wr => ∃ k : Nat, k ≤ m ∧ i = .int .i64 k ∧ Hid (TLoop w g gb m k wr)) (fun i _ => m - (intOf i).toNat)
  case atStart => exact ⟨0, by omega, rfl, HT⟩
  case round =>
    obtain ⟨k, hk, rfl, HP⟩ := hrel
    by_cases hlt : k < m
    · have e1 : (k : Int) < m := by omega
      have hnm : (k + 1) * 64 ≤ n := by have := HM.out; omega
      obtain ⟨fo, F, ct, hst, hc0, hc1, hbl⟩ := HP.out
      obtain ⟨Y, hY1, hY2⟩ := H0.out.piece elB (k * 64) ((k + 1) * 64) (by omega) (by rw [HN.out]; exact hnm)
      have hY3 : ∀ W : World, (Instr.sliceAt 43 (.slice a n c) (some (.int .i64 ((k : Int) * 64))) (some (.int .i64 (((k : Int) + 1) * 64))) none).run Try.prog W = .ok Y W := fun W => by
        have := hY1 W
        rwa [show ((k * 64 : Nat) : Int) = (k : Int) * 64 by omega, show (((k + 1) * 64 : Nat) : Int) = ((k : Int) + 1) * 64 by omega] at this
      have hl64 : ((l.drop (k * 64)).take ((k + 1) * 64 - k * 64)).length = 64 := by
        rw [List.length_take, List.length_drop, HN.out]; omega
      obtain ⟨pc, hpc⟩ : ∃ pc, (l.drop (k * 64)).take ((k + 1) * 64 - k * 64) = pc := ⟨_, rfl⟩
      rw [hpc] at hY2 hl64
      have CW := Lib.hid (bWrite_any g gb fo ⟨m, F, false, none, ct⟩ k Y pc _ wr hst (hY2.below hbl) (fun x hx hs => by have := hY2.own_lt (by omega) x hx; have := (hst.foot x hs).1; omega) hc0 (by show ct ≤ _; omega))
      unfold WritePost at CW
      rw [bwrE_new hlt hl64] at CW
      have hstep : ∀ W', StPost wr w.heap.size g gb fo (bwrS ⟨m, F, false, none, ct⟩ k pc) W' → Hid (TLoop w g gb m (k + 1) W') := fun W' hp => TLoop.step hlt hl64 hst hc0 hc1 hbl hp
      have HST := Lib.hid hstep
      clear hstep hY1 hY2 hpc hst hc0 hc1 hl64 hbl hnm
      go_wp2_with fail
      refine CW.out.mono ?_
      rintro e w5 ⟨rfl, hp5⟩
      have hf := HST.out _ hp5
      clear hp5
      go_wp2
      go_roundw
      case rel => exact ⟨k + 1, by omega, by go_num, hf⟩
      case measure => simp [intOf]; omega
    · obtain rfl : k = m := by omega
      obtain ⟨fo, F, ct, hst, hc0, hc1, hbl⟩ := HP.out
      have hfo : fo = none := by
        rcases hst.fus with h | ⟨_, _, _, _, h, _⟩
        · exact h.1
        · cases h
      subst hfo
      have HS := Lib.hid hst
      have HB := Lib.hid hbl
      have HC := Lib.hid (And.intro hc0 hc1)
      have e1 : ¬ (k : Int) < k := by omega
      obtain ⟨i, hi⟩ : ∃ i, at' % k = i := ⟨_, rfl⟩
      have hik : i < k := by rw [← hi]; exact Nat.mod_lt _ (by omega)
      have hrem : (at' : Int).tmod (k : Int) = (i : Int) := by rw [← hi, Int.tmod_eq_emod_of_nonneg (by omega)]; omega
      have hset : bset ⟨k, F, false, none, ct⟩ (x : Int) (part : Int) = ⟨k, F, false, some ((x : Int), (part : Int)), ct⟩ := by
        unfold bset
        rw [if_pos ⟨by omega, by omega⟩]
      have HSET := Lib.hid hset
      have HIK := Lib.hid hik
      clear hst hc0 hc1 hi hbl hset HT HP
      go_wp2_with fail
      refine (bImage_any g gb none _ _ wr HS.out).mono ?_
      rintro e w5 ⟨v5, rfl, ho5, hb5⟩
      obtain ⟨a5, c5, hv5⟩ := ho5.shape
      rw [show (bimg ⟨k, F, false, none, ct⟩).length = k * 64 by simp [bimg]] at hv5
      subst hv5
      have HB5 := Lib.hid (HB.out.trans (hb5.mono HB.out.size))
      have HS5 := Lib.hid (HS.out.below hb5)
      have HO5 := Lib.hid ho5
      clear ho5 hb5
      go_wp2_with fail
      refine (bFuse_any g gb none _ (x : Int) (part : Int) (by omega) (by omega) _ w5 HS5.out HB5.out.size).mono ?_
      rintro e w6 ⟨rfl, hp6⟩
      rw [HSET.out] at hp6
      obtain ⟨E6, hE6⟩ : ∃ E, bsetE (x : Int) (part : Int) = E := ⟨_, rfl⟩
      rw [hE6]
      clear hE6
      have hf6 := HB5.out.trans ((show StPost w5 w.heap.size g gb none _ w6 from hp6).choose_spec.2.1.below (fun q hq => (HS5.out.foot q hq).1) HB5.out.size)
      obtain ⟨fo, hs6, ho6, hn6⟩ := hp6
      have HO6 := Lib.hid (HO5.out.only ho6 (HO5.out.st_off HS5.out))
      have HS6 := Lib.hid hs6
      have HB6 := Lib.hid hf6
      clear hs6 ho6 hn6 hf6
      have h64 : lb.length = 64 := HN4.out
      have H46 := Lib.hid (H4.out.below HB6.out)
      have hoff : SOff g gb fo (.slice a4 64 c4) := fun q hq hs => by
        have := H4.out.own_lt (by omega) q hq
        have := (HS6.out.foot q hs).1
        omega
      have hcc : 0 ≤ ct ∧ ct ≤ 4611686018427387904 := by have := HC.out; omega
      have CW := Lib.hid (bWrite_any g gb fo _ (i : Int) (.slice a4 64 c4) lb _ w6 HS6.out H46.out hoff hcc.1 hcc.2)
      unfold WritePost at CW
      have TW := tear_wr (F := F) (ct := ct) (x := x) (part := part) HIK.out h64
      have ht64 : (lb.take 64).length = 64 := by simp; omega
      clear hoff hcc
      obtain ⟨mm, hmm⟩ : ∃ mm, (if 0 < (x : Int) then 64 else min part 64) = mm := ⟨_, rfl⟩
      have hmm64 : mm ≤ 64 := by rw [← hmm]; split <;> omega
      have HMM := Lib.hid hmm
      obtain ⟨F2, hF2⟩ : ∃ F2, bput F (i * 64) (lb.take mm) = F2 := ⟨_, rfl⟩
      have hml : mm ≤ lb.length := by omega
      have hat : ∀ j, F2 j = if i * 64 ≤ j ∧ j < i * 64 + mm then lb[j - i * 64]?.getD 0 else F j := fun j => by rw [← hF2]; exact bput_at F (i * 64) j lb mm hml
      have HAT := Lib.hid hat
      obtain ⟨N, hN⟩ : ∃ N, k * 64 = N := ⟨_, rfl⟩
      have HNN := Lib.hid hN
      have hik := HIK.out
      clear hat hml
      rw [hN] at HO6 ⊢
      by_cases hx1 : 0 < (x : Int)
      focus
        have hmm1 : mm = 64 := by rw [← hmm, if_pos hx1]
        have TW1 := TW.1 hx1
        rw [show lb.take 64 = lb.take mm by rw [hmm1], hF2] at TW1
        rw [TW1.1, TW1.2] at CW
        have hM1 : bmayE ⟨k, F2, false, some ((x : Int) - 1, (part : Int)), ct + 1⟩ i = 0 := bmayE_on hik
        have hM2 : bmayE (bpow ⟨k, F2, false, some ((x : Int) - 1, (part : Int)), ct + 1⟩) i = 0 := bmayE_on hik
        have HM1 := Lib.hid hM1
        have HM2 := Lib.hid hM2
        clear TW TW1 hF2 hmm ht64 hM1 hM2 h64 hN hik
      rotate_left 1
      focus
        have hmm1 : mm = min part 64 := by rw [← hmm, if_neg hx1]
        have TW1 := TW.2 hx1
        rw [← hmm1, hF2] at TW1
        rw [TW1.1, TW1.2] at CW
        have hM1 : bmayE ⟨k, F2, true, none, ct + 1⟩ i = 50 := bmayE_off
        have hM2 : bmayE (bpow ⟨k, F2, true, none, ct + 1⟩) i = 0 := bmayE_on hik
        have HM1 := Lib.hid hM1
        have HM2 := Lib.hid hM2
        clear TW TW1 hF2 hmm ht64 hM1 hM2 h64 hN hik
      rotate_left 1
      all_goals
        have HM3 := Lib.hid hmm1
        have HM4 := Lib.hid hmm64
        clear hmm1 hmm64
        go_wp2_with fail
        refine CW.out.mono ?_
        rintro e w7 ⟨rfl, fo7, hs7, ho7, hn7⟩
        have HO7 := Lib.hid (HO6.out.only ho7 (HO6.out.st_off HS6.out))
        have HS7 := Lib.hid hs7
        have HB7 := Lib.hid (HB6.out.trans (ho7.below (fun q hq => (HS6.out.foot q hq).1) HB6.out.size))
        clear hs7 ho7 hn7
        go_wp2_with fail
        refine (bImage_any g gb fo7 _ _ w7 HS7.out).mono ?_
        rintro e w8 ⟨v8, rfl, ho8, hb8⟩
        obtain ⟨a8, c8, hv8⟩ := ho8.shape
        rw [show (bimg ⟨k, F2, _, _, ct + 1⟩).length = N by simp [bimg]; exact HNN.out] at hv8
        subst hv8
        have HB8 := Lib.hid (HB7.out.trans (hb8.mono HB7.out.size))
        have HS8 := Lib.hid (HS7.out.below hb8)
        have HO8 := Lib.hid (HO7.out.bs.below hb8)
        have HQ8 := Lib.hid ho8.bs
        have H48 := Lib.hid (H4.out.below HB8.out)
        clear ho8 hb8
        go_wp2_with fail
        refine (bOn_any g gb fo7 _ _ w8 HS8.out).mono ?_
        rintro e w9 ⟨he, rfl⟩
        simp only [Bool.not_false, Bool.not_true] at he
        subst he
        obtain ⟨w8, hw8⟩ : ∃ W, W = w9 := ⟨_, rfl⟩
        subst hw8
        have hNp : 0 < N := by have := HNN.out; omega
        have hN2 : N ≤ 1280 := by have := HNN.out; omega
        have hi2 : i * 64 + 64 ≤ N := by have := HNN.out; have := HIK.out; omega
        have HI2 := Lib.hid hi2
        clear hi2
        have hwas : ∃ b o, a5 = some ⟨b, o, none⟩ ∧ ∀ j, j < N → w8.cell? ⟨b, o + j, none⟩ = some (.int .u8 ((F j).toNat : Int)) := by
          obtain ⟨b, o, e1, e2⟩ := HO8.out.at (by simp [bimg]; have := HNN.out; omega)
          exact ⟨b, o, e1, fun j hj => e2 j (F j) (by unfold bimg; rw [List.getElem?_map, List.getElem?_range (by show j < k * 64; have := HNN.out; omega)]; rfl)⟩
        have hnow : ∃ b o, a8 = some ⟨b, o, none⟩ ∧ ∀ j, j < N → w8.cell? ⟨b, o + j, none⟩ = some (.int .u8 ((F2 j).toNat : Int)) := by
          obtain ⟨b, o, e1, e2⟩ := HQ8.out.at (by simp [bimg]; have := HNN.out; omega)
          exact ⟨b, o, e1, fun j hj => e2 j (F2 j) (by unfold bimg; rw [List.getElem?_map, List.getElem?_range (by show j < k * 64; have := HNN.out; omega)]; rfl)⟩
        have hbb : ∃ b o, a4 = some ⟨b, o, none⟩ ∧ ∀ j, j < 64 → w8.cell? ⟨b, o + j, none⟩ = some (.int .u8 ((lb[j]?.getD 0).toNat : Int)) := by
          obtain ⟨b, o, e1, e2⟩ := H48.out.at (by have := HN4.out; omega)
          exact ⟨b, o, e1, fun j hj => e2 j _ (by rw [List.getElem?_eq_getElem (l := lb) (i := j) (by have := HN4.out; omega)]; rfl)⟩
        obtain ⟨wb, wo, rfl, hwas⟩ := hwas
        obtain ⟨nb, no, rfl, hnow⟩ := hnow
        obtain ⟨bb, bo, rfl, hbb⟩ := hbb
        have HWAS := Lib.hid hwas
        have HNOW := Lib.hid hnow
        have HBB := Lib.hid hbb
        clear hwas hnow hbb
        go_wp2_with fail
        go_loopw [150] (fun vi wr => ∃ j : Nat, j ≤ N ∧ vi = .int .i64 j ∧ wr = w8) (fun vi _ => N - (intOf vi).toNat)
        case atStart => exact ⟨0, by omega, rfl, rfl⟩
        case round =>
          obtain ⟨j, hj, rfl, rfl⟩ := hrel
          by_cases hlt : j < N
          · have e1 : (j : Int) < N := by omega
            have c5' := HWAS.out j hlt
            have c8' := HNOW.out j hlt
            have i5 := ixb wb wo N c5 j hlt
            have i8 := ixb nb no N c8 j hlt
            have hi2 := HI2.out
            have hat := HAT.out j
            by_cases hP : i * 64 ≤ j ∧ j < i * 64 + mm
            · rw [if_pos hP] at hat
              have hmm6 := HM4.out
              have cb := HBB.out (j - i * 64) (by omega)
              have ib := ixb bb bo 64 c4 (j - i * 64) (by omega)
              rw [show ((j - i * 64 : Nat) : Int) = (j : Int) - (i : Int) * 64 by omega] at ib
              rw [hat] at c8'
              have g0 : (0 : Int) ≤ (j : Int) - (i : Int) * 64 := by omega
              have g1 : (j : Int) - (i : Int) * 64 < 64 := by omega
              have g2 : 0 < (x : Int) ∨ (j : Int) - (i : Int) * 64 < (part : Int) := by
                by_cases h : 0 < (x : Int)
                · exact .inl h
                · have := HM3.out
                  right
                  omega
              have hi9 : (i : Int) * 64 ≤ 1280 := by omega
              have hj9 : (j : Int) ≤ 1280 := by omega
              obtain ⟨y, hy⟩ : ∃ y, lb[j - i * 64]?.getD 0 = y := ⟨_, rfl⟩
              rw [hy] at c8' cb
              have HP := Lib.hid hP
              have HG2 := Lib.hid g2
              first
                | (have g3 : (j : Int) - (i : Int) * 64 < (part : Int) := by omega)
                | skip
              clear hat hP hy g2 hmm6
              go_wp2
              go_roundw
              case rel => exact ⟨j + 1, by omega, by go_num, trivial⟩
              case measure => simp [intOf]; omega
            · rw [if_neg hP] at hat
              have hmm6 := HM4.out
              rw [hat] at c8'
              have hi9 : (i : Int) * 64 ≤ 1280 := by omega
              have hj9 : (j : Int) ≤ 1280 := by omega
              have HP := Lib.hid hP
              clear hat hP
              by_cases g0 : (0 : Int) ≤ (j : Int) - (i : Int) * 64
              · by_cases g1 : (j : Int) - (i : Int) * 64 < 64
                · have h3 := HM3.out
                  have hP := HP.out
                  first
                    | (exfalso; omega)
                    | (have g3 : ¬ (j : Int) - (i : Int) * 64 < (part : Int) := by omega
                       clear hP h3 hmm6
                       go_wp2
                       go_roundw
                       case rel => exact ⟨j + 1, by omega, by go_num, trivial⟩
                       case measure => simp [intOf]; omega)
                · clear hmm6
                  go_wp2
                  go_roundw
                  case rel => exact ⟨j + 1, by omega, by go_num, trivial⟩
                  case measure => simp [intOf]; omega
              · clear hmm6
                go_wp2
                go_roundw
                case rel => exact ⟨j + 1, by omega, by go_num, trivial⟩
                case measure => simp [intOf]; omega
          · obtain rfl : j = N := by omega
            have C1 := Lib.hid (bRead_any g gb fo7 _ (i : Int) _ _ HS8.out)
            unfold ReadPost at C1
            rw [HM1.out] at C1
            go_wp2_with fail
            refine C1.out.mono ?_
            rintro e w10 ⟨v10, rfl, ho10, hb10⟩
            have HB10 := Lib.hid (HB8.out.trans (hb10.mono HB8.out.size))
            have HS10 := Lib.hid (HS8.out.below hb10)
            clear ho10 hb10
            go_wp2_with fail
            refine (bPower_any g gb fo7 _ _ w10 HS10.out).mono ?_
            rintro e w11 ⟨rfl, fo11, hs11, ho11, hn11⟩
            have HB11 := Lib.hid (HB10.out.trans (ho11.below (fun q hq => (HS10.out.foot q hq).1) HB10.out.size))
            have C2 := Lib.hid (bRead_any g gb fo11 _ (i : Int) _ _ hs11)
            unfold ReadPost at C2
            rw [HM2.out] at C2
            clear hs11 ho11 hn11
            go_wp2_with fail
            refine C2.out.mono ?_
            rintro e w12 ⟨v12, rfl, ho12, hb12⟩
            have HB12 := Lib.hid (HB11.out.trans (hb12.mono HB11.out.size))
            clear ho12 hb12
            go_wp2
            go_ret
            exact ⟨rfl, HB12.out⟩

end Go.Proofs.Ytbonapdainlpjaa
