/- Ch3: Ch1, Ch2, Ch3 as one text. -/
import Derived.Test.YtjnbdeopoohnmaaGreatDoorTok6
import Derived.Test.YtjnbdeopoohnmaaGreatDoorTokV
import Derived.Deep.RegionHeld3
import Derived.Deep.CutBlock
/- Layer 11 (challenge): plain; the walks of good, time, Answer on both sides, Tag, the example. -/
set_option linter.unusedSimpArgs false
namespace Go.Proofs.YtjnbdeopoohnmaaGreatDoor
open Go.RowKit Go.Sort

def answS : ByteArray := ⟨#[97, 110, 115, 119, 101, 114]⟩
def devS : ByteArray := ⟨#[100, 101, 118, 105, 99, 101]⟩
def cmay (q : List UInt8) (now : Int) : Bool := decide (q.length = 16) && (decide (0 ≤ now) && decide (now ≤ 1099511627776))
def ctag (key q : List UInt8) (at' : Int) : List UInt8 := hderive key answS.data.toList (q ++ fnum at')
def cbody (key q : List UInt8) (now : Int) : List UInt8 := fnum now ++ (vput 32 ++ ctag key q now)
def cans (key q : List UInt8) (now : Int) : List UInt8 := fframe 6 (cbody key q now)
theorem cmay_iff (q : List UInt8) (now : Int) : cmay q now = true ↔ q.length = 16 ∧ 0 ≤ now ∧ now ≤ 1099511627776 := by
  unfold cmay; simp only [Bool.and_eq_true, decide_eq_true_iff]
theorem ctag_len (key q : List UInt8) (n : Int) : (ctag key q n).length = 32 := htag_len _ _
theorem cbody_len (key q : List UInt8) {n : Int} (h : W64 n) : (cbody key q n).length ≤ 52 := by
  have h1 := fnum_len h
  have h3 : (vput 32).length ≤ 10 := vput_len10 32 (by omega)
  unfold cbody
  simp only [List.length_append, ctag_len]
  omega

/-- Derive of two parts -/
theorem derive2_any (vk v1 v2 : Value) (key b1 b2 : List UInt8) (s : ByteArray) (g : Nat) (w : World) (hk : Bs w vk key) (hc1 : w.cell? ⟨g, 0, none⟩ = some v1) (hc2 : w.cell? ⟨g, 1, none⟩ = some v2) (hb1 : Bs w v1 b1) (hb2 : Bs w v2 b2) (hlk : key.length < 4294967296) (hlen : s.size + (b1.length + b2.length) < 4294960000) (hT : Tabbed w) :
    Calls Tryz.prog 61 #[vk, .string s, .slice (some ⟨g, 0, none⟩) 2 2] w fun e w' => ∃ v, e = .returned v ∧ Ob w' w.heap.size 5 v (hderive key s.data.toList (b1 ++ b2)) ∧ Below w.heap.size w w' := by
  have hrd : Rd w 1 (.slice (some ⟨g, 0, none⟩) 2 2) [v1, v2].length [v1, v2] :=
    ⟨rfl, _, 2, rfl, Nat.le_refl _, by decide, by simp, .inr ⟨g, 0, rfl, by have := World.block_lt_of_cell? w _ hc1; simpa using this, fun j u hu => by
      match j with
      | 0 => simpa using hc1.trans (by simpa using hu)
      | 1 => simpa using hc2.trans (by simpa using hu)
      | j + 2 => simp at hu⟩⟩
  have h := derive_any vk (.slice (some ⟨g, 0, none⟩) 2 2) key s [v1, v2] [b1, b2] rfl w hk hrd (fun i v l hv hl => by
    match i with
    | 0 => obtain rfl : v1 = v := by simpa using hv
           obtain rfl : b1 = l := by simpa using hl
           exact hb1
    | 1 => obtain rfl : v2 = v := by simpa using hv
           obtain rfl : b2 = l := by simpa using hl
           exact hb2
    | i + 2 => simp at hv) hlk (by simpa using hlen) hT
  simpa using h

theorem chgood_any (q : Value) (b : List UInt8) (now : Int) (w : World) (h : Bs w q b) : Calls Tryz.prog 56 #[q, .int .i64 now] w fun e w' => e = .returned (.bool (cmay b now)) ∧ w = w' := by
  obtain ⟨a, c, rfl⟩ := h.shape
  unfold cmay
  obtain ⟨m, hm⟩ : ∃ m, b.length = m := ⟨_, rfl⟩
  rw [hm]
  clear hm h
  go_enter Tryz.func56, Tryz.ntmps56
  by_cases h1 : m = 16
  · subst h1
    by_cases h2 : 0 ≤ now
    · by_cases h3 : now ≤ 1099511627776
      · go_wp2
        go_ret
        exact ⟨ret_bool (by simp [h2, h3]), rfl⟩
      · go_wp2
        go_ret
        exact ⟨ret_bool (by simp [h2, h3]), rfl⟩
    · go_wp2
      go_ret
      exact ⟨ret_bool (by simp; omega), rfl⟩
  · have e1 : ((m : Int) == 16) = false := by simp; omega
    go_wp2
    go_ret
    exact ⟨ret_bool (by simp [h1]), rfl⟩
theorem vmay_any (q : Value) (b : List UInt8) (now : Int) (w : World) (h : Bs w q b) : Calls Tryz.prog 15 #[q, .int .i64 now] w fun e w' => e = .returned (.bool (cmay b now)) ∧ w = w' := by
  obtain ⟨a, c, rfl⟩ := h.shape
  unfold cmay
  obtain ⟨m, hm⟩ : ∃ m, b.length = m := ⟨_, rfl⟩
  rw [hm]
  clear hm h
  go_enter Tryz.func15, Tryz.ntmps15
  by_cases h1 : m = 16
  · subst h1
    by_cases h2 : 0 ≤ now
    · by_cases h3 : now ≤ 1099511627776
      · go_wp2
        go_ret
        exact ⟨ret_bool (by simp [h2, h3]), rfl⟩
      · go_wp2
        go_ret
        exact ⟨ret_bool (by simp [h2, h3]), rfl⟩
    · go_wp2
      go_ret
      exact ⟨ret_bool (by simp; omega), rfl⟩
  · have e1 : ((m : Int) == 16) = false := by simp; omega
    go_wp2
    go_ret
    exact ⟨ret_bool (by simp [h1]), rfl⟩

theorem chtime_any (now : Int) (hn : W64 now) (w : World) : Calls Tryz.prog 62 #[.int .i64 now] w fun e w' => ∃ v, e = .returned v ∧ Ob w' w.heap.size 5 v (fnum now) ∧ Below w.heap.size w w' := by
  have hwr : Wr (w.alloc (.cells #[.slice none 0 0] 93)) w.heap.size w.heap.size (.slice none 0 0) [] := ⟨Nat.le_refl _, heap_alloc_new w _, Ob.nil _ _ _⟩
  have hb1 := bel_al (Below.refl w.heap.size w) (.cells #[.slice none 0 0] 93)
  have hfl := fnum_len hn
  go_enter Tryz.func62, Tryz.ntmps62
  go_upto_region 2 with fail
  obtain ⟨W, hW⟩ : ∃ X, w.alloc (.cells #[.slice none 0 0] 93) = X := ⟨_, rfl⟩
  obtain ⟨p, hp⟩ : ∃ p, w.heap.size = p := ⟨_, rfl⟩
  have HP := Lib.hid hp
  rw [hW] at hwr hb1
  rw [hp] at hwr
  rw [hW, hp]
  have HWR := Lib.hid hwr
  have HB1 := Lib.hid hb1
  have HFL := Lib.hid hfl
  have HPW : Hid (p ≤ W.heap.size) := Nat.le_of_lt hwr.lt
  clear hwr hb1 hW hp hfl
  go_wp2_with (first
    | (go_at_call 46; refine (wNumber_any now hn.1 hn.2 p _ _ p W HWR.out HPW.out (by simp)).mono ?_; rintro e w3 ⟨rfl, v3, hw3⟩; have HV3 := Lib.hid hw3.wr; have HB3 := Lib.hid (hw3.bel HWR.out HPW.out); clear hw3)
    | (go_at_call 47; refine (wOut_any p v3 (fnum now) p _ HV3.out (by have := HFL.out; omega)).mono ?_; rintro e w7 ⟨v7, rfl, ho7, hb7⟩; have HO7 := Lib.hid ho7; have HB7 := Lib.hid hb7; clear ho7 hb7))
  go_ret
  have hp := HP.out
  have h3 : Below w.heap.size w w3 := HB1.out.trans (by rw [hp]; exact HB3.out)
  exact ⟨_, rfl, by rw [← hp]; exact HO7.out.mono (by have := h3.size; omega), h3.trans (HB7.out.mono h3.size)⟩

theorem vtag_any (vk vq : Value) (key q : List UInt8) (now : Int) (hn : W64 now) (w : World) (hk : Bs w vk key) (hq : Bs w vq q) (hlk : key.length < 4294967296) (hlq : q.length ≤ 1000) :
    Calls Tryz.prog 38 #[vk, vq, .int .i64 now] w fun e w' => ∃ v, e = .returned v ∧ Ob w' w.heap.size 5 v (ctag key q now) ∧ Below w.heap.size w w' := by
  have HK := Lib.hid hk
  have HQ := Lib.hid hq
  have hfl := fnum_len hn
  have HFL := Lib.hid hfl
  have HO0 : Hid (Ob w w.heap.size 5 (.slice none 0 0) []) := Ob.nil _ _ _
  clear hk hq hfl
  go_enter Tryz.func38, Tryz.ntmps38
  go_wp2_with (first
    | (at_builtin; go_must (first
        | (refine wpList_append_bytes HO0.out HQ.out elB (by simp; omega) (by simp; omega) (Nat.le_refl _) ?_ _ _ rfl rfl rfl rfl; intro v1 w1 ho1 hg1 hb1 _; have HO1 := Lib.hid ho1; have HB1 := Lib.hid hb1; clear ho1 hb1 hg1)
        | (refine wpList_append_bytes HO12.out HO2.out.bs elB (by have := HFL.out; unfold fnum at this; simp; omega) (by have := HFL.out; unfold fnum at this; simp; omega) HB2.out.size ?_ _ _ rfl rfl rfl rfl; intro v3 w3 ho3 hg3 hb3 _; have HO3 := Lib.hid ho3; have HB3 := Lib.hid (HB2.out.trans hb3); clear ho3 hb3 hg3)))
    | (go_at_call 36; refine (rnumber_any now hn.1 hn.2 w1).mono ?_; rintro e w2 ⟨v2, rfl, ho2, hb2⟩; have HO2 := Lib.hid ho2; have HO12 := Lib.hid (HO1.out.below hb2); have HB2 := Lib.hid (bel_tr HB1.out hb2); clear ho2 hb2)
    | (go_at_call 30; refine (rderive_any _ _ key ([] ++ q ++ vput now.toNat) answS hlk (by have : answS.size = 6 := rfl; have := HFL.out; unfold fnum at this; simp only [List.length_append, List.length_nil]; omega) w3 (HK.out.below HB3.out) HO3.out.bs).mono ?_; rintro e w4 ⟨v4, rfl, ho4, hb4⟩; have HO4 := Lib.hid ho4; have HB4 := Lib.hid hb4; clear ho4 hb4))
  go_ret
  have h := HO4.out.mono HB3.out.size
  rw [List.nil_append] at h
  exact ⟨_, rfl, h, HB3.out.trans (HB4.out.mono HB3.out.size)⟩

theorem cmay_wf {q : List UInt8} {now : Int} (h : cmay q now = true) : W64 now := by
  have := (cmay_iff q now).1 h
  unfold W64
  omega

theorem chanswer_bad (vk vq : Value) (q : List UInt8) (now : Int) (w : World) (hm : cmay q now = false) (hq : Bs w vq q) :
    Calls Tryz.prog 32 #[vk, vq, .int .i64 now] w fun e w' => e = .returned (.tuple #[.slice none 0 0, .int .i64 2]) ∧ Below w.heap.size w w' := by
  have HG := Lib.hid (chgood_any vq q now w hq)
  rw [hm] at HG
  clear hq hm
  go_enter Tryz.func32, Tryz.ntmps32
  go_wp2_with (go_at_call 56; refine HG.out.mono ?_; rintro e w1 ⟨rfl, rfl⟩)
  go_ret2
  exact ⟨rfl, Below.refl _ _⟩

set_option maxHeartbeats 3200000 in
theorem chanswer_ok (vk vq : Value) (key q : List UInt8) (now : Int) (w : World) (hm : cmay q now = true) (hk : Bs w vk key) (hq : Bs w vq q) (hlk : key.length < 4294967296) (hT : Tabbed w) :
    Calls Tryz.prog 32 #[vk, vq, .int .i64 now] w fun e w' => ∃ v, e = .returned (.tuple #[v, .int .i64 0]) ∧ Ob w' w.heap.size 5 v (cans key q now) ∧ Below w.heap.size w w' := by
  have hn := cmay_wf hm
  have hq16 := ((cmay_iff q now).1 hm).1
  obtain ⟨qa, qc, rfl⟩ := hq.shape
  rw [hq16] at hq ⊢
  have HK := Lib.hid hk
  have HQ := Lib.hid hq
  have HT := Lib.hid hT
  have HG := Lib.hid (chgood_any _ q now w hq)
  rw [hm] at HG
  have HFL := Lib.hid (fnum_len hn)
  have HQL := Lib.hid hq16
  have HN := Lib.hid hn
  have HBD := Lib.hid (cbody_len key q hn)
  have hwr : Wr (w.alloc (.cells #[.slice none 0 0] 93)) w.heap.size w.heap.size (.slice none 0 0) [] := ⟨Nat.le_refl _, heap_alloc_new w _, Ob.nil _ _ _⟩
  have hb1 := bel_al (Below.refl w.heap.size w) (.cells #[.slice none 0 0] 93)
  clear hk hq hT hm hq16 hn
  go_enter Tryz.func32, Tryz.ntmps32
  go_upto_region 4 with (go_at_call 56; refine HG.out.mono ?_; rintro e w1 ⟨rfl, rfl⟩)
  obtain ⟨W, hW⟩ : ∃ X, w.alloc (.cells #[.slice none 0 0] 93) = X := ⟨_, rfl⟩
  obtain ⟨p, hp⟩ : ∃ p, w.heap.size = p := ⟨_, rfl⟩
  have HP := Lib.hid hp
  rw [hW] at hwr hb1
  rw [hp] at hwr
  rw [hW, hp]
  have HWR := Lib.hid hwr
  have HB1 := Lib.hid hb1
  have HPW : Hid (p ≤ W.heap.size) := Nat.le_of_lt hwr.lt
  clear hwr hb1 hW hp HG
  go_upto_region 5 with (go_at_call 46; refine (wNumber_any now HN.out.1 HN.out.2 p _ _ p W HWR.out HPW.out (by simp)).mono ?_; rintro e w3 ⟨rfl, v3, hw3⟩; have HV3 := Lib.hid hw3.wr; have HB3 := Lib.hid (HB1.out.trans (by rw [HP.out]; exact (hw3.bel HWR.out HPW.out))); clear hw3)
  obtain ⟨tg, htg⟩ : ∃ x, ctag key q now = x := ⟨_, rfl⟩
  have HTG : Hid (hderive key answS.data.toList (q ++ fnum now) = tg) := htg
  have HTL : Hid (tg.length = 32) := by rw [← htg]; exact ctag_len _ _ _
  go_upto_region 6 with (first
    | (go_at_call 62; refine (chtime_any now HN.out w3).mono ?_; rintro e w4 ⟨v4, rfl, ho4, hb4⟩; obtain ⟨b4, d4, rfl⟩ := ho4.shape; have HO4 := Lib.hid ho4; have HB34 := Lib.hid hb4; have HB4 := Lib.hid (bel_tr HB3.out hb4); clear ho4 hb4)
    | (go_at_call 61; refine (derive2_any _ (.slice qa 16 qc) (.slice b4 (fnum now).length d4) key q (fnum now) answS w4.heap.size _ ((HK.out.below HB4.out).alloc _) (cell_of_row _ _ 0 _ _ _ (heap_alloc_new w4 _)) (cell_of_row _ _ 1 _ _ _ (heap_alloc_new w4 _)) ((HQ.out.below HB4.out).alloc _) (HO4.out.bs.alloc _) hlk (by have : answS.size = 6 := rfl; have := HFL.out; have := HQL.out; omega) (HT.out.below (bel_al HB4.out _))).mono ?_; rintro e w5 ⟨v5, rfl, ho5, hb5⟩; rw [HTG.out] at ho5; have HO5 := Lib.hid ho5; have h35 := bel_tr (w := w3) (bel_al HB34.out _) hb5; have HB35 := Lib.hid h35; have HB5 := Lib.hid (bel_tr HB3.out h35); have HV5 := Lib.hid (HV3.out.below h35); clear ho5 hb5 h35)
    | (go_at_call 71; refine (wBytes_any _ tg p _ _ p _ HV5.out HO5.out.bs (fun hne k hk hf => by have h1 := (HO5.out.lt k hk).1; have h2 := (HV3.out.foot k hf).2; have h3 := HB34.out.size; simp at h1; omega) (by have := HB35.out.size; have := HV3.out.lt; omega) (by have := HFL.out; unfold fnum at this; simp; omega) (by have := HTL.out; omega)).mono ?_; rintro e w6 ⟨rfl, v6, hw6⟩; have HV6 := Lib.hid hw6.wr; have HB6 := Lib.hid (HB5.out.trans (by rw [HP.out]; exact (hw6.bel HV5.out (by have := HB35.out.size; have := HV3.out.lt; omega)))); clear hw6))
  have hbody : ([] ++ vput now.toNat ++ (vput tg.length ++ tg) : List UInt8) = cbody key q now := by
    unfold cbody fnum
    rw [HTL.out, htg]
    simp
  rw [hbody] at HV6
  clear hbody htg
  go_wp2_with (first
    | (go_at_call 47; refine (wOut_any p v6 _ p _ HV6.out (by have := HBD.out; omega)).mono ?_; rintro e w7 ⟨v7, rfl, ho7, hb7⟩; have HO7 := Lib.hid ho7; have HB7 := Lib.hid (bel_tr HB6.out hb7); clear ho7 hb7)
    | (go_at_call 70; refine (fput_any 6 6 rfl _ (cbody key q now) _ HO7.out.bs (by have := HBD.out; omega)).mono ?_; rintro e w8 ⟨v8, rfl, ho8, hb8⟩; have HO8 := Lib.hid ho8; have HB8 := Lib.hid hb8; clear ho8 hb8))
  go_ret2
  exact ⟨_, rfl, HO8.out.mono HB7.out.size, bel_tr HB7.out HB8.out⟩

set_option maxHeartbeats 1600000 in
theorem vanswer_any (vk vq : Value) (key q : List UInt8) (now : Int) (w : World) (hm : cmay q now = true) (hk : Bs w vk key) (hq : Bs w vq q) (hlk : key.length < 4294967296) :
    Calls Tryz.prog 17 #[vk, vq, .int .i64 now] w fun e w' => ∃ v, e = .returned v ∧ Ob w' w.heap.size 5 v (cans key q now) ∧ Below w.heap.size w w' := by
  have hn := cmay_wf hm
  have hq16 := ((cmay_iff q now).1 hm).1
  have HK := Lib.hid hk
  have HQ := Lib.hid hq
  have HFL := Lib.hid (fnum_len hn)
  have HQL := Lib.hid hq16
  have HN := Lib.hid hn
  have HBD := Lib.hid (cbody_len key q hn)
  have TG : Hid (∀ X, Below w.heap.size w X → Calls Tryz.prog 38 #[vk, vq, .int .i64 now] X fun e w' => ∃ v, e = .returned v ∧ Ob w' X.heap.size 5 v (ctag key q now) ∧ Below X.heap.size X w') := fun X hX => vtag_any vk vq key q now hn X (hk.below hX) (hq.below hX) hlk (by omega)
  obtain ⟨tg, htg⟩ : ∃ x, ctag key q now = x := ⟨_, rfl⟩
  have HTL : Hid (tg.length = 32) := by rw [← htg]; exact ctag_len _ _ _
  rw [htg] at TG
  clear hk hq hm hq16 hn
  go_enter Tryz.func17, Tryz.ntmps17
  go_wp2_with (first
    | (go_at_call 36; refine (rnumber_any now HN.out.1 HN.out.2 w).mono ?_; rintro e w2 ⟨v2, rfl, ho2, hb2⟩; have HO2 := Lib.hid ho2; have HB2 := Lib.hid hb2; clear ho2 hb2)
    | (go_at_call 38; refine (TG.out _ HB2.out).mono ?_; rintro e w3 ⟨v3, rfl, ho3, hb3⟩; have HO3 := Lib.hid ho3; have HO23 := Lib.hid (HO2.out.below hb3); have HB3 := Lib.hid (bel_tr HB2.out hb3); clear ho3 hb3)
    | (go_at_call 37; refine (rbytes_any _ tg _ HO3.out.bs (by have := HTL.out; omega)).mono ?_; rintro e w4 ⟨v4, rfl, ho4, hb4⟩; have HO4 := Lib.hid ho4; have HO24 := Lib.hid (HO23.out.below hb4); have HB4 := Lib.hid (bel_tr HB3.out hb4); clear ho4 hb4)
    | (at_builtin; go_must (refine wpList_append_bytes HO24.out HO4.out.bs elB (by have h0 := HFL.out; have := HTL.out; have h3 : (vput 32).length ≤ 10 := vput_len10 32 (by omega); unfold fnum at h0; simp only [List.length_append]; rw [HTL.out]; omega) (by have h0 := HFL.out; have := HTL.out; have h3 : (vput 32).length ≤ 10 := vput_len10 32 (by omega); unfold fnum at h0; simp only [List.length_append]; rw [HTL.out]; omega) HB4.out.size ?_ _ _ rfl rfl rfl rfl); intro v5 w5 ho5 hg5 hb5 _; have HO5 := Lib.hid ho5; have HB5 := Lib.hid (HB4.out.trans hb5); clear ho5 hb5 hg5)
    | (go_at_call 35; refine (rfput_any 6 6 rfl _ (cbody key q now) _ (by have h := HO5.out.bs; rw [HTL.out] at h; have e : (vput now.toNat ++ (vput 32 ++ tg) : List UInt8) = cbody key q now := (by unfold cbody fnum; rw [htg]); rw [e] at h; exact h) (by have := HBD.out; omega)).mono ?_; rintro e w8 ⟨v8, rfl, ho8, hb8⟩; have HO8 := Lib.hid ho8; have HB8 := Lib.hid hb8; clear ho8 hb8))
  go_ret
  exact ⟨_, rfl, HO8.out.mono HB5.out.size, bel_tr HB5.out HB8.out⟩

theorem cans_ex (k q : List UInt8) : (cans k q 5).length = 41 ∧ (cans k q 5)[1]? = some 6 := by
  have h5 : vput 5 = [5] := by rw [vput_small (by omega)]; rfl
  have h32 : vput 32 = [32] := by rw [vput_small (by omega)]; rfl
  have hl : (cbody k q 5).length = 34 := by
    unfold cbody fnum
    simp only [List.length_append, ctag_len]
    rw [show (5 : Int).toNat = 5 from rfl, h5, h32]
    rfl
  refine ⟨?_, rfl⟩
  unfold cans
  rw [fframe_len, hl, vput_small (by omega)]
  rfl

end Go.Proofs.YtjnbdeopoohnmaaGreatDoor
/- Layer 11 (challenge): the walks of Device, on both sides; few. -/
set_option linter.unusedSimpArgs false
namespace Go.Proofs.YtjnbdeopoohnmaaGreatDoor
open Go.RowKit Go.Sort

def cdev (l : List RK) (b : List UInt8) : List UInt8 × Nat :=
  match topen b with
  | (t, tag, e) => if e ≠ 0 then ([], e) else
    match kf t.ep l with
    | none => ([], 20)
    | some k => if (tag == ttag k t) = false then ([], 21) else (hderive k devS.data.toList b, 0)
section
variable {l : List RK} {b : List UInt8} {t : Tok} {tag k : List UInt8} {e : Nat}
theorem cdev_e (h : topen b = (t, tag, e)) (he : e ≠ 0) : cdev l b = ([], e) := by
  unfold cdev; rw [h]; dsimp only; rw [if_pos he]
theorem cdev_key (h : topen b = (t, tag, 0)) (hk : kf t.ep l = none) : cdev l b = ([], 20) := by
  unfold cdev; rw [h]; dsimp only; rw [if_neg (by omega), hk]
theorem cdev_some (h : topen b = (t, tag, 0)) (hk : kf t.ep l = some k) : cdev l b = if (tag == ttag k t) = false then ([], 21) else (hderive k devS.data.toList b, 0) := by
  unfold cdev; rw [h]; dsimp only; rw [if_neg (by omega), hk]
end
theorem cdev_len (l : List RK) (b : List UInt8) : (cdev l b).1.length ≤ 32 := by
  obtain ⟨t, tag, er, hto⟩ : ∃ t tag er, topen b = (t, tag, er) := ⟨_, _, _, rfl⟩
  by_cases he : er = 0
  · subst he
    rcases hk : kf t.ep l with _ | k
    · rw [cdev_key hto hk]; simp
    · rw [cdev_some hto hk]
      split
      · simp
      · show (htag _ _).length ≤ 32
        rw [htag_len]; omega
  · rw [cdev_e hto he]; simp
def DevPost (l : List RK) (b : List UInt8) (w : World) (e : Ending) (w' : World) : Prop :=
  ∃ v, e = .returned (.tuple #[v, .int .i64 ((cdev l b).2 : Nat)]) ∧ Bs w' v (cdev l b).1 ∧ Below w.heap.size w w'

set_option maxRecDepth 100000 in
set_option maxHeartbeats 6400000 in
theorem chdevice_anyL (keep : Int) (v : Value) (l : List RK) (y : Value) (b : List UInt8) (w : World) (h : Ks w v l) (hy : Bs w y b) (hl : b.length ≤ 1048576) (hsm : ∀ k ∈ l, k.b.length ≤ 140737488351232) (hT : Tabbed w) :
    Calls Tryz.prog 26 #[.agg #[.int .i64 keep, v], y] w (DevPost l b w) := by
  obtain ⟨va, vc, hvs⟩ := h.g.shape
  subst hvs
  obtain ⟨n, hn⟩ : ∃ n, l.length = n := ⟨_, rfl⟩
  rw [hn] at h ⊢
  obtain ⟨ya, yc, hs⟩ := hy.shape
  subst hs
  have H := Lib.hid h
  have HS := Lib.hid hsm
  have HT := Lib.hid hT
  have HL := Lib.hid hl
  obtain ⟨w1, hw1⟩ : ∃ W, w.alloc (.cells #[.int .i64 keep, .slice va n vc] 24) = W := ⟨_, rfl⟩
  have hb1 : Below w.heap.size w w1 := by rw [← hw1]; exact bel_al (Below.refl _ _) _
  have hr1 : w1.heap[w.heap.size]? = some (.cells #[.int .i64 keep, .slice va n vc] 24 (0, 0)) := by rw [← hw1]; exact heap_alloc_new _ _
  obtain ⟨g, hg⟩ : ∃ g, w.heap.size = g := ⟨_, rfl⟩
  have HQ2 : Hid (w.heap.size = g) := hg
  rw [hg] at hr1
  obtain ⟨t, tag, er, hto⟩ : ∃ t tag er, topen b = (t, tag, er) := ⟨_, _, _, rfl⟩
  have hop := open_any (.slice ya b.length yc) b w1 (hy.below hb1) hl
  unfold OpenPost at hop
  rw [hto] at hop
  simp only at hop
  unfold Tok.row at hop
  have HOP := Lib.hid hop
  have HTO := Lib.hid hto
  have HB1 := Lib.hid hb1
  have HR1 := Lib.hid hr1
  have HWW := Lib.hid hw1
  have HY := Lib.hid hy
  obtain ⟨yn, hyn⟩ : ∃ m, b.length = m := ⟨_, rfl⟩
  rw [hyn] at HY HOP ⊢
  have HYN := Lib.hid hyn
  clear h hsm hT hy hb1 hr1 hw1 hn hg hto hop hl hyn
  go_enter Tryz.func26, Tryz.ntmps26
  go_upto_region 1 with fail
  rw [HWW.out, HQ2.out]
  go_upto_region 2 with (first
    | (go_at_call 64; refine HOP.out.mono ?_; rintro e w2 ⟨tv, rfl, htv, hb2⟩; obtain ⟨ta, tc, hts⟩ := htv.shape; subst hts; have HTV := Lib.hid htv; have HB2 := Lib.hid (bel_tr HB1.out hb2); have HR2 := Lib.hid ((hb2.block _ (heap_lt HR1.out)).trans HR1.out); clear htv hb2)
    | (with_reducible refine wpList_store_new rfl _ _ rfl rfl rfl (by kernel_rfl) (by simp) (by simp [Value.oneCell']) ?_))
  have hnb := (Below.refl w2.heap.size w2).alloc (Nat.le_refl _) (.cells #[.int .i64 t.trip, .int .i64 t.acct, .int .i64 t.stop, .int .i64 t.iss, .int .i64 t.til, .int .i64 t.ep] 62)
  have hta := tat_new w2 t
  unfold Tok.row at hta
  obtain ⟨W, hW⟩ : ∃ X, w2.alloc (.cells #[.int .i64 t.trip, .int .i64 t.acct, .int .i64 t.stop, .int .i64 t.iss, .int .i64 t.til, .int .i64 t.ep] 62) = X := ⟨_, rfl⟩
  obtain ⟨p, hp⟩ : ∃ p, w2.heap.size = p := ⟨_, rfl⟩
  rw [hW] at hnb
  rw [hW, hp] at hta ⊢
  have HB4 := Lib.hid (bel_tr HB2.out hnb)
  have HR4 := Lib.hid ((hnb.block _ (heap_lt HR2.out)).trans HR2.out)
  have HTV4 := Lib.hid (HTV.out.below hnb)
  have HTA := Lib.hid hta
  obtain ⟨m, hm⟩ : ∃ m, tag.length = m := ⟨_, rfl⟩
  rw [hm] at HTV4 ⊢
  clear hnb hta hW hp hm HB2 HR2 HTV HOP HB1 HR1 HWW
  by_cases he : er = 0
  · subst he
    have HWF := Lib.hid (topen_wf HTO.out)
    obtain ⟨c0, c1, c2, c3, c4, c5⟩ := HTA.out.cells
    have r0 : W.cell? ⟨g, 0, none⟩ = some (.int .i64 keep) := cell_of_row W _ _ _ _ _ HR4.out
    have r1 : W.cell? ⟨g, 1, none⟩ = some (.slice va n vc) := cell_of_row W _ _ _ _ _ HR4.out
    have hfind := find_anyL keep _ l t.ep _ (H.out.below HB4.out) HS.out
    obtain ⟨ko, hko⟩ : ∃ o, kf t.ep l = o := ⟨_, rfl⟩
    unfold FindPost at hfind
    rw [hko] at hfind
    have HFIND := Lib.hid hfind
    have HKO := Lib.hid hko
    clear hfind hko
    rcases ko with _ | k
    · simp only [Option.isSome_none, Option.getD_none] at HFIND
      have HTF : Hid (cdev l b = ([], 20)) := Lib.hid (cdev_key HTO.out HKO.out)
      go_wp2_with (go_at_call 65; refine HFIND.out.mono ?_; rintro e w5 ⟨kv, rfl, hkv, hb5⟩; have HB5 := Lib.hid (bel_tr HB4.out hb5); clear hkv hb5)
      go_ret2
      unfold DevPost
      rw [HTF.out]
      exact ⟨_, rfl, (Ob.nil _ 0 5).bs, HB5.out⟩
    · simp only [Option.isSome_some, Option.getD_some] at HFIND
      have hkl : Hid (k.length < 140737488355328) := by
        obtain ⟨kk, hk, hkb⟩ := kf_mem HKO.out
        have := HS.out kk hk
        show _ < _
        rw [← hkb]; omega
      go_upto_region 7 with (go_at_call 65; refine HFIND.out.mono ?_; rintro e w5 ⟨kv, rfl, hkv, hb5⟩; have HKV := Lib.hid hkv; have HB5 := Lib.hid (bel_tr HB4.out hb5); have HTA5 := Lib.hid (HTA.out.below hb5); have HTV5 := Lib.hid (HTV4.out.below hb5); clear hkv hb5)
      clear c0 c1 c2 c3 c4 c5 r0 r1 HFIND HR4 HTA HTV4 HB4
      obtain ⟨c0, c1, c2, c3, c4, c5⟩ := HTA5.out.cells
      obtain ⟨bs, hbs⟩ : ∃ x, (tag == ttag k t) = x := ⟨_, rfl⟩
      have HBS := Lib.hid hbs
      have HFL := Lib.hid (tfields_len HWF.out)
      have HHT : Hid (hderive k tokS.data.toList (tfields t) = ttag k t) := rfl
      have HH : Hid (∀ (ob : Obj) X, Below w5.heap.size w5 X → Tabbed (X.alloc ob)) := fun ob X hX => HT.out.below (bel_al (bel_tr HB5.out hX) ob)
      have TSM : Hid (∀ X (a : Value), Below w5.heap.size w5 X → Bs X a (ttag k t) → Calls Tryz.prog 60 #[.slice ta m tc, a] X fun e w' => e = .returned (.bool bs) ∧ Below X.heap.size X w') := fun X a hX ha => by
        have := shasame_any _ a tag (ttag k t) X (HTV5.out.below hX) ha
        rw [hbs] at this
        exact this
      clear hbs
      rcases bs with _ | _
      · have HTF : Hid (cdev l b = ([], 21)) := Lib.hid (by rw [cdev_some HTO.out HKO.out, if_pos HBS.out])
        go_wp2_with (first
          | (go_at_call 66; refine (tfields_any t HWF.out w5).mono ?_; rintro e w9 ⟨v9, rfl, ho9, hb9⟩; obtain ⟨b9, d9, rfl⟩ := ho9.shape; have HO9 := Lib.hid ho9; have HB9 := Lib.hid hb9; clear ho9 hb9)
          | (go_at_call 61; refine (derive1_anyL _ (.slice b9 (tfields t).length d9) k (tfields t) tokS w9.heap.size _ ((HKV.out.below HB9.out).alloc _) (cell_of_one (heap_alloc_new w9 _)) (HO9.out.bs.alloc _) hkl.out (by have : tokS.size = 5 := rfl; have := HFL.out; omega) (HH.out _ _ HB9.out)).mono ?_; rintro e w11 ⟨v11, rfl, ho11, hb11⟩; rw [HHT.out] at ho11; have HO11 := Lib.hid ho11; have h911 := bel_tr (w := w5) (bel_al HB9.out _) hb11; have HB11 := Lib.hid h911; clear ho11 hb11 h911)
          | (go_at_call 60; refine (TSM.out _ _ HB11.out HO11.out.bs).mono ?_; rintro e w12 ⟨rfl, hb12⟩; have HB12 := Lib.hid (bel_tr HB5.out (bel_tr HB11.out hb12)); clear hb12))
        go_ret2
        unfold DevPost
        rw [HTF.out]
        exact ⟨_, rfl, (Ob.nil _ 0 5).bs, HB12.out⟩
      · have HTF : Hid (cdev l b = (hderive k devS.data.toList b, 0)) := Lib.hid (by rw [cdev_some HTO.out HKO.out, if_neg (by rw [HBS.out]; simp)])
        go_upto_region 9 with (first
          | (go_at_call 66; refine (tfields_any t HWF.out w5).mono ?_; rintro e w9 ⟨v9, rfl, ho9, hb9⟩; obtain ⟨b9, d9, rfl⟩ := ho9.shape; have HO9 := Lib.hid ho9; have HB9 := Lib.hid hb9; clear ho9 hb9)
          | (go_at_call 61; refine (derive1_anyL _ (.slice b9 (tfields t).length d9) k (tfields t) tokS w9.heap.size _ ((HKV.out.below HB9.out).alloc _) (cell_of_one (heap_alloc_new w9 _)) (HO9.out.bs.alloc _) hkl.out (by have : tokS.size = 5 := rfl; have := HFL.out; omega) (HH.out _ _ HB9.out)).mono ?_; rintro e w11 ⟨v11, rfl, ho11, hb11⟩; rw [HHT.out] at ho11; have HO11 := Lib.hid ho11; have h911 := bel_tr (w := w5) (bel_al HB9.out _) hb11; have HB11 := Lib.hid h911; clear ho11 hb11 h911)
          | (go_at_call 60; refine (TSM.out _ _ HB11.out HO11.out.bs).mono ?_; rintro e w12 ⟨rfl, hb12⟩; have h512 := bel_tr HB11.out hb12; have HB12 := Lib.hid h512; have HY12 := Lib.hid (HY.out.below (bel_tr HB5.out h512)); have HK12 := Lib.hid (HKV.out.below h512); clear hb12 h512))
        go_wp2_with (go_at_call 61; refine (derive1_anyL _ (.slice ya yn yc) k b devS w12.heap.size _ (HK12.out.alloc _) (cell_of_one (heap_alloc_new w12 _)) (HY12.out.alloc _) hkl.out (by have : devS.size = 6 := rfl; have := HL.out; omega) (HH.out _ _ HB12.out)).mono ?_; rintro e w13 ⟨v13, rfl, ho13, hb13⟩; have HO13 := Lib.hid ho13; have HB13 := Lib.hid (bel_tr (bel_al (bel_tr HB5.out HB12.out) _) hb13); clear ho13 hb13)
        go_ret2
        unfold DevPost
        rw [HTF.out]
        exact ⟨_, rfl, HO13.out.bs, HB13.out⟩
  · have hei : ((er : Int) != 0) = true := by simp; omega
    have HTF : Hid (cdev l b = ([], er)) := Lib.hid (cdev_e HTO.out he)
    clear he
    go_wp2
    go_ret2
    unfold DevPost
    rw [HTF.out]
    exact ⟨_, rfl, (Ob.nil _ 0 5).bs, HB4.out⟩

theorem chdevice_any (keep : Int) (v : Value) (l : List RK) (y : Value) (b : List UInt8) (w : World) (h : Ks w v l) (hy : Bs w y b) (hl : b.length ≤ 1048576) (hsm : ∀ k ∈ l, k.b.length ≤ 1000000) (hT : Tabbed w) :
    Calls Tryz.prog 26 #[.agg #[.int .i64 keep, v], y] w (DevPost l b w) :=
  chdevice_anyL keep v l y b w h hy hl (fun k hk => Nat.le_trans (hsm k hk) (by decide)) hT

end Go.Proofs.YtjnbdeopoohnmaaGreatDoor
/- Layer 11 (challenge): the reference's Device; few. -/
set_option linter.unusedSimpArgs false
namespace Go.Proofs.YtjnbdeopoohnmaaGreatDoor
open Go.RowKit Go.Sort

set_option maxRecDepth 100000 in
set_option maxHeartbeats 6400000 in
theorem vdevice_any (keep : Int) (v : Value) (l : List RK) (y : Value) (b : List UInt8) (w : World) (h : Ks w v l) (hy : Bs w y b) (hl : b.length ≤ 1048576) (hsm : ∀ k ∈ l, k.b.length ≤ 1000000) :
    Calls Tryz.prog 8 #[.agg #[.int .i64 keep, v], y] w (DevPost l b w) := by
  obtain ⟨va, vc, hvs⟩ := h.g.shape
  subst hvs
  obtain ⟨n, hn⟩ : ∃ n, l.length = n := ⟨_, rfl⟩
  rw [hn] at h ⊢
  obtain ⟨ya, yc, hs⟩ := hy.shape
  subst hs
  have H := Lib.hid h
  have HS := Lib.hid hsm
  have HL := Lib.hid hl
  obtain ⟨w1, hw1⟩ : ∃ W, w.alloc (.cells #[.int .i64 keep, .slice va n vc] 24) = W := ⟨_, rfl⟩
  have hb1 : Below w.heap.size w w1 := by rw [← hw1]; exact bel_al (Below.refl _ _) _
  have hr1 : w1.heap[w.heap.size]? = some (.cells #[.int .i64 keep, .slice va n vc] 24 (0, 0)) := by rw [← hw1]; exact heap_alloc_new _ _
  obtain ⟨g, hg⟩ : ∃ g, w.heap.size = g := ⟨_, rfl⟩
  have HQ2 : Hid (w.heap.size = g) := hg
  rw [hg] at hr1
  obtain ⟨t, tag, er, hto⟩ : ∃ t tag er, topen b = (t, tag, er) := ⟨_, _, _, rfl⟩
  have hop := uopen_any (.slice ya b.length yc) b w1 (hy.below hb1) hl
  unfold OpenPost at hop
  rw [hto] at hop
  simp only at hop
  unfold Tok.row at hop
  have HOP := Lib.hid hop
  have HTO := Lib.hid hto
  have HB1 := Lib.hid hb1
  have HR1 := Lib.hid hr1
  have HWW := Lib.hid hw1
  have HY := Lib.hid hy
  obtain ⟨yn, hyn⟩ : ∃ m, b.length = m := ⟨_, rfl⟩
  rw [hyn] at HY HOP ⊢
  have HYN := Lib.hid hyn
  clear h hsm hy hb1 hr1 hw1 hn hg hto hop hl hyn
  go_enter Tryz.func8, Tryz.ntmps8
  go_upto_region 1 with fail
  rw [HWW.out, HQ2.out]
  go_upto_region 2 with (first
    | (go_at_call 23; refine HOP.out.mono ?_; rintro e w2 ⟨tv, rfl, htv, hb2⟩; obtain ⟨ta, tc, hts⟩ := htv.shape; subst hts; have HTV := Lib.hid htv; have HB2 := Lib.hid (bel_tr HB1.out hb2); have HR2 := Lib.hid ((hb2.block _ (heap_lt HR1.out)).trans HR1.out); clear htv hb2)
    | (with_reducible refine wpList_store_new rfl _ _ rfl rfl rfl (by kernel_rfl) (by simp) (by simp [Value.oneCell']) ?_))
  have hnb := (Below.refl w2.heap.size w2).alloc (Nat.le_refl _) (.cells #[.int .i64 t.trip, .int .i64 t.acct, .int .i64 t.stop, .int .i64 t.iss, .int .i64 t.til, .int .i64 t.ep] 62)
  have hta := tat_new w2 t
  unfold Tok.row at hta
  obtain ⟨W, hW⟩ : ∃ X, w2.alloc (.cells #[.int .i64 t.trip, .int .i64 t.acct, .int .i64 t.stop, .int .i64 t.iss, .int .i64 t.til, .int .i64 t.ep] 62) = X := ⟨_, rfl⟩
  obtain ⟨p, hp⟩ : ∃ p, w2.heap.size = p := ⟨_, rfl⟩
  rw [hW] at hnb
  rw [hW, hp] at hta ⊢
  have HB4 := Lib.hid (bel_tr HB2.out hnb)
  have HR4 := Lib.hid ((hnb.block _ (heap_lt HR2.out)).trans HR2.out)
  have HTV4 := Lib.hid (HTV.out.below hnb)
  have HTA := Lib.hid hta
  obtain ⟨m, hm⟩ : ∃ m, tag.length = m := ⟨_, rfl⟩
  rw [hm] at HTV4 ⊢
  clear hnb hta hW hp hm HB2 HR2 HTV HOP HB1 HR1 HWW
  by_cases he : er = 0
  · subst he
    have HWF := Lib.hid (topen_wf HTO.out)
    obtain ⟨c0, c1, c2, c3, c4, c5⟩ := HTA.out.cells
    have r0 : W.cell? ⟨g, 0, none⟩ = some (.int .i64 keep) := cell_of_row W _ _ _ _ _ HR4.out
    have r1 : W.cell? ⟨g, 1, none⟩ = some (.slice va n vc) := cell_of_row W _ _ _ _ _ HR4.out
    have hfind := rrfind_any keep _ l t.ep _ (H.out.below HB4.out)
    obtain ⟨ko, hko⟩ : ∃ o, kf t.ep l = o := ⟨_, rfl⟩
    unfold FindPost at hfind
    rw [hko] at hfind
    have HFIND := Lib.hid hfind
    have HKO := Lib.hid hko
    clear hfind hko
    rcases ko with _ | k
    · simp only [Option.isSome_none, Option.getD_none] at HFIND
      have HTF : Hid (cdev l b = ([], 20)) := Lib.hid (cdev_key HTO.out HKO.out)
      go_wp2_with (go_at_call 28; refine HFIND.out.mono ?_; rintro e w5 ⟨kv, rfl, hkv, hb5⟩; have HB5 := Lib.hid (bel_tr HB4.out hb5); clear hkv hb5)
      go_ret2
      unfold DevPost
      rw [HTF.out]
      exact ⟨_, rfl, (Ob.nil _ 0 5).bs, HB5.out⟩
    · simp only [Option.isSome_some, Option.getD_some] at HFIND
      have hkl : Hid (k.length < 4294967296) := by
        obtain ⟨kk, hk, hkb⟩ := kf_mem HKO.out
        have := HS.out kk hk
        show _ < _
        rw [← hkb]; omega
      go_upto_region 7 with (go_at_call 28; refine HFIND.out.mono ?_; rintro e w5 ⟨kv, rfl, hkv, hb5⟩; have HKV := Lib.hid hkv; have HB5 := Lib.hid (bel_tr HB4.out hb5); have HTA5 := Lib.hid (HTA.out.below hb5); have HTV5 := Lib.hid (HTV4.out.below hb5); clear hkv hb5)
      clear c0 c1 c2 c3 c4 c5 r0 r1 HFIND HR4 HTA HTV4 HB4
      obtain ⟨c0, c1, c2, c3, c4, c5⟩ := HTA5.out.cells
      obtain ⟨bs, hbs⟩ : ∃ x, (tag == ttag k t) = x := ⟨_, rfl⟩
      have HBS := Lib.hid hbs
      have TG : Hid (∀ X, Below w5.heap.size w5 X → Calls Tryz.prog 29 #[kv, .agg #[.int .i64 t.trip, .int .i64 t.acct, .int .i64 t.stop, .int .i64 t.iss, .int .i64 t.til, .int .i64 t.ep]] X fun e w' => ∃ v, e = .returned v ∧ Ob w' X.heap.size 5 v (ttag k t) ∧ Below X.heap.size X w') := fun X hX => utag_any _ k t HWF.out X (HKV.out.below hX) hkl.out
      have TSM : Hid (∀ X (a : Value), Below w5.heap.size w5 X → Bs X a (ttag k t) → Calls Tryz.prog 16 #[a, .slice ta m tc] X fun e w' => e = .returned (.bool bs) ∧ Below X.heap.size X w') := fun X a hX ha => by
        have := same_any a _ (ttag k t) tag X ha (HTV5.out.below hX)
        rw [BEq.comm, hbs] at this
        exact this
      clear hbs
      rcases bs with _ | _
      · have HTF : Hid (cdev l b = ([], 21)) := Lib.hid (by rw [cdev_some HTO.out HKO.out, if_pos HBS.out])
        go_wp2_with (first
          | (go_at_call 29; refine (TG.out _ (Below.refl _ _)).mono ?_; rintro e w11 ⟨v11, rfl, ho11, hb11⟩; have HO11 := Lib.hid ho11; have HB11 := Lib.hid hb11; clear ho11 hb11)
          | (go_at_call 16; refine (TSM.out _ _ HB11.out HO11.out.bs).mono ?_; rintro e w12 ⟨rfl, hb12⟩; have HB12 := Lib.hid (bel_tr HB5.out (bel_tr HB11.out hb12)); clear hb12))
        go_ret2
        unfold DevPost
        rw [HTF.out]
        exact ⟨_, rfl, (Ob.nil _ 0 5).bs, HB12.out⟩
      · have HTF : Hid (cdev l b = (hderive k devS.data.toList b, 0)) := Lib.hid (by rw [cdev_some HTO.out HKO.out, if_neg (by rw [HBS.out]; simp)])
        go_upto_region 9 with (first
          | (go_at_call 29; refine (TG.out _ (Below.refl _ _)).mono ?_; rintro e w11 ⟨v11, rfl, ho11, hb11⟩; have HO11 := Lib.hid ho11; have HB11 := Lib.hid hb11; clear ho11 hb11)
          | (go_at_call 16; refine (TSM.out _ _ HB11.out HO11.out.bs).mono ?_; rintro e w12 ⟨rfl, hb12⟩; have h512 := bel_tr HB11.out hb12; have HB12 := Lib.hid (bel_tr HB5.out h512); have HY12 := Lib.hid (HY.out.below (bel_tr HB5.out h512)); have HK12 := Lib.hid (HKV.out.below h512); clear hb12 h512))
        go_wp2_with (go_at_call 30; refine (rderive_any _ _ k b devS hkl.out (by have : devS.size = 6 := rfl; have := HL.out; omega) w12 HK12.out HY12.out).mono ?_; rintro e w13 ⟨v13, rfl, ho13, hb13⟩; have HO13 := Lib.hid ho13; have HB13 := Lib.hid (bel_tr HB12.out hb13); clear ho13 hb13)
        go_ret2
        unfold DevPost
        rw [HTF.out]
        exact ⟨_, rfl, HO13.out.bs, HB13.out⟩
  · have hei : ((er : Int) != 0) = true := by simp; omega
    have HTF : Hid (cdev l b = ([], er)) := Lib.hid (cdev_e HTO.out he)
    clear he
    go_wp2
    go_ret2
    unfold DevPost
    rw [HTF.out]
    exact ⟨_, rfl, (Ob.nil _ 0 5).bs, HB4.out⟩

def LFew (l : List RK) (ls : List (List UInt8)) : Prop := RFew l ∧ ∀ b ∈ ls, b.length ≤ 500
noncomputable def lfew (l : List RK) (ls : List (List UInt8)) : Bool := @decide (LFew l ls) (Classical.propDecidable _)
theorem lfew_yes {l : List RK} {ls : List (List UInt8)} (h : LFew l ls) : lfew l ls = true := by unfold lfew; exact @decide_eq_true _ (Classical.propDecidable _) h
theorem lfew_no {l : List RK} {ls : List (List UInt8)} (h : ¬ LFew l ls) : lfew l ls = false := by unfold lfew; exact @decide_eq_false _ (Classical.propDecidable _) h

end Go.Proofs.YtjnbdeopoohnmaaGreatDoor
