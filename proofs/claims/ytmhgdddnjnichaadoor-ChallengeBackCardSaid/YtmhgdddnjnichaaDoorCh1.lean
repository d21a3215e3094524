/- Layer 11 (challenge): plain; the walks of good, time, Answer on both sides, Tag, the example. -/
import Derived.Test.YtmhgdddnjnichaaDoorTok6
import Derived.Test.YtmhgdddnjnichaaDoorTokV
import Derived.Deep.RegionHeld3
import Derived.Deep.CutBlock
set_option linter.unusedSimpArgs false
namespace Go.Proofs.YtmhgdddnjnichaaDoor
open Go.RowKit Go.Sort

def answS : ByteArray := ⟨#[97, 110, 115, 119, 101, 114]⟩
def devS : ByteArray := ⟨#[100, 101, 118, 105, 99, 101]⟩
def cmay (q : List UInt8) (now : Int) : Bool := decide (q.length = 16) && (decide (0 ≤ now) && decide (now ≤ 1099511627776))
def ctag (key q : List UInt8) (at' : Int) : List UInt8 := hderive key answS.data.toList (q ++ fnum at')
def cbody (key q : List UInt8) (now : Int) : List UInt8 := fnum now ++ (vput 32 ++ ctag key q now)
def cans (key q : List UInt8) (now : Int) : List UInt8 := fframe 6 (cbody key q now)
theorem cmay_iff (q : List UInt8) (now : Int) : cmay q now = true ↔ q.length = 16 ∧ 0 ≤ now ∧ now ≤ 1099511627776 := by
  unfold cmay; simp only [Bool.and_eq_true, decide_eq_true_iff]
theorem ctag_len (key q : List UInt8) (n : Int) : (ctag key q n).length = 32 := htag_len _ _
theorem cbody_len (key q : List UInt8) {n : Int} (h : W64 n) : (cbody key q n).length ≤ 52 := by
  have h1 := fnum_len h
  have h3 : (vput 32).length ≤ 10 := vput_len10 32 (by omega)
  unfold cbody
  simp only [List.length_append, ctag_len]
  omega

/-- Derive of two parts -/
theorem derive2_any (vk v1 v2 : Value) (key b1 b2 : List UInt8) (s : ByteArray) (g : Nat) (w : World) (hk : Bs w vk key) (hc1 : w.cell? ⟨g, 0, none⟩ = some v1) (hc2 : w.cell? ⟨g, 1, none⟩ = some v2) (hb1 : Bs w v1 b1) (hb2 : Bs w v2 b2) (hlk : key.length < 4294967296) (hlen : s.size + (b1.length + b2.length) < 4294960000) (hT : Tabbed w) :
    Calls Tryd.prog 25 #[vk, .string s, .slice (some ⟨g, 0, none⟩) 2 2] w fun e w' => ∃ v, e = .returned v ∧ Ob w' w.heap.size 5 v (hderive key s.data.toList (b1 ++ b2)) ∧ Below w.heap.size w w' := by
  have hrd : Rd w 1 (.slice (some ⟨g, 0, none⟩) 2 2) [v1, v2].length [v1, v2] :=
    ⟨rfl, _, 2, rfl, Nat.le_refl _, by decide, by simp, .inr ⟨g, 0, rfl, by have := World.block_lt_of_cell? w _ hc1; simpa using this, fun j u hu => by
      match j with
      | 0 => simpa using hc1.trans (by simpa using hu)
      | 1 => simpa using hc2.trans (by simpa using hu)
      | j + 2 => simp at hu⟩⟩
  have h := derive_any vk (.slice (some ⟨g, 0, none⟩) 2 2) key s [v1, v2] [b1, b2] rfl w hk hrd (fun i v l hv hl => by
    match i with
    | 0 => obtain rfl : v1 = v := by simpa using hv
           obtain rfl : b1 = l := by simpa using hl
           exact hb1
    | 1 => obtain rfl : v2 = v := by simpa using hv
           obtain rfl : b2 = l := by simpa using hl
           exact hb2
    | i + 2 => simp at hv) hlk (by simpa using hlen) hT
  simpa using h

theorem chgood_any (q : Value) (b : List UInt8) (now : Int) (w : World) (h : Bs w q b) : Calls Tryd.prog 95 #[q, .int .i64 now] w fun e w' => e = .returned (.bool (cmay b now)) ∧ w = w' := by
  obtain ⟨a, c, rfl⟩ := h.shape
  unfold cmay
  obtain ⟨m, hm⟩ : ∃ m, b.length = m := ⟨_, rfl⟩
  rw [hm]
  clear hm h
  go_enter Tryd.func95, Tryd.ntmps95
  by_cases h1 : m = 16
  · subst h1
    by_cases h2 : 0 ≤ now
    · by_cases h3 : now ≤ 1099511627776
      · go_wp2
        go_ret
        exact ⟨ret_bool (by simp [h2, h3]), rfl⟩
      · go_wp2
        go_ret
        exact ⟨ret_bool (by simp [h2, h3]), rfl⟩
    · go_wp2
      go_ret
      exact ⟨ret_bool (by simp; omega), rfl⟩
  · have e1 : ((m : Int) == 16) = false := by simp; omega
    go_wp2
    go_ret
    exact ⟨ret_bool (by simp [h1]), rfl⟩
theorem vmay_any (q : Value) (b : List UInt8) (now : Int) (w : World) (h : Bs w q b) : Calls Tryd.prog 56 #[q, .int .i64 now] w fun e w' => e = .returned (.bool (cmay b now)) ∧ w = w' := by
  obtain ⟨a, c, rfl⟩ := h.shape
  unfold cmay
  obtain ⟨m, hm⟩ : ∃ m, b.length = m := ⟨_, rfl⟩
  rw [hm]
  clear hm h
  go_enter Tryd.func56, Tryd.ntmps56
  by_cases h1 : m = 16
  · subst h1
    by_cases h2 : 0 ≤ now
    · by_cases h3 : now ≤ 1099511627776
      · go_wp2
        go_ret
        exact ⟨ret_bool (by simp [h2, h3]), rfl⟩
      · go_wp2
        go_ret
        exact ⟨ret_bool (by simp [h2, h3]), rfl⟩
    · go_wp2
      go_ret
      exact ⟨ret_bool (by simp; omega), rfl⟩
  · have e1 : ((m : Int) == 16) = false := by simp; omega
    go_wp2
    go_ret
    exact ⟨ret_bool (by simp [h1]), rfl⟩

theorem chtime_any (now : Int) (hn : W64 now) (w : World) : Calls Tryd.prog 96 #[.int .i64 now] w fun e w' => ∃ v, e = .returned v ∧ Ob w' w.heap.size 5 v (fnum now) ∧ Below w.heap.size w w' := by
  have hwr : Wr (w.alloc (.cells #[.slice none 0 0] 109)) w.heap.size w.heap.size (.slice none 0 0) [] := ⟨Nat.le_refl _, heap_alloc_new w _, Ob.nil _ _ _⟩
  have hb1 := bel_al (Below.refl w.heap.size w) (.cells #[.slice none 0 0] 109)
  have hfl := fnum_len hn
  go_enter Tryd.func96, Tryd.ntmps96
  go_upto_region 2 with fail
  obtain ⟨W, hW⟩ : ∃ X, w.alloc (.cells #[.slice none 0 0] 109) = X := ⟨_, rfl⟩
  obtain ⟨p, hp⟩ : ∃ p, w.heap.size = p := ⟨_, rfl⟩
  have HP := Lib.hid hp
  rw [hW] at hwr hb1
  rw [hp] at hwr
  rw [hW, hp]
  have HWR := Lib.hid hwr
  have HB1 := Lib.hid hb1
  have HFL := Lib.hid hfl
  have HPW : Hid (p ≤ W.heap.size) := Nat.le_of_lt hwr.lt
  clear hwr hb1 hW hp hfl
  go_wp2_with (first
    | (go_at_call 83; refine (wNumber_any now hn.1 hn.2 p _ _ p W HWR.out HPW.out (by simp)).mono ?_; rintro e w3 ⟨rfl, v3, hw3⟩; have HV3 := Lib.hid hw3.wr; have HB3 := Lib.hid (hw3.bel HWR.out HPW.out); clear hw3)
    | (go_at_call 77; refine (wOut_any p v3 (fnum now) p _ HV3.out (by have := HFL.out; omega)).mono ?_; rintro e w7 ⟨v7, rfl, ho7, hb7⟩; have HO7 := Lib.hid ho7; have HB7 := Lib.hid hb7; clear ho7 hb7))
  go_ret
  have hp := HP.out
  have h3 : Below w.heap.size w w3 := HB1.out.trans (by rw [hp]; exact HB3.out)
  exact ⟨_, rfl, by rw [← hp]; exact HO7.out.mono (by have := h3.size; omega), h3.trans (HB7.out.mono h3.size)⟩

theorem vtag_any (vk vq : Value) (key q : List UInt8) (now : Int) (hn : W64 now) (w : World) (hk : Bs w vk key) (hq : Bs w vq q) (hlk : key.length < 4294967296) (hlq : q.length ≤ 1000) :
    Calls Tryd.prog 97 #[vk, vq, .int .i64 now] w fun e w' => ∃ v, e = .returned v ∧ Ob w' w.heap.size 5 v (ctag key q now) ∧ Below w.heap.size w w' := by
  have HK := Lib.hid hk
  have HQ := Lib.hid hq
  have hfl := fnum_len hn
  have HFL := Lib.hid hfl
  have HO0 : Hid (Ob w w.heap.size 5 (.slice none 0 0) []) := Ob.nil _ _ _
  clear hk hq hfl
  go_enter Tryd.func97, Tryd.ntmps97
  go_wp2_with (first
    | (at_builtin; go_must (first
        | (refine wpList_append_bytes HO0.out HQ.out elB (by simp; omega) (by simp; omega) (Nat.le_refl _) ?_ _ _ rfl rfl rfl rfl; intro v1 w1 ho1 hg1 hb1 _; have HO1 := Lib.hid ho1; have HB1 := Lib.hid hb1; clear ho1 hb1 hg1)
        | (refine wpList_append_bytes HO12.out HO2.out.bs elB (by have := HFL.out; unfold fnum at this; simp; omega) (by have := HFL.out; unfold fnum at this; simp; omega) HB2.out.size ?_ _ _ rfl rfl rfl rfl; intro v3 w3 ho3 hg3 hb3 _; have HO3 := Lib.hid ho3; have HB3 := Lib.hid (HB2.out.trans hb3); clear ho3 hb3 hg3)))
    | (go_at_call 84; refine (rnumber_any now hn.1 hn.2 w1).mono ?_; rintro e w2 ⟨v2, rfl, ho2, hb2⟩; have HO2 := Lib.hid ho2; have HO12 := Lib.hid (HO1.out.below hb2); have HB2 := Lib.hid (bel_tr HB1.out hb2); clear ho2 hb2)
    | (go_at_call 26; refine (rderive_any _ _ key ([] ++ q ++ vput now.toNat) answS hlk (by have : answS.size = 6 := rfl; have := HFL.out; unfold fnum at this; simp only [List.length_append, List.length_nil]; omega) w3 (HK.out.below HB3.out) HO3.out.bs).mono ?_; rintro e w4 ⟨v4, rfl, ho4, hb4⟩; have HO4 := Lib.hid ho4; have HB4 := Lib.hid hb4; clear ho4 hb4))
  go_ret
  have h := HO4.out.mono HB3.out.size
  rw [List.nil_append] at h
  exact ⟨_, rfl, h, HB3.out.trans (HB4.out.mono HB3.out.size)⟩

theorem cmay_wf {q : List UInt8} {now : Int} (h : cmay q now = true) : W64 now := by
  have := (cmay_iff q now).1 h
  unfold W64
  omega

theorem chanswer_bad (vk vq : Value) (q : List UInt8) (now : Int) (w : World) (hm : cmay q now = false) (hq : Bs w vq q) :
    Calls Tryd.prog 55 #[vk, vq, .int .i64 now] w fun e w' => e = .returned (.tuple #[.slice none 0 0, .int .i64 2]) ∧ Below w.heap.size w w' := by
  have HG := Lib.hid (chgood_any vq q now w hq)
  rw [hm] at HG
  clear hq hm
  go_enter Tryd.func55, Tryd.ntmps55
  go_wp2_with (go_at_call 95; refine HG.out.mono ?_; rintro e w1 ⟨rfl, rfl⟩)
  go_ret2
  exact ⟨rfl, Below.refl _ _⟩

set_option maxHeartbeats 3200000 in
theorem chanswer_ok (vk vq : Value) (key q : List UInt8) (now : Int) (w : World) (hm : cmay q now = true) (hk : Bs w vk key) (hq : Bs w vq q) (hlk : key.length < 4294967296) (hT : Tabbed w) :
    Calls Tryd.prog 55 #[vk, vq, .int .i64 now] w fun e w' => ∃ v, e = .returned (.tuple #[v, .int .i64 0]) ∧ Ob w' w.heap.size 5 v (cans key q now) ∧ Below w.heap.size w w' := by
  have hn := cmay_wf hm
  have hq16 := ((cmay_iff q now).1 hm).1
  obtain ⟨qa, qc, rfl⟩ := hq.shape
  rw [hq16] at hq ⊢
  have HK := Lib.hid hk
  have HQ := Lib.hid hq
  have HT := Lib.hid hT
  have HG := Lib.hid (chgood_any _ q now w hq)
  rw [hm] at HG
  have HFL := Lib.hid (fnum_len hn)
  have HQL := Lib.hid hq16
  have HN := Lib.hid hn
  have HBD := Lib.hid (cbody_len key q hn)
  have hwr : Wr (w.alloc (.cells #[.slice none 0 0] 109)) w.heap.size w.heap.size (.slice none 0 0) [] := ⟨Nat.le_refl _, heap_alloc_new w _, Ob.nil _ _ _⟩
  have hb1 := bel_al (Below.refl w.heap.size w) (.cells #[.slice none 0 0] 109)
  clear hk hq hT hm hq16 hn
  go_enter Tryd.func55, Tryd.ntmps55
  go_upto_region 4 with (go_at_call 95; refine HG.out.mono ?_; rintro e w1 ⟨rfl, rfl⟩)
  obtain ⟨W, hW⟩ : ∃ X, w.alloc (.cells #[.slice none 0 0] 109) = X := ⟨_, rfl⟩
  obtain ⟨p, hp⟩ : ∃ p, w.heap.size = p := ⟨_, rfl⟩
  have HP := Lib.hid hp
  rw [hW] at hwr hb1
  rw [hp] at hwr
  rw [hW, hp]
  have HWR := Lib.hid hwr
  have HB1 := Lib.hid hb1
  have HPW : Hid (p ≤ W.heap.size) := Nat.le_of_lt hwr.lt
  clear hwr hb1 hW hp HG
  go_upto_region 5 with (go_at_call 83; refine (wNumber_any now HN.out.1 HN.out.2 p _ _ p W HWR.out HPW.out (by simp)).mono ?_; rintro e w3 ⟨rfl, v3, hw3⟩; have HV3 := Lib.hid hw3.wr; have HB3 := Lib.hid (HB1.out.trans (by rw [HP.out]; exact (hw3.bel HWR.out HPW.out))); clear hw3)
  obtain ⟨tg, htg⟩ : ∃ x, ctag key q now = x := ⟨_, rfl⟩
  have HTG : Hid (hderive key answS.data.toList (q ++ fnum now) = tg) := htg
  have HTL : Hid (tg.length = 32) := by rw [← htg]; exact ctag_len _ _ _
  go_upto_region 6 with (first
    | (go_at_call 96; refine (chtime_any now HN.out w3).mono ?_; rintro e w4 ⟨v4, rfl, ho4, hb4⟩; obtain ⟨b4, d4, rfl⟩ := ho4.shape; have HO4 := Lib.hid ho4; have HB34 := Lib.hid hb4; have HB4 := Lib.hid (bel_tr HB3.out hb4); clear ho4 hb4)
    | (go_at_call 25; refine (derive2_any _ (.slice qa 16 qc) (.slice b4 (fnum now).length d4) key q (fnum now) answS w4.heap.size _ ((HK.out.below HB4.out).alloc _) (cell_of_row _ _ 0 _ _ _ (heap_alloc_new w4 _)) (cell_of_row _ _ 1 _ _ _ (heap_alloc_new w4 _)) ((HQ.out.below HB4.out).alloc _) (HO4.out.bs.alloc _) hlk (by have : answS.size = 6 := rfl; have := HFL.out; have := HQL.out; omega) (HT.out.below (bel_al HB4.out _))).mono ?_; rintro e w5 ⟨v5, rfl, ho5, hb5⟩; rw [HTG.out] at ho5; have HO5 := Lib.hid ho5; have h35 := bel_tr (w := w3) (bel_al HB34.out _) hb5; have HB35 := Lib.hid h35; have HB5 := Lib.hid (bel_tr HB3.out h35); have HV5 := Lib.hid (HV3.out.below h35); clear ho5 hb5 h35)
    | (go_at_call 74; refine (wBytes_any _ tg p _ _ p _ HV5.out HO5.out.bs (fun hne k hk hf => by have h1 := (HO5.out.lt k hk).1; have h2 := (HV3.out.foot k hf).2; have h3 := HB34.out.size; simp at h1; omega) (by have := HB35.out.size; have := HV3.out.lt; omega) (by have := HFL.out; unfold fnum at this; simp; omega) (by have := HTL.out; omega)).mono ?_; rintro e w6 ⟨rfl, v6, hw6⟩; have HV6 := Lib.hid hw6.wr; have HB6 := Lib.hid (HB5.out.trans (by rw [HP.out]; exact (hw6.bel HV5.out (by have := HB35.out.size; have := HV3.out.lt; omega)))); clear hw6))
  have hbody : ([] ++ vput now.toNat ++ (vput tg.length ++ tg) : List UInt8) = cbody key q now := by
    unfold cbody fnum
    rw [HTL.out, htg]
    simp
  rw [hbody] at HV6
  clear hbody htg
  go_wp2_with (first
    | (go_at_call 77; refine (wOut_any p v6 _ p _ HV6.out (by have := HBD.out; omega)).mono ?_; rintro e w7 ⟨v7, rfl, ho7, hb7⟩; have HO7 := Lib.hid ho7; have HB7 := Lib.hid (bel_tr HB6.out hb7); clear ho7 hb7)
    | (go_at_call 76; refine (fput_any 6 6 rfl _ (cbody key q now) _ HO7.out.bs (by have := HBD.out; omega)).mono ?_; rintro e w8 ⟨v8, rfl, ho8, hb8⟩; have HO8 := Lib.hid ho8; have HB8 := Lib.hid hb8; clear ho8 hb8))
  go_ret2
  exact ⟨_, rfl, HO8.out.mono HB7.out.size, bel_tr HB7.out HB8.out⟩

set_option maxHeartbeats 1600000 in
theorem vanswer_any (vk vq : Value) (key q : List UInt8) (now : Int) (w : World) (hm : cmay q now = true) (hk : Bs w vk key) (hq : Bs w vq q) (hlk : key.length < 4294967296) :
    Calls Tryd.prog 57 #[vk, vq, .int .i64 now] w fun e w' => ∃ v, e = .returned v ∧ Ob w' w.heap.size 5 v (cans key q now) ∧ Below w.heap.size w w' := by
  have hn := cmay_wf hm
  have hq16 := ((cmay_iff q now).1 hm).1
  have HK := Lib.hid hk
  have HQ := Lib.hid hq
  have HFL := Lib.hid (fnum_len hn)
  have HQL := Lib.hid hq16
  have HN := Lib.hid hn
  have HBD := Lib.hid (cbody_len key q hn)
  have TG : Hid (∀ X, Below w.heap.size w X → Calls Tryd.prog 97 #[vk, vq, .int .i64 now] X fun e w' => ∃ v, e = .returned v ∧ Ob w' X.heap.size 5 v (ctag key q now) ∧ Below X.heap.size X w') := fun X hX => vtag_any vk vq key q now hn X (hk.below hX) (hq.below hX) hlk (by omega)
  obtain ⟨tg, htg⟩ : ∃ x, ctag key q now = x := ⟨_, rfl⟩
  have HTL : Hid (tg.length = 32) := by rw [← htg]; exact ctag_len _ _ _
  rw [htg] at TG
  clear hk hq hm hq16 hn
  go_enter Tryd.func57, Tryd.ntmps57
  go_wp2_with (first
    | (go_at_call 84; refine (rnumber_any now HN.out.1 HN.out.2 w).mono ?_; rintro e w2 ⟨v2, rfl, ho2, hb2⟩; have HO2 := Lib.hid ho2; have HB2 := Lib.hid hb2; clear ho2 hb2)
    | (go_at_call 97; refine (TG.out _ HB2.out).mono ?_; rintro e w3 ⟨v3, rfl, ho3, hb3⟩; have HO3 := Lib.hid ho3; have HO23 := Lib.hid (HO2.out.below hb3); have HB3 := Lib.hid (bel_tr HB2.out hb3); clear ho3 hb3)
    | (go_at_call 79; refine (rbytes_any _ tg _ HO3.out.bs (by have := HTL.out; omega)).mono ?_; rintro e w4 ⟨v4, rfl, ho4, hb4⟩; have HO4 := Lib.hid ho4; have HO24 := Lib.hid (HO23.out.below hb4); have HB4 := Lib.hid (bel_tr HB3.out hb4); clear ho4 hb4)
    | (at_builtin; go_must (refine wpList_append_bytes HO24.out HO4.out.bs elB (by have h0 := HFL.out; have := HTL.out; have h3 : (vput 32).length ≤ 10 := vput_len10 32 (by omega); unfold fnum at h0; simp only [List.length_append]; rw [HTL.out]; omega) (by have h0 := HFL.out; have := HTL.out; have h3 : (vput 32).length ≤ 10 := vput_len10 32 (by omega); unfold fnum at h0; simp only [List.length_append]; rw [HTL.out]; omega) HB4.out.size ?_ _ _ rfl rfl rfl rfl); intro v5 w5 ho5 hg5 hb5 _; have HO5 := Lib.hid ho5; have HB5 := Lib.hid (HB4.out.trans hb5); clear ho5 hb5 hg5)
    | (go_at_call 78; refine (rfput_any 6 6 rfl _ (cbody key q now) _ (by have h := HO5.out.bs; rw [HTL.out] at h; have e : (vput now.toNat ++ (vput 32 ++ tg) : List UInt8) = cbody key q now := (by unfold cbody fnum; rw [htg]); rw [e] at h; exact h) (by have := HBD.out; omega)).mono ?_; rintro e w8 ⟨v8, rfl, ho8, hb8⟩; have HO8 := Lib.hid ho8; have HB8 := Lib.hid hb8; clear ho8 hb8))
  go_ret
  exact ⟨_, rfl, HO8.out.mono HB5.out.size, bel_tr HB5.out HB8.out⟩

theorem cans_ex (k q : List UInt8) : (cans k q 5).length = 41 ∧ (cans k q 5)[1]? = some 6 := by
  have h5 : vput 5 = [5] := by rw [vput_small (by omega)]; rfl
  have h32 : vput 32 = [32] := by rw [vput_small (by omega)]; rfl
  have hl : (cbody k q 5).length = 34 := by
    unfold cbody fnum
    simp only [List.length_append, ctag_len]
    rw [show (5 : Int).toNat = 5 from rfl, h5, h32]
    rfl
  refine ⟨?_, rfl⟩
  unfold cans
  rw [fframe_len, hl, vput_small (by omega)]
  rfl

set_option maxRecDepth 100000 in
set_option maxHeartbeats 1600000 in
theorem awake11_any (w : World) (hT : Tabbed w) : Calls Tryd.prog 51 #[] w fun e w' => e = .returned (.bool true) ∧ Below w.heap.size w w' := by
  have HT := Lib.hid hT
  clear hT
  go_enter Tryd.func51, Tryd.ntmps51
  go_upto_region 2 with (first
    | (with_reducible refine wpList_make_bytes w elB 16 (by decide) (by decide) rfl _ _ rfl _ _ rfl rfl ?_; intro v1 w1 ho1 hb1; have HO1 := Lib.hid ho1; have HB1 := Lib.hid hb1; clear ho1 hb1)
    | (go_at_call 55; refine (chanswer_ok (.slice none 0 0) v1 [] (List.replicate 16 0) 5 w1 (by decide) (Ob.nil w1 0 5).bs HO1.out.bs (by decide) (HT.out.below HB1.out)).mono ?_; rintro e w2 ⟨v2, rfl, ho2, hb2⟩; have HO2 := Lib.hid ho2; have HB2 := Lib.hid (bel_tr HB1.out hb2); clear ho2 hb2))
  obtain ⟨hl, h6⟩ := cans_ex [] (List.replicate 16 0)
  obtain ⟨a, c, adr, rfl, _, _, hi, _, hc⟩ := Bs.open_n elB HO2.out.bs 41 hl
  have x0 := fun W => hi W 1 (by omega) (by omega)
  have c0 := hc 1 6 h6
  clear hi hc hl h6
  go_wp2
  go_ret
  exact ⟨rfl, HB2.out⟩

end Go.Proofs.YtmhgdddnjnichaaDoor
