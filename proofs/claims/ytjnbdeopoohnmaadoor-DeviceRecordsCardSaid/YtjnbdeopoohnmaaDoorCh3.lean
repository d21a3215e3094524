/- Ch3: Ch1, Ch2, Ch3 as one text. -/
import Derived.Test.YtjnbdeopoohnmaaDoorTok6
import Derived.Test.YtjnbdeopoohnmaaDoorTokV
import Derived.Deep.RegionHeld3
import Derived.Deep.CutBlock
/- Layer 11 (challenge): plain; the walks of good, time, Answer on both sides, Tag, the example. -/
set_option linter.unusedSimpArgs false
namespace Go.Proofs.YtjnbdeopoohnmaaDoor
open Go.RowKit Go.Sort

def answS : ByteArray := ⟨#[97, 110, 115, 119, 101, 114]⟩
def devS : ByteArray := ⟨#[100, 101, 118, 105, 99, 101]⟩
def cmay (q : List UInt8) (now : Int) : Bool := decide (q.length = 16) && (decide (0 ≤ now) && decide (now ≤ 1099511627776))
def ctag (key q : List UInt8) (at' : Int) : List UInt8 := hderive key answS.data.toList (q ++ fnum at')
def cbody (key q : List UInt8) (now : Int) : List UInt8 := fnum now ++ (vput 32 ++ ctag key q now)
def cans (key q : List UInt8) (now : Int) : List UInt8 := fframe 6 (cbody key q now)
theorem cmay_iff (q : List UInt8) (now : Int) : cmay q now = true ↔ q.length = 16 ∧ 0 ≤ now ∧ now ≤ 1099511627776 := by
  unfold cmay; simp only [Bool.and_eq_true, decide_eq_true_iff]
theorem ctag_len (key q : List UInt8) (n : Int) : (ctag key q n).length = 32 := htag_len _ _
theorem cbody_len (key q : List UInt8) {n : Int} (h : W64 n) : (cbody key q n).length ≤ 52 := by
  have h1 := fnum_len h
  have h3 : (vput 32).length ≤ 10 := vput_len10 32 (by omega)
  unfold cbody
  simp only [List.length_append, ctag_len]
  omega

/-- Derive of two parts -/
theorem derive2_any (vk v1 v2 : Value) (key b1 b2 : List UInt8) (s : ByteArray) (g : Nat) (w : World) (hk : Bs w vk key) (hc1 : w.cell? ⟨g, 0, none⟩ = some v1) (hc2 : w.cell? ⟨g, 1, none⟩ = some v2) (hb1 : Bs w v1 b1) (hb2 : Bs w v2 b2) (hlk : key.length < 4294967296) (hlen : s.size + (b1.length + b2.length) < 4294960000) (hT : Tabbed w) :
    Calls Tryd.prog 43 #[vk, .string s, .slice (some ⟨g, 0, none⟩) 2 2] w fun e w' => ∃ v, e = .returned v ∧ Ob w' w.heap.size 5 v (hderive key s.data.toList (b1 ++ b2)) ∧ Below w.heap.size w w' := by
  have hrd : Rd w 1 (.slice (some ⟨g, 0, none⟩) 2 2) [v1, v2].length [v1, v2] :=
    ⟨rfl, _, 2, rfl, Nat.le_refl _, by decide, by simp, .inr ⟨g, 0, rfl, by have := World.block_lt_of_cell? w _ hc1; simpa using this, fun j u hu => by
      match j with
      | 0 => simpa using hc1.trans (by simpa using hu)
      | 1 => simpa using hc2.trans (by simpa using hu)
      | j + 2 => simp at hu⟩⟩
  have h := derive_any vk (.slice (some ⟨g, 0, none⟩) 2 2) key s [v1, v2] [b1, b2] rfl w hk hrd (fun i v l hv hl => by
    match i with
    | 0 => obtain rfl : v1 = v := by simpa using hv
           obtain rfl : b1 = l := by simpa using hl
           exact hb1
    | 1 => obtain rfl : v2 = v := by simpa using hv
           obtain rfl : b2 = l := by simpa using hl
           exact hb2
    | i + 2 => simp at hv) hlk (by simpa using hlen) hT
  simpa using h

theorem cmay_wf {q : List UInt8} {now : Int} (h : cmay q now = true) : W64 now := by
  have := (cmay_iff q now).1 h
  unfold W64
  omega

theorem cans_ex (k q : List UInt8) : (cans k q 5).length = 41 ∧ (cans k q 5)[1]? = some 6 := by
  have h5 : vput 5 = [5] := by rw [vput_small (by omega)]; rfl
  have h32 : vput 32 = [32] := by rw [vput_small (by omega)]; rfl
  have hl : (cbody k q 5).length = 34 := by
    unfold cbody fnum
    simp only [List.length_append, ctag_len]
    rw [show (5 : Int).toNat = 5 from rfl, h5, h32]
    rfl
  refine ⟨?_, rfl⟩
  unfold cans
  rw [fframe_len, hl, vput_small (by omega)]
  rfl

end Go.Proofs.YtjnbdeopoohnmaaDoor
/- Layer 11 (challenge): the walks of Device, on both sides; few. -/
set_option linter.unusedSimpArgs false
namespace Go.Proofs.YtjnbdeopoohnmaaDoor
open Go.RowKit Go.Sort

def cdev (l : List RK) (b : List UInt8) : List UInt8 × Nat :=
  match topen b with
  | (t, tag, e) => if e ≠ 0 then ([], e) else
    match kf t.ep l with
    | none => ([], 20)
    | some k => if (tag == ttag k t) = false then ([], 21) else (hderive k devS.data.toList b, 0)
section
variable {l : List RK} {b : List UInt8} {t : Tok} {tag k : List UInt8} {e : Nat}
theorem cdev_e (h : topen b = (t, tag, e)) (he : e ≠ 0) : cdev l b = ([], e) := by
  unfold cdev; rw [h]; dsimp only; rw [if_pos he]
theorem cdev_key (h : topen b = (t, tag, 0)) (hk : kf t.ep l = none) : cdev l b = ([], 20) := by
  unfold cdev; rw [h]; dsimp only; rw [if_neg (by omega), hk]
theorem cdev_some (h : topen b = (t, tag, 0)) (hk : kf t.ep l = some k) : cdev l b = if (tag == ttag k t) = false then ([], 21) else (hderive k devS.data.toList b, 0) := by
  unfold cdev; rw [h]; dsimp only; rw [if_neg (by omega), hk]
end
theorem cdev_len (l : List RK) (b : List UInt8) : (cdev l b).1.length ≤ 32 := by
  obtain ⟨t, tag, er, hto⟩ : ∃ t tag er, topen b = (t, tag, er) := ⟨_, _, _, rfl⟩
  by_cases he : er = 0
  · subst he
    rcases hk : kf t.ep l with _ | k
    · rw [cdev_key hto hk]; simp
    · rw [cdev_some hto hk]
      split
      · simp
      · show (htag _ _).length ≤ 32
        rw [htag_len]; omega
  · rw [cdev_e hto he]; simp
def DevPost (l : List RK) (b : List UInt8) (w : World) (e : Ending) (w' : World) : Prop :=
  ∃ v, e = .returned (.tuple #[v, .int .i64 ((cdev l b).2 : Nat)]) ∧ Bs w' v (cdev l b).1 ∧ Below w.heap.size w w'

set_option maxRecDepth 100000 in
set_option maxHeartbeats 6400000 in
theorem chdevice_any (keep : Int) (v : Value) (l : List RK) (y : Value) (b : List UInt8) (w : World) (h : Ks w v l) (hy : Bs w y b) (hl : b.length ≤ 1048576) (hsm : ∀ k ∈ l, k.b.length ≤ 1000000) (hT : Tabbed w) :
    Calls Tryd.prog 24 #[.agg #[.int .i64 keep, v], y] w (DevPost l b w) := by
  obtain ⟨va, vc, hvs⟩ := h.g.shape
  subst hvs
  obtain ⟨n, hn⟩ : ∃ n, l.length = n := ⟨_, rfl⟩
  rw [hn] at h ⊢
  obtain ⟨ya, yc, hs⟩ := hy.shape
  subst hs
  have H := Lib.hid h
  have HS := Lib.hid hsm
  have HT := Lib.hid hT
  have HL := Lib.hid hl
  obtain ⟨w1, hw1⟩ : ∃ W, w.alloc (.cells #[.int .i64 keep, .slice va n vc] 39) = W := ⟨_, rfl⟩
  have hb1 : Below w.heap.size w w1 := by rw [← hw1]; exact bel_al (Below.refl _ _) _
  have hr1 : w1.heap[w.heap.size]? = some (.cells #[.int .i64 keep, .slice va n vc] 39 (0, 0)) := by rw [← hw1]; exact heap_alloc_new _ _
  obtain ⟨g, hg⟩ : ∃ g, w.heap.size = g := ⟨_, rfl⟩
  have HQ2 : Hid (w.heap.size = g) := hg
  rw [hg] at hr1
  obtain ⟨t, tag, er, hto⟩ : ∃ t tag er, topen b = (t, tag, er) := ⟨_, _, _, rfl⟩
  have hop := open_any (.slice ya b.length yc) b w1 (hy.below hb1) hl
  unfold OpenPost at hop
  rw [hto] at hop
  simp only at hop
  unfold Tok.row at hop
  have HOP := Lib.hid hop
  have HTO := Lib.hid hto
  have HB1 := Lib.hid hb1
  have HR1 := Lib.hid hr1
  have HWW := Lib.hid hw1
  have HY := Lib.hid hy
  obtain ⟨yn, hyn⟩ : ∃ m, b.length = m := ⟨_, rfl⟩
  rw [hyn] at HY HOP ⊢
  have HYN := Lib.hid hyn
  clear h hsm hT hy hb1 hr1 hw1 hn hg hto hop hl hyn
  go_enter Tryd.func24, Tryd.ntmps24
  go_upto_region 1 with fail
  rw [HWW.out, HQ2.out]
  go_upto_region 2 with (first
    | (go_at_call 27; refine HOP.out.mono ?_; rintro e w2 ⟨tv, rfl, htv, hb2⟩; obtain ⟨ta, tc, hts⟩ := htv.shape; subst hts; have HTV := Lib.hid htv; have HB2 := Lib.hid (bel_tr HB1.out hb2); have HR2 := Lib.hid ((hb2.block _ (heap_lt HR1.out)).trans HR1.out); clear htv hb2)
    | (with_reducible refine wpList_store_new rfl _ _ rfl rfl rfl (by kernel_rfl) (by simp) (by simp [Value.oneCell']) ?_))
  have hnb := (Below.refl w2.heap.size w2).alloc (Nat.le_refl _) (.cells #[.int .i64 t.trip, .int .i64 t.acct, .int .i64 t.stop, .int .i64 t.iss, .int .i64 t.til, .int .i64 t.ep] 51)
  have hta := tat_new w2 t
  unfold Tok.row at hta
  obtain ⟨W, hW⟩ : ∃ X, w2.alloc (.cells #[.int .i64 t.trip, .int .i64 t.acct, .int .i64 t.stop, .int .i64 t.iss, .int .i64 t.til, .int .i64 t.ep] 51) = X := ⟨_, rfl⟩
  obtain ⟨p, hp⟩ : ∃ p, w2.heap.size = p := ⟨_, rfl⟩
  rw [hW] at hnb
  rw [hW, hp] at hta ⊢
  have HB4 := Lib.hid (bel_tr HB2.out hnb)
  have HR4 := Lib.hid ((hnb.block _ (heap_lt HR2.out)).trans HR2.out)
  have HTV4 := Lib.hid (HTV.out.below hnb)
  have HTA := Lib.hid hta
  obtain ⟨m, hm⟩ : ∃ m, tag.length = m := ⟨_, rfl⟩
  rw [hm] at HTV4 ⊢
  clear hnb hta hW hp hm HB2 HR2 HTV HOP HB1 HR1 HWW
  by_cases he : er = 0
  · subst he
    have HWF := Lib.hid (topen_wf HTO.out)
    obtain ⟨c0, c1, c2, c3, c4, c5⟩ := HTA.out.cells
    have r0 : W.cell? ⟨g, 0, none⟩ = some (.int .i64 keep) := cell_of_row W _ _ _ _ _ HR4.out
    have r1 : W.cell? ⟨g, 1, none⟩ = some (.slice va n vc) := cell_of_row W _ _ _ _ _ HR4.out
    have hfind := find_any keep _ l t.ep _ (H.out.below HB4.out) HS.out
    obtain ⟨ko, hko⟩ : ∃ o, kf t.ep l = o := ⟨_, rfl⟩
    unfold FindPost at hfind
    rw [hko] at hfind
    have HFIND := Lib.hid hfind
    have HKO := Lib.hid hko
    clear hfind hko
    rcases ko with _ | k
    · simp only [Option.isSome_none, Option.getD_none] at HFIND
      have HTF : Hid (cdev l b = ([], 20)) := Lib.hid (cdev_key HTO.out HKO.out)
      go_wp2_with (go_at_call 41; refine HFIND.out.mono ?_; rintro e w5 ⟨kv, rfl, hkv, hb5⟩; have HB5 := Lib.hid (bel_tr HB4.out hb5); clear hkv hb5)
      go_ret2
      unfold DevPost
      rw [HTF.out]
      exact ⟨_, rfl, (Ob.nil _ 0 5).bs, HB5.out⟩
    · simp only [Option.isSome_some, Option.getD_some] at HFIND
      have hkl : Hid (k.length < 4294967296) := by
        obtain ⟨kk, hk, hkb⟩ := kf_mem HKO.out
        have := HS.out kk hk
        show _ < _
        rw [← hkb]; omega
      go_upto_region 7 with (go_at_call 41; refine HFIND.out.mono ?_; rintro e w5 ⟨kv, rfl, hkv, hb5⟩; have HKV := Lib.hid hkv; have HB5 := Lib.hid (bel_tr HB4.out hb5); have HTA5 := Lib.hid (HTA.out.below hb5); have HTV5 := Lib.hid (HTV4.out.below hb5); clear hkv hb5)
      clear c0 c1 c2 c3 c4 c5 r0 r1 HFIND HR4 HTA HTV4 HB4
      obtain ⟨c0, c1, c2, c3, c4, c5⟩ := HTA5.out.cells
      obtain ⟨bs, hbs⟩ : ∃ x, (tag == ttag k t) = x := ⟨_, rfl⟩
      have HBS := Lib.hid hbs
      have HFL := Lib.hid (tfields_len HWF.out)
      have HHT : Hid (hderive k tokS.data.toList (tfields t) = ttag k t) := rfl
      have HH : Hid (∀ (ob : Obj) X, Below w5.heap.size w5 X → Tabbed (X.alloc ob)) := fun ob X hX => HT.out.below (bel_al (bel_tr HB5.out hX) ob)
      have TSM : Hid (∀ X (a : Value), Below w5.heap.size w5 X → Bs X a (ttag k t) → Calls Tryd.prog 42 #[.slice ta m tc, a] X fun e w' => e = .returned (.bool bs) ∧ Below X.heap.size X w') := fun X a hX ha => by
        have := shasame_any _ a tag (ttag k t) X (HTV5.out.below hX) ha
        rw [hbs] at this
        exact this
      clear hbs
      rcases bs with _ | _
      · have HTF : Hid (cdev l b = ([], 21)) := Lib.hid (by rw [cdev_some HTO.out HKO.out, if_pos HBS.out])
        go_wp2_with (first
          | (go_at_call 44; refine (tfields_any t HWF.out w5).mono ?_; rintro e w9 ⟨v9, rfl, ho9, hb9⟩; obtain ⟨b9, d9, rfl⟩ := ho9.shape; have HO9 := Lib.hid ho9; have HB9 := Lib.hid hb9; clear ho9 hb9)
          | (go_at_call 43; refine (derive1_any _ (.slice b9 (tfields t).length d9) k (tfields t) tokS w9.heap.size _ ((HKV.out.below HB9.out).alloc _) (cell_of_one (heap_alloc_new w9 _)) (HO9.out.bs.alloc _) hkl.out (by have : tokS.size = 5 := rfl; have := HFL.out; omega) (HH.out _ _ HB9.out)).mono ?_; rintro e w11 ⟨v11, rfl, ho11, hb11⟩; rw [HHT.out] at ho11; have HO11 := Lib.hid ho11; have h911 := bel_tr (w := w5) (bel_al HB9.out _) hb11; have HB11 := Lib.hid h911; clear ho11 hb11 h911)
          | (go_at_call 42; refine (TSM.out _ _ HB11.out HO11.out.bs).mono ?_; rintro e w12 ⟨rfl, hb12⟩; have HB12 := Lib.hid (bel_tr HB5.out (bel_tr HB11.out hb12)); clear hb12))
        go_ret2
        unfold DevPost
        rw [HTF.out]
        exact ⟨_, rfl, (Ob.nil _ 0 5).bs, HB12.out⟩
      · have HTF : Hid (cdev l b = (hderive k devS.data.toList b, 0)) := Lib.hid (by rw [cdev_some HTO.out HKO.out, if_neg (by rw [HBS.out]; simp)])
        go_upto_region 9 with (first
          | (go_at_call 44; refine (tfields_any t HWF.out w5).mono ?_; rintro e w9 ⟨v9, rfl, ho9, hb9⟩; obtain ⟨b9, d9, rfl⟩ := ho9.shape; have HO9 := Lib.hid ho9; have HB9 := Lib.hid hb9; clear ho9 hb9)
          | (go_at_call 43; refine (derive1_any _ (.slice b9 (tfields t).length d9) k (tfields t) tokS w9.heap.size _ ((HKV.out.below HB9.out).alloc _) (cell_of_one (heap_alloc_new w9 _)) (HO9.out.bs.alloc _) hkl.out (by have : tokS.size = 5 := rfl; have := HFL.out; omega) (HH.out _ _ HB9.out)).mono ?_; rintro e w11 ⟨v11, rfl, ho11, hb11⟩; rw [HHT.out] at ho11; have HO11 := Lib.hid ho11; have h911 := bel_tr (w := w5) (bel_al HB9.out _) hb11; have HB11 := Lib.hid h911; clear ho11 hb11 h911)
          | (go_at_call 42; refine (TSM.out _ _ HB11.out HO11.out.bs).mono ?_; rintro e w12 ⟨rfl, hb12⟩; have h512 := bel_tr HB11.out hb12; have HB12 := Lib.hid h512; have HY12 := Lib.hid (HY.out.below (bel_tr HB5.out h512)); have HK12 := Lib.hid (HKV.out.below h512); clear hb12 h512))
        go_wp2_with (go_at_call 43; refine (derive1_any _ (.slice ya yn yc) k b devS w12.heap.size _ (HK12.out.alloc _) (cell_of_one (heap_alloc_new w12 _)) (HY12.out.alloc _) hkl.out (by have : devS.size = 6 := rfl; have := HL.out; omega) (HH.out _ _ HB12.out)).mono ?_; rintro e w13 ⟨v13, rfl, ho13, hb13⟩; have HO13 := Lib.hid ho13; have HB13 := Lib.hid (bel_tr (bel_al (bel_tr HB5.out HB12.out) _) hb13); clear ho13 hb13)
        go_ret2
        unfold DevPost
        rw [HTF.out]
        exact ⟨_, rfl, HO13.out.bs, HB13.out⟩
  · have hei : ((er : Int) != 0) = true := by simp; omega
    have HTF : Hid (cdev l b = ([], er)) := Lib.hid (cdev_e HTO.out he)
    clear he
    go_wp2
    go_ret2
    unfold DevPost
    rw [HTF.out]
    exact ⟨_, rfl, (Ob.nil _ 0 5).bs, HB4.out⟩

end Go.Proofs.YtjnbdeopoohnmaaDoor
/- Layer 11 (challenge): the reference's Device; few. -/
set_option linter.unusedSimpArgs false
namespace Go.Proofs.YtjnbdeopoohnmaaDoor
open Go.RowKit Go.Sort

def LFew (l : List RK) (ls : List (List UInt8)) : Prop := RFew l ∧ ∀ b ∈ ls, b.length ≤ 500
noncomputable def lfew (l : List RK) (ls : List (List UInt8)) : Bool := @decide (LFew l ls) (Classical.propDecidable _)
theorem lfew_yes {l : List RK} {ls : List (List UInt8)} (h : LFew l ls) : lfew l ls = true := by unfold lfew; exact @decide_eq_true _ (Classical.propDecidable _) h
theorem lfew_no {l : List RK} {ls : List (List UInt8)} (h : ¬ LFew l ls) : lfew l ls = false := by unfold lfew; exact @decide_eq_false _ (Classical.propDecidable _) h

end Go.Proofs.YtjnbdeopoohnmaaDoor
