/- RingS: RingS, Ring, RingK, RingN, RingC, RingF, RingP as one text. -/
import Derived.Test.YtjnbdeopoohnmaaGreatDoorBase
import Derived.Test.YtjnbdeopoohnmaaGreatDoorShaW
import Derived.Test.YtjnbdeopoohnmaaGreatDoorHmL
import Derived.Test.YtjnbdeopoohnmaaGreatDoorVarint
/- Layer 9 (ring): plain, and keys as rows. -/
namespace Go.Proofs.YtjnbdeopoohnmaaGreatDoor
open Go.RowKit

/-- a key: its epoch, and where its bytes lie -/
structure RK where
  ep : Int
  a : Option Addr
  c : Nat
  b : List UInt8
def RK.v (k : RK) : Value := .slice k.a k.b.length k.c
def RK.cells (k : RK) : List Value := [.int .i64 k.ep, k.v]
theorem layK : Lay 2 RK.cells := ⟨fun _ => rfl, fun k u hu => by simp [RK.cells, RK.v] at hu; rcases hu with rfl | rfl <;> rfl, by decide⟩
theorem elK : ElTy Tryz.prog 22 34 (.agg #[.int .i64 0, .slice none 0 0]) 2 32 := ⟨Tryz.underlying22, info_parts (by kernel_rfl), rfl, by decide⟩

def KeyWf (k : RK) : Prop := -9223372036854775808 ≤ k.ep ∧ k.ep ≤ 9223372036854775807
/-- keys that can be read -/
structure Ks (w : World) (v : Value) (l : List RK) : Prop where
  g : Gs 2 RK.cells w v l
  b : ∀ k ∈ l, Bs w k.v k.b
  wf : ∀ k ∈ l, KeyWf k
theorem Ks.below {w w' : World} {v : Value} {l : List RK} (h : Ks w v l) (hb : Below w.heap.size w w') : Ks w' v l := ⟨h.g.below hb, fun k hk => (h.b k hk).below hb, h.wf⟩

/-- none of the blocks of F is read -/
def KsOff (F : Nat → Prop) (v : Value) (l : List RK) : Prop := (∀ k, v.ownBlock = some k → ¬ F k) ∧ ∀ x ∈ l, ∀ k, x.v.ownBlock = some k → ¬ F k
theorem Ks.only {F : Nat → Prop} {w w' : World} {v : Value} {l : List RK} (h : Ks w v l) (hf : KsOff F v l) (ho : Only F w w') : Ks w' v l :=
  ⟨h.g.only ho hf.1, fun k hk => (h.b k hk).only ho (hf.2 k hk), h.wf⟩

/-- the first key's epoch -/
def ep0 : List RK → Int
  | k :: _ => k.ep
  | [] => 0
/-- the last key's -/
def epl : List RK → Int
  | [] => 0
  | [k] => k.ep
  | _ :: k :: r => epl (k :: r)
def RP (keep : Int) (l : List RK) : Prop :=
  1 ≤ keep ∧ keep ≤ 16 ∧ 0 < l.length ∧ (l.length : Int) ≤ keep ∧ 1 ≤ ep0 l ∧ ep0 l + l.length ≤ 1048577 ∧ ∀ (i : Nat) (k : RK), l[i]? = some k → k.b.length = 32 ∧ k.ep = ep0 l + i
noncomputable def kok (keep : Int) (l : List RK) : Bool := @decide (RP keep l) (Classical.propDecidable _)
theorem kok_yes {keep : Int} {l : List RK} (h : RP keep l) : kok keep l = true := by unfold kok; exact @decide_eq_true _ (Classical.propDecidable _) h
theorem kok_no {keep : Int} {l : List RK} (h : ¬ RP keep l) : kok keep l = false := by unfold kok; exact @decide_eq_false _ (Classical.propDecidable _) h

theorem epl_get : ∀ (l : List RK) (k : RK), l[l.length - 1]? = some k → epl l = k.ep
  | [], k, h => by simp at h
  | [a], k, h => by simp at h; subst h; rfl
  | a :: b :: r, k, h => by
    show epl (b :: r) = _
    refine epl_get (b :: r) k ?_
    simpa using h
theorem ep0_get (l : List RK) (k : RK) (h : l[0]? = some k) : ep0 l = k.ep := by
  cases l with
  | nil => simp at h
  | cons a r => simp at h; subst h; rfl

end Go.Proofs.YtjnbdeopoohnmaaGreatDoor
/- Layer 9 (ring): the walks of Right and Now. -/
set_option linter.unusedSimpArgs false
namespace Go.Proofs.YtjnbdeopoohnmaaGreatDoor
open Go.RowKit Go.Sort

/-- the keys' cells, in every later world -/
theorem Ks.open_ {w : World} {v : Value} {l : List RK} (h : Ks w v l) (n : Nat) (hn : l.length = n) :
    ∃ a c b, ∃ o : Nat → Nat, v = .slice a n c ∧ n ≤ c ∧ c ≤ 9223372036854775807 ∧
      (∀ (W : World) (i : Nat), i < n → (Instr.indexAt 22 (.slice a n c) (.int .i64 (i : Int))).run Tryz.prog W = .ok (.pointer (some ⟨b, o i, none⟩)) W) ∧
      (∀ W, Below w.heap.size w W → ∀ i k, l[i]? = some k → W.cell? ⟨b, o i, none⟩ = some (.int .i64 k.ep) ∧ W.cell? ⟨b, o i + 1, none⟩ = some k.v) := by
  obtain ⟨a, c, b, o, h1, h2, h3, h4, h5, h6, _⟩ := Gs.open_n layK elK h.g n hn
  refine ⟨a, c, b, o, h1, h2, h3, h4, fun W hW i k hk => ?_⟩
  have hi : i < n := by rw [← hn]; exact (List.getElem?_eq_some_iff.1 hk).1
  rw [hW.cell (h5 i hi), hW.cell (h5 i hi)]
  exact ⟨h6 i k hk 0 _ rfl, h6 i k hk 1 _ rfl⟩

end Go.Proofs.YtjnbdeopoohnmaaGreatDoor
/- Layer 9 (ring): the walks of key (program and reference). -/
set_option linter.unusedSimpArgs false
namespace Go.Proofs.YtjnbdeopoohnmaaGreatDoor
open Go.RowKit Go.Sort

def epS : ByteArray := ⟨#[101, 112, 111, 99, 104]⟩
def be4 (m : Nat) : List UInt8 := [UInt8.ofNat (m / 16777216), UInt8.ofNat (m / 65536), UInt8.ofNat (m / 256), UInt8.ofNat m]
def rkey (draw : List UInt8) (m : Nat) : List UInt8 := hderive draw epS.data.toList (be4 m)
theorem rkey_len (draw : List UInt8) (m : Nat) : (rkey draw m).length = 32 := htag_len _ _

theorem be4_cells (m : Nat) (h : m < 4294967296) : [Value.int .u8 ((m : Int) / 16777216), .int .u8 ((m : Int) / 65536 % 256), .int .u8 ((m : Int) / 256 % 256), .int .u8 ((m : Int) % 256)] = (be4 m).map bv := by
  have e : ∀ k : Nat, bv (UInt8.ofNat k) = .int .u8 ((k : Int) % 256) := fun k => by unfold bv; rw [UInt8.toNat_ofNat']; rfl
  simp only [be4, List.map_cons, List.map_nil, e]
  have h1 : (m : Int) / 16777216 = ((m / 16777216 : Nat) : Int) % 256 := by omega
  rw [h1]
  rfl

/-- Derive of one part -/
theorem derive1_anyL (vk vb : Value) (key b : List UInt8) (s : ByteArray) (g : Nat) (w : World) (hk : Bs w vk key) (hc : w.cell? ⟨g, 0, none⟩ = some vb) (hb : Bs w vb b) (hlk : key.length < 140737488355328) (hlen : s.size + b.length < 4294960000) (hT : Tabbed w) :
    Calls Tryz.prog 61 #[vk, .string s, .slice (some ⟨g, 0, none⟩) 1 1] w fun e w' => ∃ v, e = .returned v ∧ Ob w' w.heap.size 5 v (hderive key s.data.toList b) ∧ Below w.heap.size w w' := by
  have hrd : Rd w 1 (.slice (some ⟨g, 0, none⟩) 1 1) [vb].length [vb] :=
    ⟨rfl, _, 1, rfl, Nat.le_refl _, by decide, by simp, .inr ⟨g, 0, rfl, by have := World.block_lt_of_cell? w _ hc; simpa using this, fun j u hu => by
      match j with
      | 0 => simpa using hc.trans (by simpa using hu)
      | j + 1 => simp at hu⟩⟩
  have h := derive_anyL vk (.slice (some ⟨g, 0, none⟩) 1 1) key s [vb] [b] rfl w hk hrd (fun i v l hv hl => by
    match i with
    | 0 => obtain rfl : vb = v := by simpa using hv
           obtain rfl : b = l := by simpa using hl
           exact hb
    | i + 1 => simp at hv) hlk (by simpa using hlen) hT
  simpa using h

theorem derive1_any (vk vb : Value) (key b : List UInt8) (s : ByteArray) (g : Nat) (w : World) (hk : Bs w vk key) (hc : w.cell? ⟨g, 0, none⟩ = some vb) (hb : Bs w vb b) (hlk : key.length < 4294967296) (hlen : s.size + b.length < 4294960000) (hT : Tabbed w) :
    Calls Tryz.prog 61 #[vk, .string s, .slice (some ⟨g, 0, none⟩) 1 1] w fun e w' => ∃ v, e = .returned v ∧ Ob w' w.heap.size 5 v (hderive key s.data.toList b) ∧ Below w.heap.size w w' :=
  derive1_anyL vk vb key b s g w hk hc hb (by omega) hlen hT

end Go.Proofs.YtjnbdeopoohnmaaGreatDoor
/- Layer 9 (ring): the walk of New. -/
set_option linter.unusedSimpArgs false
namespace Go.Proofs.YtjnbdeopoohnmaaGreatDoor
open Go.RowKit Go.Sort

/-- a ring as a value -/
def ringV (keep : Int) (v : Value) : Value := .agg #[.int .i64 keep, v]

theorem ks_one {w : World} {v : Value} {k : RK} (hg : Gs 2 RK.cells w v [k]) (hb : Bs w k.v k.b) (hw : KeyWf k) : Ks w v [k] :=
  ⟨hg, fun k' h => by simp at h; subst h; exact hb, fun k' h => by simp at h; subst h; exact hw⟩

end Go.Proofs.YtjnbdeopoohnmaaGreatDoor
/- Layer 9 (ring): the walks of slices.Clone at keys, slices.IndexFunc at keys, Find. -/
set_option linter.unusedSimpArgs false
namespace Go.Proofs.YtjnbdeopoohnmaaGreatDoor
open Go.RowKit Go.Sort

theorem gw_made {α : Type} {s : Nat} {cs : α → List Value} (w : World) (e : Nat) : Gw s cs (w.alloc (.cells #[] e)) w.heap.size e (.slice (some ⟨w.heap.size, 0, none⟩) 0 0) [] :=
  World.ownsRow_made w #[] 0 (Nat.le_refl _) (by simp [maxLen]) (by simp)

theorem find1_any (ep x : Int) (v : Value) (g : Nat) (w : World) (hc : w.cell? ⟨g, 0, none⟩ = some (.int .i64 x)) :
    Calls Tryz.prog 95 #[.agg #[.int .i64 ep, v], .pointer (some ⟨g, 0, none⟩)] w fun e w' => e = .returned (.bool (ep == x)) ∧ Below w.heap.size w w' := by
  have hlt : g < w.heap.size := by have := World.block_lt_of_cell? w _ hc; simpa using this
  have hb : Below w.heap.size w (w.alloc (.cells #[.int .i64 ep, v] 34)) := (Below.refl _ _).alloc (Nat.le_refl _) _
  have c1 : (w.alloc (.cells #[.int .i64 ep, v] 34)).cell? ⟨g, 0, none⟩ = some (.int .i64 x) := by rw [hb.cell hlt]; exact hc
  have HB := Lib.hid hb
  clear hc hb
  go_enter Tryz.func95, Tryz.ntmps95
  go_wp2
  go_ret
  exact ⟨rfl, HB.out⟩

/-- r is the place of the first key of the epoch x, or -1 -/
def KIdx (l : List RK) (x r : Int) : Prop :=
  (∃ (i : Nat) (k : RK), r = i ∧ l[i]? = some k ∧ k.ep = x ∧ ∀ (j : Nat) (k' : RK), j < i → l[j]? = some k' → k'.ep ≠ x) ∨ (r = -1 ∧ ∀ (j : Nat) (k' : RK), l[j]? = some k' → k'.ep ≠ x)
def IdxPost (l : List RK) (x : Int) (w : World) (e : Ending) (w' : World) : Prop := ∃ r, e = .returned (.int .i64 r) ∧ KIdx l x r ∧ Below w.heap.size w w'

set_option maxHeartbeats 800000 in
theorem indexK_any (v : Value) (l : List RK) (x : Int) (g : Nat) (w : World) (h : Ks w v l) (hg : w.cell? ⟨g, 0, none⟩ = some (.int .i64 x)) :
    Calls Tryz.prog 94 #[v, .func (Fn.func 95) #[] #[.pointer (some ⟨g, 0, none⟩)]] w (IdxPost l x w) := by
  obtain ⟨n, hn⟩ : ∃ n, l.length = n := ⟨_, rfl⟩
  obtain ⟨a, c, b, o, rfl, h2, h3, hi, hc⟩ := h.open_ n hn
  have hlt : g < w.heap.size := by have := World.block_lt_of_cell? w _ hg; simpa using this
  have HG : Hid (∀ W, Below w.heap.size w W → W.cell? ⟨g, 0, none⟩ = some (.int .i64 x)) := fun W hW => by rw [hW.cell hlt]; exact hg
  have HI := Lib.hid hi
  have HC := Lib.hid hc
  have HN := Lib.hid hn
  clear h hi hc hg hn
  go_enter Tryz.func94, Tryz.ntmps94
  go_wp2_with fail
  go_loopw [8] (fun vi wr => ∃ k : Nat, k ≤ n ∧ vi = .int .i64 k ∧ Hid (∀ (j : Nat) (k' : RK), j < k → l[j]? = some k' → k'.ep ≠ x) ∧ Hid (Below w.heap.size w wr)) (fun vi _ => n - (intOf vi).toNat)
  case atStart => exact ⟨0, by omega, rfl, Lib.hid (fun j k' hj => by omega), Lib.hid (Below.refl _ _)⟩
  case round =>
    obtain ⟨i, hin, rfl, hall, hb⟩ := hrel
    by_cases hlt2 : i < n
    · have e1 : (i : Int) < n := by omega
      obtain ⟨k, hk⟩ : ∃ k, l[i]? = some k := ⟨_, List.getElem?_eq_getElem (by rw [HN.out]; exact hlt2)⟩
      obtain ⟨c0, c1⟩ := HC.out _ hb.out i k hk
      have x0 := fun W => HI.out W i hlt2
      obtain ⟨ep, hep⟩ : ∃ ep, k.ep = ep := ⟨_, rfl⟩
      obtain ⟨kv, hkv⟩ : ∃ v, k.v = v := ⟨_, rfl⟩
      rw [hep] at c0
      rw [hkv] at c1
      have HK := Lib.hid hk
      have HEP := Lib.hid hep
      clear hk hep hkv
      have hs := hb.out.size
      by_cases hx : ep = x
      · have hq : (ep == x) = true := by simp [hx]
        have HX := Lib.hid hx
        have HQ := Lib.hid hq
        clear hx hq
        go_wp2_with (go_at_call 95; refine (find1_any ep x kv g _ (HG.out _ hb.out)).mono ?_; rw [HQ.out]; rintro e w2 ⟨rfl, hb2⟩; have HB2 := Lib.hid (bel_tr hb.out hb2); clear hb2)
        go_ret
        exact ⟨_, rfl, .inl ⟨i, k, rfl, HK.out, HEP.out.trans HX.out, hall.out⟩, HB2.out⟩
      · have hq : (ep == x) = false := by simpa using hx
        have HX := Lib.hid hx
        have HQ := Lib.hid hq
        clear hx hq
        go_wp2_with (go_at_call 95; refine (find1_any ep x kv g _ (HG.out _ hb.out)).mono ?_; rw [HQ.out]; rintro e w2 ⟨rfl, hb2⟩; have HB2 := Lib.hid (bel_tr hb.out hb2); clear hb2)
        go_roundw
        case rel =>
          refine ⟨i + 1, by omega, by go_num, Lib.hid ?_, HB2⟩
          intro j k' hj hk'
          by_cases e : j = i
          · subst e
            rw [HK.out] at hk'
            obtain rfl := Option.some.inj hk'
            rw [HEP.out]
            exact HX.out
          · exact hall.out j k' (by omega) hk'
        case measure => simp [intOf]; omega
    · have e1 : ¬ (i : Int) < n := by omega
      obtain rfl : i = n := by omega
      go_wp2
      go_ret
      exact ⟨_, rfl, .inr ⟨rfl, fun j k' hk' => hall.out j k' (by rw [← HN.out]; exact (List.getElem?_eq_some_iff.1 hk').1) hk'⟩, hb.out⟩

end Go.Proofs.YtjnbdeopoohnmaaGreatDoor
/- Layer 9 (ring): the walks of Find (program and reference). -/
set_option linter.unusedSimpArgs false
namespace Go.Proofs.YtjnbdeopoohnmaaGreatDoor
open Go.RowKit Go.Sort

/-- the first key's bytes of an epoch -/
def kf (x : Int) : List RK → Option (List UInt8)
  | [] => none
  | k :: r => if k.ep = x then some k.b else kf x r
theorem kf_yes (x : Int) : ∀ (l : List RK) (i : Nat) (k : RK), l[i]? = some k → k.ep = x → (∀ (j : Nat) (k' : RK), j < i → l[j]? = some k' → k'.ep ≠ x) → kf x l = some k.b
  | [], i, k, h, _, _ => by simp at h
  | a :: r, 0, k, h, hx, _ => by
    simp at h
    subst h
    unfold kf
    rw [if_pos hx]
  | a :: r, i + 1, k, h, hx, hn => by
    unfold kf
    rw [if_neg (hn 0 a (by omega) rfl)]
    exact kf_yes x r i k (by simpa using h) hx fun j k' hj hk' => hn (j + 1) k' (by omega) (by simpa using hk')
theorem kf_no (x : Int) : ∀ (l : List RK), (∀ (j : Nat) (k' : RK), l[j]? = some k' → k'.ep ≠ x) → kf x l = none
  | [], _ => rfl
  | a :: r, h => by
    unfold kf
    rw [if_neg (h 0 a rfl)]
    exact kf_no x r fun j k' hk' => h (j + 1) k' (by simpa using hk')

def FindPost (l : List RK) (x : Int) (w : World) (e : Ending) (w' : World) : Prop :=
  ∃ v, e = .returned (.tuple #[v, .bool (kf x l).isSome]) ∧ Bs w' v ((kf x l).getD []) ∧ Below w.heap.size w w'

set_option maxHeartbeats 800000 in
theorem find_anyL (keep : Int) (v : Value) (l : List RK) (x : Int) (w : World) (h : Ks w v l) (hsm : ∀ k ∈ l, k.b.length ≤ 140737488351232) :
    Calls Tryz.prog 65 #[.agg #[.int .i64 keep, v], .int .i64 x] w (FindPost l x w) := by
  obtain ⟨n, hn⟩ : ∃ n, l.length = n := ⟨_, rfl⟩
  have H := Lib.hid h
  obtain ⟨a, c, b, o, rfl, h2, h3, hi, hc⟩ := h.open_ n hn
  have hA := bel_al (bel_al (Below.refl w.heap.size w) (Obj.cells #[.int .i64 keep, .slice a n c] 24)) (Obj.cells #[.int .i64 x] 3)
  have HA := Lib.hid hA
  have HG : Hid (((w.alloc (Obj.cells #[.int .i64 keep, .slice a n c] 24)).alloc (Obj.cells #[.int .i64 x] 3)).cell? ⟨w.heap.size + 1, 0, none⟩ = some (.int .i64 x)) := cell_n3 w _ _ _
  have HROW : Hid (((w.alloc (Obj.cells #[.int .i64 keep, .slice a n c] 24)).alloc (Obj.cells #[.int .i64 x] 3)).heap[w.heap.size]? = some (.cells #[.int .i64 keep, .slice a n c] 24 (0, 0))) := by
    show _ = _
    rw [alloc_get, if_neg (by simp)]
    exact heap_alloc_new _ _
  have HI := Lib.hid hi
  have HC := Lib.hid hc
  have HN := Lib.hid hn
  have HSM := Lib.hid hsm
  clear h hi hc hn hA hsm
  go_enter Tryz.func65, Tryz.ntmps65
  go_wp2_with fail
  refine (indexK_any _ l x _ _ (H.out.below HA.out) HG.out).mono ?_
  rintro e w2 ⟨r, rfl, hr, hb2⟩
  have HB2 := Lib.hid (bel_tr HA.out hb2)
  have hrow2 : w2.heap[w.heap.size]? = some (.cells #[.int .i64 keep, .slice a n c] 24 (0, 0)) := (hb2.block _ (by simp; omega)).trans HROW.out
  have c1 : w2.cell? ⟨w.heap.size, 1, none⟩ = some (.slice a n c) := cell_of_row w2 _ _ _ _ _ hrow2
  clear hb2 hrow2
  rcases hr with ⟨i, k, rfl, hk, hx, hall⟩ | ⟨rfl, hall⟩
  · have hkf := kf_yes x l i k hk hx hall
    have HKF := Lib.hid hkf
    have hin : i < n := by rw [← HN.out]; exact (List.getElem?_eq_some_iff.1 hk).1
    have e0 : ¬ (i : Int) < 0 := by omega
    have x0 := fun W => HI.out W i hin
    obtain ⟨d0, d1⟩ := HC.out _ HB2.out i k hk
    have hkm := List.mem_of_getElem? hk
    have HBK := Lib.hid ((H.out.b k hkm).below HB2.out)
    have HSK := Lib.hid (HSM.out k hkm)
    obtain ⟨kv, hkv⟩ : ∃ v, k.v = v := ⟨_, rfl⟩
    rw [hkv] at d1 HBK
    clear hk hx hall hkf hkm hkv
    go_wp2_with (go_at_call 27; refine (clone1_any kv k.b _ HBK.out (by have := HSK.out; omega)).mono ?_; rintro e w3 ⟨v3, rfl, ho3, hb3⟩; have HO3 := Lib.hid ho3; have HB3 := Lib.hid (bel_tr HB2.out hb3); clear ho3 hb3)
    go_ret2
    refine ⟨v3, ?_, ?_, HB3.out⟩
    · rw [HKF.out]; rfl
    · rw [HKF.out]; exact HO3.out.bs
  · have HKF : Hid (kf x l = none) := kf_no x l hall
    clear hall
    go_wp2
    go_ret2
    refine ⟨.slice none 0 0, ?_, ?_, HB2.out⟩
    · rw [HKF.out]; rfl
    · rw [HKF.out]; exact Rd.nil _ 1

theorem find_any (keep : Int) (v : Value) (l : List RK) (x : Int) (w : World) (h : Ks w v l) (hsm : ∀ k ∈ l, k.b.length ≤ 1000000) :
    Calls Tryz.prog 65 #[.agg #[.int .i64 keep, v], .int .i64 x] w (FindPost l x w) :=
  find_anyL keep v l x w h (fun k hk => Nat.le_trans (hsm k hk) (by decide))

set_option maxHeartbeats 800000 in
theorem rrfind_any (keep : Int) (v : Value) (l : List RK) (x : Int) (w : World) (h : Ks w v l) :
    Calls Tryz.prog 28 #[.agg #[.int .i64 keep, v], .int .i64 x] w (FindPost l x w) := by
  obtain ⟨n, hn⟩ : ∃ n, l.length = n := ⟨_, rfl⟩
  have H := Lib.hid h
  obtain ⟨a, c, b, o, rfl, h2, h3, hi, hc⟩ := h.open_ n hn
  have HA := Lib.hid (bel_al (Below.refl w.heap.size w) (Obj.cells #[.int .i64 keep, .slice a n c] 24))
  have HI := Lib.hid hi
  have HC := Lib.hid hc
  have HN := Lib.hid hn
  clear h hi hc hn
  go_enter Tryz.func28, Tryz.ntmps28
  go_wp2_with fail
  go_loop [6] (fun vi => ∃ k : Nat, k ≤ n ∧ vi = .int .i64 k ∧ Hid (∀ (j : Nat) (k' : RK), j < k → l[j]? = some k' → k'.ep ≠ x)) (fun vi => n - (intOf vi).toNat)
  case atStart => exact ⟨0, by omega, rfl, Lib.hid (fun j k' hj => by omega)⟩
  case round =>
    obtain ⟨i, hin, rfl, hall⟩ := hrel
    by_cases hlt2 : i < n
    · have e1 : (i : Int) < n := by omega
      obtain ⟨k, hk⟩ : ∃ k, l[i]? = some k := ⟨_, List.getElem?_eq_getElem (by rw [HN.out]; exact hlt2)⟩
      obtain ⟨c0, c1⟩ := HC.out _ HA.out i k hk
      have x0 := fun W => HI.out W i hlt2
      obtain ⟨ep, hep⟩ : ∃ ep, k.ep = ep := ⟨_, rfl⟩
      have hkm := List.mem_of_getElem? hk
      have HBK := Lib.hid ((H.out.b k hkm).below HA.out)
      obtain ⟨kv, hkv⟩ : ∃ v, k.v = v := ⟨_, rfl⟩
      rw [hep] at c0
      rw [hkv] at c1 HBK
      have HK := Lib.hid hk
      have HEP := Lib.hid hep
      clear hk hep hkv hkm
      by_cases hx : ep = x
      · have hkf := kf_yes x l i k HK.out (HEP.out.trans hx) hall.out
        have HKF := Lib.hid hkf
        have hq : (ep == x) = true := by simp [hx]
        clear hx hkf
        go_wp2
        go_ret2
        refine ⟨kv, ?_, ?_, HA.out⟩
        · rw [HKF.out]; rfl
        · rw [HKF.out]; exact HBK.out
      · have hq : (ep == x) = false := by simpa using hx
        have HX := Lib.hid hx
        clear hx
        go_wp2
        go_round
        case rel =>
          refine ⟨i + 1, by omega, by go_num, Lib.hid ?_⟩
          intro j k' hj hk'
          by_cases e : j = i
          · subst e
            rw [HK.out] at hk'
            obtain rfl := Option.some.inj hk'
            rw [HEP.out]
            exact HX.out
          · exact hall.out j k' (by omega) hk'
        case measure => simp [intOf]; omega
    · have e1 : ¬ (i : Int) < n := by omega
      obtain rfl : i = n := by omega
      have HKF : Hid (kf x l = none) := kf_no x l fun j k' hk' => hall.out j k' (by rw [← HN.out]; exact (List.getElem?_eq_some_iff.1 hk').1) hk'
      go_wp2
      go_ret2
      refine ⟨.slice none 0 0, ?_, ?_, HA.out⟩
      · rw [HKF.out]; rfl
      · rw [HKF.out]; exact Rd.nil _ 1

end Go.Proofs.YtjnbdeopoohnmaaGreatDoor
/- Layer 9 (ring): what a rotation is, plain; the step law of an append of one element. -/
namespace Go.Proofs.YtjnbdeopoohnmaaGreatDoor
open Go.RowKit Go.Sort

/-- the keys after a rotation -/
def rotl (keep : Int) (l : List RK) (k : RK) : List RK := (l ++ [k]).drop ((l.length : Int) + 1 - keep).toNat

theorem rp_d {keep : Int} {l : List RK} (h : RP keep l) : ((l.length : Int) + 1 - keep).toNat ≤ 1 := by have := h.2.2.2.1; omega
theorem rp_epl {keep : Int} {l : List RK} (h : RP keep l) : epl l = ep0 l + l.length - 1 := by
  obtain ⟨k, hk⟩ : ∃ k, l[l.length - 1]? = some k := ⟨_, List.getElem?_eq_getElem (by have := h.2.2.1; omega)⟩
  rw [epl_get l k hk, (h.2.2.2.2.2.2 _ k hk).2]
  have := h.2.2.1
  omega
theorem rp_get {keep : Int} {l : List RK} {k : RK} (h : RP keep l) (hk : k.b.length = 32) (he : k.ep = epl l + 1) :
    ∀ (i : Nat) (k' : RK), (l ++ [k])[i]? = some k' → k'.b.length = 32 ∧ k'.ep = ep0 l + i := by
  intro i k' hi
  have hp := rp_epl h
  rcases Nat.lt_or_ge i l.length with hl | hl
  · rw [List.getElem?_append_left hl] at hi
    exact h.2.2.2.2.2.2 i k' hi
  · rw [List.getElem?_append_right hl] at hi
    obtain ⟨hj, _⟩ := List.getElem?_eq_some_iff.1 hi
    simp at hj
    have : i - l.length = 0 := by omega
    rw [this] at hi
    simp at hi
    subst hi
    exact ⟨hk, by omega⟩
theorem rot_len {keep : Int} {l : List RK} {k : RK} : (rotl keep l k).length = l.length + 1 - ((l.length : Int) + 1 - keep).toNat := by
  unfold rotl
  simp
theorem rot_get {keep : Int} {l : List RK} {k : RK} (i : Nat) : (rotl keep l k)[i]? = (l ++ [k])[((l.length : Int) + 1 - keep).toNat + i]? := by
  unfold rotl
  rw [List.getElem?_drop]
theorem rot_epl {keep : Int} {l : List RK} {k : RK} (h : RP keep l) : epl (rotl keep l k) = k.ep := by
  refine epl_get _ k ?_
  have hd := rp_d h
  have hl := h.2.2.1
  rw [rot_get, rot_len, show ((l.length : Int) + 1 - keep).toNat + (l.length + 1 - ((l.length : Int) + 1 - keep).toNat - 1) = l.length by omega]
  simp
theorem rot_rp {keep : Int} {l : List RK} {k : RK} (h : RP keep l) (hk : k.b.length = 32) (he : k.ep = epl l + 1) (hm : epl l ≠ 1048576) : RP keep (rotl keep l k) := by
  have hd := rp_d h
  have hp := rp_epl h
  have hg := rp_get h hk he
  obtain ⟨h1, h2, h3, h4, h5, h6, h7⟩ := h
  have hlen := rot_len (k := k) (keep := keep) (l := l)
  obtain ⟨d, hdd⟩ : ∃ d, ((l.length : Int) + 1 - keep).toNat = d := ⟨_, rfl⟩
  have hgo : ∀ i, (rotl keep l k)[i]? = (l ++ [k])[d + i]? := fun i => by rw [rot_get, hdd]
  rw [hdd] at hd hlen
  obtain ⟨k0, hk0⟩ : ∃ k0, (rotl keep l k)[0]? = some k0 := ⟨_, List.getElem?_eq_getElem (by omega)⟩
  have he0 : ep0 (rotl keep l k) = ep0 l + d := by
    rw [ep0_get _ k0 hk0]
    rw [hgo] at hk0
    have := (hg _ k0 hk0).2
    simpa using this
  refine ⟨h1, h2, by omega, by omega, by omega, by omega, fun i k' hi => ?_⟩
  rw [hgo] at hi
  have := hg _ k' hi
  refine ⟨this.1, ?_⟩
  rw [this.2, he0]
  omega
theorem rp_kf {keep : Int} {l : List RK} (h : RP keep l) (i : Nat) (k : RK) (hk : l[i]? = some k) : kf k.ep l = some k.b := by
  refine kf_yes _ l i k hk rfl fun j k' hj hk' => ?_
  have h1 := (h.2.2.2.2.2.2 i k hk).2
  have h2 := (h.2.2.2.2.2.2 j k' hk').2
  omega

theorem two_cells (w : World) (g t : Nat) (x y a b : Value) (h : w.heap[g]? = some (.cells #[x, y] t (0, 0))) :
    (w.setCell ⟨g, 0, none⟩ a).setCell ⟨g, 1, none⟩ b = w.setRow g #[a, b] := by
  have h1 := setCell_eq_setRow w g 0 #[x, y] t _ a h
  rw [h1, setCell_eq_setRow (w.setRow g (#[x, y].setIfInBounds 0 a)) g 1 (#[x, y].setIfInBounds 0 a) t _ b (setRow_heap w g _ _ t _ h), setRow_setRow]
  rfl
theorem Ob.ne_gw {α : Type} {s : Nat} {cs : α → List Value} {w : World} {B B' e e' : Nat} {v v' : Value} {l : List UInt8} {m : List α} (h : Ob w B e v l) (hg : Gw s cs w B' e' v' m) (hne : e ≠ e') : ∀ k, v.ownBlock = some k → ¬ v'.ownBlock = some k := by
  rcases h.2 with ⟨rfl, _⟩ | ⟨g, cap, cur, rfl, _, hc, _⟩
  · intro k hk; simp [Value.ownBlock] at hk
  · intro k hk
    simp only [Value.ownBlock, Option.some.injEq] at hk
    subst hk
    rcases hg.2 with ⟨rfl, _⟩ | ⟨g', cap', cur', rfl, _, hc', _⟩
    · simp [Value.ownBlock]
    · simp only [Value.ownBlock, Option.some.injEq]
      rintro rfl
      rw [hc] at hc'
      simp at hc'
      exact hne hc'.2

section
variable {α : Type} {s : Nat} {cs : α → List Value} {P : Program} {t e : TypeId} {z : Value} {bytes : Nat} {w : World} {base : Nat} {v : Value} {l : List α}
variable {ops : Array Oper} {rest : List Oper} {o : Oper} {a : Act} {Q : Exit → Act → World → Prop}
/-- 'append(s, x)', x boxed just ahead of it, in a region that draws its order -/
theorem step_append_g1 {K : Act → World → Prop} {F : Prop} (L : Lay s cs) (hown : Gw s cs w base e v l) (x : α) (E : ElTy P t e z s bytes) (h63 : (l.length + 1) * bytes ≤ 140737488355328) (hmx : l.length < 9223372036854775807) (hbase : base ≤ w.heap.size) (g : Nat) (hg : g = w.heap.size)
    (ucs : Array Value) (hu : ucs.toList = cs x)
    (h : ∀ v' w', Gw s cs w' base e v' (l ++ [x]) → (w.alloc (.cells ucs e)).grownBy w' v.ownBlock → Below base w w' → K (a.put o.dst v') w')
    (so xo : Operand) (hgd : o.guard = none) (ho : o.op = .call { callee := .builtin .append, args := #[so, xo], argTypes := #[t, t] })
    (hs : a.eval so = v) (hx : a.eval xo = .slice (some ⟨g, 0, none⟩) 1 1) : if Region.wanted o (yielded ops a.tmps) = true then Oper.wp P o a (w.alloc (.cells ucs e)) K Q else F := by
  subst hg
  have hw : Region.wanted o (yielded ops a.tmps) = true := by simp [Region.wanted, hgd]
  have hba : Below w.heap.size w (w.alloc (.cells ucs e)) := (Below.refl _ _).alloc (Nat.le_refl _) _
  have hlit : Gs s cs (w.alloc (.cells ucs e)) (.slice (some ⟨w.heap.size, 0, none⟩) 1 1) [x] := (gw_lit L w e ucs [x] 1 rfl (by decide) (by rw [hu]; simp [gcells])).gs
  have hown' := hown.below hba
  rw [if_pos hw]
  refine wp_append_mv so xo t ho E base v l.length (gcells cs l) _ 1 (gcells cs [x]) hs hown' hx hlit (gcells_one L _) (show l.length + 1 ≤ maxLen by unfold maxLen; omega) h63 (by have := hba.size; omega) ?_
  intro v' w' h1 h2 h3
  refine h v' w' ?_ h2 ((hba.mono hbase).trans ((Below.refl _ _).grown h2 (by have := hba.size; omega) fun k hk => (World.ownsRow.lt hown' k hk).1))
  unfold Gw
  rw [gcells_append, List.length_append]
  exact h1
theorem step_store_row {K : Act → World → Prop} {F : Prop} {ty tt g : TypeId} {Z ds : Array Value} (hgd : o.guard = none) (x y : Operand)
    (ho : o.op = .store ty x y) (hx : a.eval x = .pointer (some ⟨g, 0, none⟩)) (hy : a.eval y = .agg ds) (hg : w.heap[g]? = some (.cells Z tt (0, 0)))
    (hs : (P.info? ty).map (·.size) = some ds.size) (hz : Z.size = ds.size) (h1 : ∀ v ∈ ds.toList, v.oneCell' = true)
    (h : K (a.put o.dst undef) (w.setRow g ds)) : if Region.wanted o (yielded ops a.tmps) = true then Oper.wp P o a w K Q else F := by
  rw [if_pos (by simp [Region.wanted, hgd])]
  have hr := run_storeVar_row (P := P) w tt ty g Z ds hg hs hz h1
  unfold Oper.wp execOp
  simp only [ho, hx, hy, Instr.storeAt, Instr.sureAddr, Sem.run_bind, Sem.run_pure, Result.andThen_ok, hr]
  exact h
/-- the same in a plain region -/
theorem wpList_append_g1_mv (L : Lay s cs) (hown : Gw s cs w base e v l) (x : α) (E : ElTy P t e z s bytes) (h63 : (l.length + 1) * bytes ≤ 140737488355328) (hmx : l.length < 9223372036854775807) (hbase : base ≤ w.heap.size) (g : Nat) (hg : g = w.heap.size)
    (ucs : Array Value) (hu : ucs.toList = cs x)
    (h : ∀ v' w', Gw s cs w' base e v' (l ++ [x]) → (w.alloc (.cells ucs e)).grownBy w' v.ownBlock → Below base w w' → wpList P ops Q rest (a.put o.dst v') w')
    (so xo : Operand) (hgd : o.guard = none) (ho : o.op = .call { callee := .builtin .append, args := #[so, xo], argTypes := #[t, t] })
    (hs : a.eval so = v) (hx : a.eval xo = .slice (some ⟨g, 0, none⟩) 1 1) : wpList P ops Q (o :: rest) a (w.alloc (.cells ucs e)) := by
  subst hg
  have hba : Below w.heap.size w (w.alloc (.cells ucs e)) := (Below.refl _ _).alloc (Nat.le_refl _) _
  have hlit : Gs s cs (w.alloc (.cells ucs e)) (.slice (some ⟨w.heap.size, 0, none⟩) 1 1) [x] := (gw_lit L w e ucs [x] 1 rfl (by decide) (by rw [hu]; simp [gcells])).gs
  refine wpList_append_gs L (hown.below hba) hlit E (by simpa using h63) (by simp; omega) (by have := hba.size; omega) ?_ so xo hgd ho hs hx
  intro v' w' h1 h3 h2 _
  exact h v' w' h1 h3 ((hba.mono hbase).trans h2)
end

section
variable {α : Type} {s : Nat} {cs : α → List Value} {P : Program} {t e : TypeId} {z : Value} {bytes : Nat} {w : World} {a : Option Addr} {n c : Nat} {l : List α}
/-- less room -/
theorem Gs.cap (h : Gs s cs w (.slice a n c) l) (m : Nat) (h1 : n ≤ m) (h2 : m ≤ c) : Gs s cs w (.slice a n m) l := by
  obtain ⟨h0, a', c', he, h3, h4, h5, h6⟩ := h
  simp only [Value.slice.injEq] at he
  obtain ⟨rfl, rfl, rfl⟩ := he
  exact ⟨h0, a, m, rfl, h1, by omega, fun e => by have := h5 e; omega, h6⟩
theorem Gs.piece3 (L : Lay s cs) (E : ElTy P t e z s bytes) (h : Gs s cs w (.slice a n c) l) (lo hi m : Nat) (h1 : lo ≤ hi) (h2 : hi ≤ n) (h3 : n ≤ m) (h4 : m ≤ c) :
    ∃ Y, (∀ W : World, (Instr.sliceAt t (.slice a n c) (some (.int .i64 (lo : Int))) (some (.int .i64 (hi : Int))) (some (.int .i64 (m : Int)))).run P W = .ok Y W) ∧ Gs s cs w Y ((l.drop lo).take (hi - lo)) ∧ (∀ k, Y.ownBlock = some k → (Value.slice a n c).ownBlock = some k) := by
  have hT := E.1
  have hel : P.elem t = e := by simp [Program.elem, hT]
  have hs := E.sizeOf
  obtain ⟨hn, hc, _⟩ := h.len_eq
  refine ⟨_, fun W => ?_, (h.cap m h3 h4).cut L lo hi h1 (by omega), fun k hk => ?_⟩
  rotate_left 1
  · cases a with
    | none => simp [Value.ownBlock] at hk
    | some ad =>
      obtain ⟨ab, ao, ap⟩ := ad
      cases ap <;> split at hk <;> simp_all [Value.ownBlock, Addr.add] <;> split at hk <;> simpa using hk
  rw [run_sliceAt_slice (h := by rw [hel]; exact hT), run_slice_lhm (ht := by rw [hel]; exact hT) (h0 := by omega) (h1 := by omega) (h2 := by omega) (h3 := by omega), hel, hs]
  simp [Result.andThen, sliced]
end

end Go.Proofs.YtjnbdeopoohnmaaGreatDoor
