/- Walks of the statement FieldWrites. -/
import Derived.Test.YtkgfcaoeldfbdaaFbase
import Derived.Test.YtkgfcaoeldfbdaaRfield
namespace Go.Proofs.Ytkgfcaoeldfbdaa
open Go.RowKit

/-- a writer and a list of bytes beside it -/
structure Two (w : World) (B g : Nat) (v u : Value) (l1 l2 : List UInt8) : Prop where
  wr : Wr w B g v l1
  ob : Ob w B 5 u l2
  apart : ∀ k, u.ownBlock = some k → ¬ wrF g v k

theorem Two.below {w w' : World} {B g : Nat} {v u : Value} {l1 l2 : List UInt8} (h : Two w B g v u l1 l2) (hb : Below w.heap.size w w') : Two w' B g v u l1 l2 := ⟨h.wr.below hb, h.ob.below hb, h.apart⟩
theorem Two.wrote {w w' : World} {B g : Nat} {v v' u : Value} {l1 l2 m : List UInt8} (h : Two w B g v u l1 l2) (k : Wrote w B g v l1 m v' w') : Two w' B g v' u (l1 ++ m) l2 :=
  ⟨k.wr, h.ob.only k.only h.apart, fun j hj hf => (k.foot j hf).elim (h.apart j hj) fun hs => by have := (h.ob.lt j hj).2; omega⟩
theorem Two.appended {w w' : World} {B g : Nat} {v u u' : Value} {l1 l2 m : List UInt8} (h : Two w B g v u l1 l2) (ho : Ob w' B 5 u' (l2 ++ m)) (hg : w.grownBy w' u.ownBlock) (hm : u'.ownBlock = u.ownBlock ∨ u'.ownBlock = some w.heap.size) : Two w' B g v u' l1 (l2 ++ m) := by
  refine ⟨h.wr.only (grown_only hg) fun k hk hu => h.apart k hu hk, ho, fun k hk hf => ?_⟩
  rcases hm with e | e
  · exact h.apart k (e ▸ hk) hf
  · rw [e] at hk
    cases hk
    have := (h.wr.foot _ hf).2
    omega

theorem Two.bel {w w' : World} {B g : Nat} {v u : Value} {l1 l2 : List UInt8} (h : Two w B g v u l1 l2) (hg : w.grownBy w' u.ownBlock) (hB : B ≤ w.heap.size) : Below B w w' :=
  (grown_only hg).below (fun i hi => (h.ob.lt i hi).1) hB

set_option maxRecDepth 100000 in
theorem awake3 (w : World) : Calls Try.prog 38 #[] w fun e w' => e = .returned (.bool true) ∧ Below w.heap.size w w' := by
  have hwr : Wr (w.alloc (.cells #[.slice none 0 0] 94)) w.heap.size w.heap.size (.slice none 0 0) [] := ⟨Nat.le_refl _, heap_alloc_new w _, Ob.nil _ _ _⟩
  have hv : vput (vturn (-2)).toNat = [3] := by rw [show (vturn (-2)).toNat = 3 from rfl, vput_small (by omega)]; rfl
  have hs := wSigned_any (-2) (by omega) (by omega) _ _ _ _ _ hwr (by simp) (by simp)
  rw [hv] at hs
  have HS := Lib.hid hs
  clear hs hv hwr
  go_enter Try.func38, Try.ntmps38
  go_wp2_with fail
  refine HS.out.mono ?_
  rintro e w1 ⟨rfl, v1, hw1⟩
  have HW1 := Lib.hid hw1
  clear hw1
  go_wp2_with fail
  refine (wOut_any _ v1 _ _ w1 HW1.out.wr (by simp)).mono ?_
  rintro e w2 ⟨v2, rfl, ho2, hb2⟩
  obtain ⟨a, ca, adr, hv2, h1, h2, h3, h4, h5⟩ := Bs.open_n elB ho2.bs 1 rfl
  subst hv2
  have c0 : w2.cell? (adr 0) = some (.int .u8 3) := h5 0 3 rfl
  clear h4 h5 ho2
  go_wp2
  go_ret
  have hbl : Below w.heap.size w (w.alloc (.cells #[.slice none 0 0] 94)) := (Below.refl _ _).alloc (Nat.le_refl _) _
  have hb1 : Below w.heap.size w w1 := hbl.trans (HW1.out.only.below (fun k hk => by rcases hk with rfl | hk; exact Nat.le_refl _; simp [Value.ownBlock] at hk) (by simp))
  exact ⟨rfl, hb1.trans (hb2.mono hb1.size)⟩

def SmallPost (l : List Fld) (w : World) (e : Ending) (w' : World) : Prop := ∃ b, e = .returned (.bool b) ∧ (b = true → (∀ s ∈ l, s.b.length ≤ 300) ∧ l.length ≤ 50) ∧ Below w.heap.size w w'

set_option maxHeartbeats 800000 in
theorem small_any (va : Value) (l : List Fld) (w : World) (ha : Fs w va l) : Calls Try.prog 39 #[va] w (SmallPost l w) := by
  obtain ⟨n, hn⟩ : ∃ n, l.length = n := ⟨_, rfl⟩
  obtain ⟨a, ca, b1, o1, rfl, ha1, ha2, ha3, ha4, ha5⟩ := Fs.open_n ha n hn
  have HA := Lib.hid ha.2
  clear ha
  have HN := Lib.hid hn
  clear hn
  go_enter Try.func39, Try.ntmps39
  go_wp2
  go_loopw [7] (fun i wr => ∃ k : Nat, k ≤ n ∧ i = .int .i64 k ∧ Below w.heap.size w wr ∧ Hid (∀ (i : Nat) (s : Fld), i < k → l[i]? = some s → s.b.length ≤ 300)) (fun i _ => n - (intOf i).toNat)
  case atStart => exact ⟨0, by omega, rfl, Below.refl _ _, fun i s hi => by omega⟩
  case round =>
    obtain ⟨k, hk, rfl, hw, hS⟩ := hrel
    have hsz := hw.size
    by_cases hlt : k < n
    · obtain ⟨s, hs⟩ : ∃ s, l[k]? = some s := ⟨_, List.getElem?_eq_getElem (by have := HN.out; omega)⟩
      obtain ⟨p0, p1, p2, p3⟩ := ha5 k s hs
      rw [← hw.cell (by exact ha4 k hlt)] at p0 p1 p2 p3
      obtain ⟨av, cv, hv⟩ := (HA.out k s hs).1.shape
      rw [hv] at p3
      have HSS := Lib.hid hs
      clear hs ha4 ha5 hv
      have hbl : Below wr.heap.size wr (wr.alloc (.cells #[.int .i64 s.k, .int .i64 s.n, .int .i64 s.m, .slice av s.b.length cv] 66)) := (Below.refl _ _).alloc (Nat.le_refl _) _
      by_cases h3 : s.b.length ≤ 300
      · go_wp2
        go_roundw
        case rel =>
          refine ⟨k + 1, by omega, by go_num, hw.trans (hbl.mono hsz), fun i s' hi hs' => ?_⟩
          by_cases hik : i = k
          · subst hik
            have e := HSS.out
            rw [e] at hs'
            cases hs'
            exact h3
          · exact hS.out i s' (by omega) hs'
        case measure => simp [intOf]; omega
      · have h3' : (300 : Int) < s.b.length := by omega
        go_wp2
        go_ret
        exact ⟨false, rfl, (fun h => by cases h), hw.trans (hbl.mono hsz)⟩
    · go_wp2
      go_ret
      refine ⟨_, rfl, fun h => ?_, hw⟩
      refine ⟨fun s hs => ?_, ?_⟩
      · obtain ⟨i, hi, rfl⟩ := List.getElem_of_mem hs
        exact hS.out i _ (by have := HN.out; omega) (List.getElem?_eq_getElem hi)
      · have := HN.out
        simp at h
        omega

end Go.Proofs.Ytkgfcaoeldfbdaa
