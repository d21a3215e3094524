/- Walks of the writer of layer 3 (field). -/
import Derived.Test.YtjnbdeopoohnmaaGreatDoorBase
import Derived.Test.YtjnbdeopoohnmaaGreatDoorVarint
import Derived.Test.YtjnbdeopoohnmaaGreatDoorVBspec
namespace Go.Proofs.YtjnbdeopoohnmaaGreatDoor
open Go.RowKit

/-- block g is a writer that holds the slice v, which holds l -/
structure Wr (w : World) (B g : Nat) (v : Value) (l : List UInt8) : Prop where
  low : B ≤ g
  cell : w.heap[g]? = some (.cells #[v] 93 (0, 0))
  own : Ob w B 5 v l

def wrF (g : Nat) (v : Value) (k : Nat) : Prop := k = g ∨ v.ownBlock = some k

theorem Wr.lt {w : World} {B g : Nat} {v : Value} {l : List UInt8} (h : Wr w B g v l) : g < w.heap.size := (Array.getElem?_eq_some_iff.1 h.cell).1
theorem Wr.foot {w : World} {B g : Nat} {v : Value} {l : List UInt8} (h : Wr w B g v l) : ∀ k, wrF g v k → B ≤ k ∧ k < w.heap.size := by
  rintro k (rfl | hk)
  · exact ⟨h.low, h.lt⟩
  · exact h.own.lt k hk
theorem Wr.only {w w' : World} {B g : Nat} {v : Value} {l : List UInt8} {F : Nat → Prop} (h : Wr w B g v l) (ho : Only F w w') (hd : ∀ k, wrF g v k → ¬ F k) : Wr w' B g v l :=
  ⟨h.low, by rw [ho.block g h.lt (hd g (.inl rfl))]; exact h.cell, h.own.only ho fun k hk => hd k (.inr hk)⟩
theorem Wr.below {w w' : World} {B g : Nat} {v : Value} {l : List UInt8} (h : Wr w B g v l) (hb : Below w.heap.size w w') : Wr w' B g v l :=
  h.only (F := fun _ => False) (.of_below hb) fun _ _ h => h

/-- what was written -/
structure Wrote (w : World) (B g : Nat) (v : Value) (l m : List UInt8) (v' : Value) (w' : World) : Prop where
  wr : Wr w' B g v' (l ++ m)
  only : Only (wrF g v) w w'
  moved : v'.ownBlock = v.ownBlock ∨ ∀ k, v'.ownBlock = some k → w.heap.size ≤ k

def WrotePost (w : World) (B g : Nat) (v : Value) (l m : List UInt8) (e : Ending) (w' : World) : Prop := e = .returned (.tuple #[]) ∧ ∃ v', Wrote w B g v l m v' w'

theorem Wrote.foot {w w' : World} {B g : Nat} {v v' : Value} {l m : List UInt8} (h : Wrote w B g v l m v' w') : ∀ k, wrF g v' k → wrF g v k ∨ w.heap.size ≤ k := by
  rintro k (rfl | hk)
  · exact .inl (.inl rfl)
  · rcases h.moved with h | h
    · exact .inl (.inr (h ▸ hk))
    · exact .inr (h k hk)

/-- writing behind a step that has made blocks alone -/
theorem Wrote.behind {w w1 w' : World} {B g : Nat} {v v' : Value} {l m : List UInt8} (hb : Below w.heap.size w w1) (h : Wrote w1 B g v l m v' w') : Wrote w B g v l m v' w' :=
  ⟨h.wr, (Only.of_below hb).trans h.only, h.moved.imp id fun h k hk => Nat.le_trans hb.size (h k hk)⟩

theorem Wrote.trans {w w1 w' : World} {B g : Nat} {v v1 v' : Value} {l m n : List UInt8} (h : Wrote w B g v l m v1 w1) (k : Wrote w1 B g v1 (l ++ m) n v' w') : Wrote w B g v l (m ++ n) v' w' := by
  refine ⟨by have := k.wr; rwa [List.append_assoc] at this, h.only.trans' k.only h.foot, ?_⟩
  rcases k.moved with e | e
  · rcases h.moved with e' | e'
    · exact .inl (e.trans e')
    · exact .inr fun j hj => e' j (e ▸ hj)
  · exact .inr fun j hj => Nat.le_trans h.only.size (e j hj)

set_option maxHeartbeats 400000 in
theorem wput_any (g : Nat) (v y : Value) (l m : List UInt8) (B : Nat) (w : World) (h : Wr w B g v l) (hy : Bs w y m) (hB : B ≤ w.heap.size) (hlen : l.length + m.length ≤ 140737488355328) :
    Calls Tryz.prog 81 #[.pointer (some ⟨g, 0, none⟩), y] w (WrotePost w B g v l m) := by
  obtain ⟨a, c, hv⟩ := h.own.shape
  have hg := h.lt
  have hcell : w.cell? ⟨g, 0, none⟩ = some v := by rw [cell_of_row w g 0 _ _ _ h.cell]; rfl
  have hne : v.ownBlock ≠ some g := h.own.ne h.cell (by decide)
  have ho := h.own
  have H := Lib.hid h
  clear h
  subst hv
  go_enter Tryz.func81, Tryz.ntmps81
  go_wp2_with (at_builtin; go_must (refine wpList_append_bytes_mv ho hy elB (by omega) (by omega) hB ?_ _ _ rfl rfl rfl rfl); intro v3 w3 ho3 hg3 hm3; obtain ⟨a3, c3, hv3⟩ := ho3.shape; subst hv3; have hc3 := (hg3.block g hg (Ne.symm hne)).trans H.out.cell; have hd3 := cell_of_one hc3; have hf3 := free_of_one hc3; have HC3 := Lib.hid hc3; clear hc3)
  go_end0
  rw [show l.length + m.length = (l ++ m).length by simp]
  have hone := one_setCell (u := Value.slice a3 (l ++ m).length c3) HC3.out
  refine ⟨rfl, Value.slice a3 (l ++ m).length c3, ⟨⟨H.out.low, hone, ?_⟩, ?_, ?_⟩⟩
  · exact ownsRow_setCell_other ho3 (ho3.ne HC3.out (by decide)) _
  · exact ((grown_only hg3).mono (G := wrF g (.slice a l.length c)) fun k _ hk => .inr hk).trans' (setCell_only _ _ _) fun i hi => .inl (.inl hi)
  · rcases hm3 with h | h
    · exact .inl h
    · right
      intro k hk
      rw [h] at hk
      cases hk
      exact Nat.le_refl _


theorem wput_nil (y : Value) (w : World) : Calls Tryz.prog 81 #[.pointer none, y] w fun e w' => e = .returned (.tuple #[]) ∧ Below w.heap.size w w' := by
  go_enter Tryz.func81, Tryz.ntmps81
  go_wp2
  go_end0
  exact ⟨rfl, Below.refl _ _⟩

theorem wNumber_any (n : Int) (h1 : -9223372036854775808 ≤ n) (h2 : n ≤ 9223372036854775807) (g : Nat) (v : Value) (l : List UInt8) (B : Nat) (w : World) (hwr : Wr w B g v l) (hB : B ≤ w.heap.size) (hlen : l.length ≤ 70368744177664) :
    Calls Tryz.prog 46 #[.pointer (some ⟨g, 0, none⟩), .int .i64 n] w (WrotePost w B g v l (vput n.toNat)) := by
  have hpn := vput_len10 n.toNat (by omega)
  go_enter Tryz.func46, Tryz.ntmps46
  go_wp2_with fail
  · have e0 : n.toNat = (0 : Int).toNat := by omega
    rw [e0] at hpn
    refine (put_int 0 (by omega) (by omega) _).mono ?_
    rintro e w2 ⟨v2, rfl, ho2, hb2⟩
    go_wp2_with fail
    refine (wput_any g v v2 l _ B w2 (hwr.below hb2) ho2.bs (by have := hb2.size; omega) (by omega)).mono ?_
    rintro e w3 ⟨rfl, v3, hw⟩
    have HW := Lib.hid hw
    clear hw
    go_wp2
    go_end0
    refine ⟨rfl, v3, ?_⟩
    rw [e0]
    exact Wrote.behind hb2 HW.out
  · refine (put_int n (by omega) (by omega) _).mono ?_
    rintro e w2 ⟨v2, rfl, ho2, hb2⟩
    go_wp2_with fail
    refine (wput_any g v v2 l _ B w2 (hwr.below hb2) ho2.bs (by have := hb2.size; omega) (by omega)).mono ?_
    rintro e w3 ⟨rfl, v3, hw⟩
    have HW := Lib.hid hw
    clear hw
    go_wp2
    go_end0
    exact ⟨rfl, v3, Wrote.behind hb2 HW.out⟩

theorem wSigned_any (n : Int) (h1 : -9223372036854775808 ≤ n) (h2 : n ≤ 9223372036854775807) (g : Nat) (v : Value) (l : List UInt8) (B : Nat) (w : World) (hwr : Wr w B g v l) (hB : B ≤ w.heap.size) (hlen : l.length ≤ 70368744177664) :
    Calls Tryz.prog 99 #[.pointer (some ⟨g, 0, none⟩), .int .i64 n] w (WrotePost w B g v l (vput (vturn n).toNat)) := by
  have hr := vturn_range n h1 h2
  have hpn := vput_len10 (vturn n).toNat (by omega)
  go_enter Tryz.func99, Tryz.ntmps99
  go_wp2_with fail
  refine (turn_any n h1 h2 _).mono ?_
  rintro e w1 ⟨rfl, rfl⟩
  go_wp2_with fail
  refine (put_int _ hr.1 hr.2 _).mono ?_
  rintro e w2 ⟨v2, rfl, ho2, hb2⟩
  go_wp2_with fail
  refine (wput_any g v v2 l _ B w2 (hwr.below hb2) ho2.bs (by have := hb2.size; omega) (by omega)).mono ?_
  rintro e w3 ⟨rfl, v3, hw⟩
  have HW := Lib.hid hw
  clear hw
  go_wp2
  go_end0
  exact ⟨rfl, v3, Wrote.behind hb2 HW.out⟩

theorem wBytes_any (y : Value) (m : List UInt8) (g : Nat) (v : Value) (l : List UInt8) (B : Nat) (w : World) (hwr : Wr w B g v l) (hy : Bs w y m) (hd : m ≠ [] → ∀ k, y.ownBlock = some k → ¬ wrF g v k) (hB : B ≤ w.heap.size) (hlen : l.length ≤ 35184372088832) (hm : m.length ≤ 35184372088832) :
    Calls Tryz.prog 71 #[.pointer (some ⟨g, 0, none⟩), y] w (WrotePost w B g v l (vput m.length ++ m)) := by
  obtain ⟨a, c, rfl⟩ := hy.shape
  have hpn := vput_len10 m.length (by omega)
  go_enter Tryz.func71, Tryz.ntmps71
  go_wp2_with fail
  refine (wNumber_any _ (by omega) (by omega) g v l B _ hwr hB (by omega)).mono ?_
  rintro e w1 ⟨rfl, v1, hw1⟩
  have HW1 := Lib.hid hw1
  clear hw1
  go_wp2_with fail
  have hs := HW1.out.only.size
  rw [show ((m.length : Int)).toNat = m.length by omega] at HW1
  refine (wput_any g v1 _ (l ++ vput m.length) m B w1 HW1.out.wr (hy.only' HW1.out.only hd) (by omega) (by simp; omega)).mono ?_
  rintro e w3 ⟨rfl, v3, hw⟩
  have HW := Lib.hid hw
  clear hw
  go_wp2
  go_end0
  exact ⟨rfl, v3, HW1.out.trans HW.out⟩

set_option maxRecDepth 100000 in
theorem clone_any (y : Value) (m : List UInt8) (w : World) (hy : Bs w y m) (hm : m.length ≤ 140737488355328) :
    Calls Tryz.prog 27 #[y] w fun e w' => ∃ v, e = .returned v ∧ Ob w' w.heap.size 5 v m ∧ Below w.heap.size w w' := by
  obtain ⟨a, c, hs⟩ := hy.shape
  subst hs
  cases a with
  | none =>
    have hm0 : m = [] ∧ c = 0 := by
      obtain ⟨_, a', c', he, h2, h3, h4, h5⟩ := hy
      simp only [Value.slice.injEq] at he
      obtain ⟨rfl, _, rfl⟩ := he
      have := h4 rfl
      exact ⟨List.eq_nil_of_length_eq_zero (by omega), this⟩
    obtain ⟨rfl, rfl⟩ := hm0
    have hq := fun W => Lib.run_eql_slice_nil (P := Tryz.prog) W 25 5 none 0 0 0 0 Tryz.underlying25
    rw [show (([] : List UInt8).length) = 0 from rfl]
    go_enter Tryz.func27, Tryz.ntmps27
    go_wp2
    go_ret
    exact ⟨_, rfl, Ob.nil _ _ _, Below.refl _ _⟩
  | some ad =>
    have hq := fun W => Lib.run_eql_slice_nil (P := Tryz.prog) W 25 5 (some ad) m.length c 0 0 Tryz.underlying25
    go_enter Tryz.func27, Tryz.ntmps27
    go_wp2_with (at_builtin; go_must (refine wpList_append_bytes (ob_made w _) (hy.alloc _) elB (by simp; omega) (by simp; omega) (by simp) ?_ _ _ rfl rfl rfl rfl); intro v3 w3 ho3 hg3 hb3 _)
    go_ret
    refine ⟨_, rfl, ?_, ((Below.refl _ _).alloc (Nat.le_refl _) _).trans hb3⟩
    simpa using ho3

theorem wOut_any (g : Nat) (v : Value) (l : List UInt8) (B : Nat) (w : World) (hwr : Wr w B g v l) (hlen : l.length ≤ 140737488355328) :
    Calls Tryz.prog 47 #[.pointer (some ⟨g, 0, none⟩)] w fun e w' => ∃ v2, e = .returned v2 ∧ Ob w' w.heap.size 5 v2 l ∧ Below w.heap.size w w' := by
  have hcell : w.cell? ⟨g, 0, none⟩ = some v := cell_of_one hwr.cell
  have hb := hwr.own.bs
  obtain ⟨a, c, hv⟩ := hb.shape
  subst hv
  clear hwr
  go_enter Tryz.func47, Tryz.ntmps47
  go_wp2_with fail
  refine (clone_any _ l w hb hlen).mono ?_
  rintro e w1 ⟨v2, rfl, ho2, hb2⟩
  go_wp2
  go_ret
  exact ⟨_, rfl, ho2, hb2⟩

theorem wOut_nil (w : World) : Calls Tryz.prog 47 #[.pointer none] w fun e w' => e = .returned (.slice none 0 0) ∧ Below w.heap.size w w' := by
  go_enter Tryz.func47, Tryz.ntmps47
  go_wp2
  go_ret
  exact ⟨rfl, Below.refl _ _⟩

theorem Wrote.bel {w w' : World} {B g : Nat} {v v' : Value} {l m : List UInt8} (k : Wrote w B g v l m v' w') (h : Wr w B g v l) (hB : B ≤ w.heap.size) : Below B w w' :=
  k.only.below (fun i hi => (h.foot i hi).1) hB

theorem wNumber_nil (n : Int) (h1 : -9223372036854775808 ≤ n) (h2 : n ≤ 9223372036854775807) (w : World) :
    Calls Tryz.prog 46 #[.pointer none, .int .i64 n] w fun e w' => e = .returned (.tuple #[]) ∧ Below w.heap.size w w' := by
  go_enter Tryz.func46, Tryz.ntmps46
  go_wp2_with fail
  all_goals
    refine (put_int _ (by omega) (by omega) _).mono ?_
    rintro e w2 ⟨v2, rfl, ho2, hb2⟩
    go_wp2_with fail
    refine (wput_nil v2 _).mono ?_
    rintro e w3 ⟨rfl, hb3⟩
    go_wp2
    go_end0
    exact ⟨rfl, hb2.trans (hb3.mono hb2.size)⟩

theorem wBytes_nil (y : Value) (m : List UInt8) (w : World) (hy : Bs w y m) (hm : m.length ≤ 35184372088832) :
    Calls Tryz.prog 71 #[.pointer none, y] w fun e w' => e = .returned (.tuple #[]) ∧ Below w.heap.size w w' := by
  obtain ⟨a, c, rfl⟩ := hy.shape
  go_enter Tryz.func71, Tryz.ntmps71
  go_wp2_with fail
  refine (wNumber_nil _ (by omega) (by omega) _).mono ?_
  rintro e w1 ⟨rfl, hb1⟩
  go_wp2_with fail
  refine (wput_nil _ _).mono ?_
  rintro e w2 ⟨rfl, hb2⟩
  go_wp2
  go_end0
  exact ⟨rfl, hb1.trans (hb2.mono hb1.size)⟩

end Go.Proofs.YtjnbdeopoohnmaaGreatDoor
