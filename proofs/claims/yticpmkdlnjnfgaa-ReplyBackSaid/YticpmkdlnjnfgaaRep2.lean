/- Replies (layer 39): the walk of the reading. -/
import Derived.Test.YticpmkdlnjnfgaaRep1
import Derived.Test.YticpmkdlnjnfgaaReader3
set_option linter.unusedSimpArgs false
namespace Go.Proofs.Yticpmkdlnjnfgaa
open Go.RowKit Go.Sort

def rread (l : List UInt8) : Rep × Nat × Nat :=
  let a := rnum 99 l 0 0
  let b := rsig 281474976710656 l a.2.1 a.2.2
  let c := rsig 281474976710656 l b.2.1 b.2.2
  let d := rbytes 1048576 l c.2.1 c.2.2
  (⟨a.1, vback b.1, vback c.1, d.1⟩, d.2.1, d.2.2)

theorem rread_eq {l t : List UInt8} {n1 p1 b1 n2 p2 b2 n3 p3 b3 p4 b4 : Nat} (h1 : rnum 99 l 0 0 = (n1, p1, b1)) (h2 : rsig 281474976710656 l p1 b1 = (n2, p2, b2)) (h3 : rsig 281474976710656 l p2 b2 = (n3, p3, b3)) (h4 : rbytes 1048576 l p3 b3 = (t, p4, b4)) :
    rread l = (⟨n1, vback n2, vback n3, t⟩, p4, b4) := by
  unfold rread
  simp only [h1, h2, h3, h4]

def repZero : Rep := ⟨0, 0, 0, []⟩
def rtakeRep (b : List UInt8) : Rep × Nat :=
  if (fwhole 6 b).2 ≠ 0 then (repZero, (fwhole 6 b).2)
  else if rdone (fwhole 6 b).1 (rread (fwhole 6 b).1).2.1 (rread (fwhole 6 b).1).2.2 ≠ 0 then (repZero, rdone (fwhole 6 b).1 (rread (fwhole 6 b).1).2.1 (rread (fwhole 6 b).1).2.2)
  else if repOk (rread (fwhole 6 b).1).1 = false then (repZero, 2)
  else ((rread (fwhole 6 b).1).1, 0)

theorem rtakeRep_eq {b c : List UInt8} {f p q : Nat} {r : Rep} (h1 : fwhole 6 b = (c, f)) (h2 : rread c = (r, p, q)) :
    rtakeRep b = if f ≠ 0 then (repZero, f) else if rdone c p q ≠ 0 then (repZero, rdone c p q) else if repOk r = false then (repZero, 2) else (r, 0) := by
  unfold rtakeRep
  simp only [h1, h2]

def RepTakePost (b : List UInt8) (w : World) (e : Ending) (w' : World) : Prop :=
  ∃ v, e = .returned (.tuple #[(rtakeRep b).1.agg v, .int .i64 ((rtakeRep b).2 : Int)]) ∧ Bs w' v (rtakeRep b).1.t ∧ Below w.heap.size w w'

def EyePost (g : Nat) (y : Value) (l : List UInt8) (r : Rep) (p q : Nat) (w : World) (e : Ending) (w' : World) : Prop :=
  ∃ v, e = .returned (r.agg v) ∧ Bs w' v r.t ∧ (r.t ≠ [] → ∀ k, v.ownBlock = some k → w.heap.size ≤ k) ∧ Rdr w' g y l p q ∧ Only (fun k => k = g) w w'

theorem row4_set {W : World} {B t : Nat} {x0 x1 x2 x3 : Value} (v0 v1 v2 v3 : Value) (h : W.heap[B]? = some (.cells #[x0, x1, x2, x3] t (0, 0))) :
    ((((W.setCell ⟨B, 0, none⟩ v0).setCell ⟨B, 1, none⟩ v1).setCell ⟨B, 2, none⟩ v2).setCell ⟨B, 3, none⟩ v3).heap[B]? = some (.cells #[v0, v1, v2, v3] t (0, 0)) ∧
    Only (fun k => k = B) W ((((W.setCell ⟨B, 0, none⟩ v0).setCell ⟨B, 1, none⟩ v1).setCell ⟨B, 2, none⟩ v2).setCell ⟨B, 3, none⟩ v3) := by
  have h1 := row_setCell h 0 v0
  have h2 := row_setCell h1 1 v1
  have h3 := row_setCell h2 2 v2
  have h4 := row_setCell h3 3 v3
  exact ⟨h4, (((set_only _ _ _ _).trans (set_only _ _ _ _)).trans (set_only _ _ _ _)).trans (set_only _ _ _ _)⟩

set_option maxRecDepth 100000 in
set_option maxHeartbeats 16000000 in
theorem eye_any (g : Nat) (y : Value) (l : List UInt8) (r : Rep) (p q : Nat) (w : World) (h : Rdr w g y l 0 0) (hlen : l.length ≤ 140737488355328) (hr : rread l = (r, p, q)) :
    Calls Try.prog 86 #[.agg #[.pointer (some ⟨g, 0, none⟩)]] w (EyePost g y l r p q w) := by
  obtain ⟨n1, p1, b1, hv1⟩ : ∃ n p b, rnum 99 l 0 0 = (n, p, b) := ⟨_, _, _, rfl⟩
  obtain ⟨n2, p2, b2, hv2⟩ : ∃ n p b, rsig 281474976710656 l p1 b1 = (n, p, b) := ⟨_, _, _, rfl⟩
  obtain ⟨n3, p3, b3, hv3⟩ : ∃ n p b, rsig 281474976710656 l p2 b2 = (n, p, b) := ⟨_, _, _, rfl⟩
  obtain ⟨t, p4, b4, hv4⟩ : ∃ n p b, rbytes 1048576 l p3 b3 = (n, p, b) := ⟨_, _, _, rfl⟩
  rw [rread_eq hv1 hv2 hv3 hv4] at hr
  simp only [Prod.mk.injEq] at hr
  obtain ⟨rfl, rfl, rfl⟩ := hr
  have C1 := fun w h => rnumber_rd 99 g y l 0 0 w h
  unfold NumPost at C1
  rw [hv1] at C1
  have C2 := fun w h => rsigned_rd 281474976710656 g y l p1 b1 w h
  unfold SigPost at C2
  rw [hv2] at C2
  have C3 := fun w h => rsigned_rd 281474976710656 g y l p2 b2 w h
  unfold SigPost at C3
  rw [hv3] at C3
  have C4 := fun w h => rbytes_rd 1048576 g y l p3 b3 w h hlen
  unfold BytesPost at C4
  rw [hv4] at C4
  simp only at C1 C2 C3 C4
  have H1 := Lib.hid C1
  have H2 := Lib.hid C2
  have H3 := Lib.hid C3
  have H4 := Lib.hid C4
  have hlt := h.lt
  clear C1 C2 C3 C4 hv1 hv2 hv3 hv4
  obtain ⟨w1, hw1⟩ : ∃ W, (w.alloc (.cells #[.pointer (some ⟨g, 0, none⟩)] 115)).alloc (.cells #[.int .i64 0, .int .i64 0, .int .i64 0, .slice none 0 0] 59) = W := ⟨_, rfl⟩
  have hb1 : Below w.heap.size w w1 := by rw [← hw1]; exact ((Below.refl _ _).alloc (Nat.le_refl _) _).alloc (by simp) _
  have k0 : w1.heap[w.heap.size]? = some (.cells #[.pointer (some ⟨g, 0, none⟩)] 115 (0, 0)) := by rw [← hw1, alloc_get, if_neg (by simp), alloc_get, if_pos rfl]
  have k1 : w1.heap[w.heap.size + 1]? = some (.cells #[.int .i64 0, .int .i64 0, .int .i64 0, .slice none 0 0] 59 (0, 0)) := by rw [← hw1, alloc_get, if_pos (by simp)]
  have HWW := Lib.hid hw1
  have hr1 := h.below hb1
  have hz1 : w1.heap.size = w.heap.size + 2 := by rw [← hw1]; simp
  have d0 : w1.cell? ⟨w.heap.size, 0, none⟩ = some (.pointer (some ⟨g, 0, none⟩)) := cell_of_row w1 _ 0 _ _ _ k0
  clear hw1
  go_enter Try.func86, Try.ntmps86
  go_wp2_with fail
  rw [HWW.out]
  have HR1 := Lib.hid hr1.drew'
  have hg1 : g < w.heap.size := hlt
  have K1 := Lib.hid k1
  have SK : Hid (∀ W, Only (fun k => k = g ∨ w1.heap.size ≤ k) w1 W → W.cell? ⟨w.heap.size, 0, none⟩ = some (.pointer (some ⟨g, 0, none⟩))) := fun W hW => (only_cell hW (by simp; omega) (by simp; omega)).trans d0
  have OG : Hid (∀ W W' : World, Only (fun k => k = g ∨ w1.heap.size ≤ k) w1 W → Only (fun k => k = g) W W' → Only (fun k => k = g ∨ w1.heap.size ≤ k) w1 W') := fun W W' h1 h2 => h1.trans (h2.mono fun k _ hk => .inl hk)
  have OA : Hid (∀ (W : World) (o : Obj), Only (fun k => k = g ∨ w1.heap.size ≤ k) w1 W → Only (fun k => k = g ∨ w1.heap.size ≤ k) w1 (W.alloc o)) := fun W o h1 => h1.trans (Only.alloc _ W o)
  have OS : Hid (∀ (W : World) (B i : Nat) (u : Value), w1.heap.size ≤ B → Only (fun k => k = g ∨ w1.heap.size ≤ k) w1 W → Only (fun k => k = g ∨ w1.heap.size ≤ k) w1 (W.setCell ⟨B, i, none⟩ u)) := fun W B i u hB h1 => h1.trans ((set_only W B i u).mono fun k _ hk => .inr (by omega))
  have OD : Hid (Only (fun k => k = g ∨ w1.heap.size ≤ k) w1 w1.drew) := only_drew (Only.refl _ _)
  have HG : Hid (∀ k, w1.heap.size ≤ k → ¬ (k = g)) := fun k hk => by omega
  have K1W : Hid (∀ W, Only (fun k => k = g ∨ w1.heap.size ≤ k) w1 W → W.heap[w.heap.size + 1]? = some (.cells #[.int .i64 0, .int .i64 0, .int .i64 0, .slice none 0 0] 59 (0, 0))) := fun W hW => (hW.block (w.heap.size + 1) (heap_lt K1.out) (by have := heap_lt K1.out; omega)).trans K1.out
  have YL : Hid (l ≠ [] → ∀ k, y.ownBlock = some k → k < w.heap.size) := fun hl => h.src.lt hl
  have OO : Hid (∀ (W W' : World) (B : Nat), Only (fun k => k = g ∨ w1.heap.size ≤ k) w1 W → w1.heap.size ≤ B → Only (fun k => k = B) W W' → Only (fun k => k = g ∨ w1.heap.size ≤ k) w1 W') := fun W W' B h1 hB h2 => h1.trans (h2.mono fun k _ hk => .inr (by omega))
  have RO : Hid (∀ (W W' : World) (B p b : Nat), Rdr W g y l p b → w1.heap.size ≤ B → Only (fun k => k = B) W W' → Rdr W' g y l p b) := fun W W' B p b h1 hB h2 => h1.only h2 (by omega) (fun hl k hk => by have := YL.out hl k hk; omega)
  clear hr1 k0 k1 h hz1
  have O4s : Hid (∀ (W : World) (B : Nat) (u0 u1 u2 u3 : Value), w1.heap.size ≤ B → Only (fun k => k = g ∨ w1.heap.size ≤ k) w1 W → ((((W.setCell ⟨B, 0, none⟩ u0).setCell ⟨B, 1, none⟩ u1).setCell ⟨B, 2, none⟩ u2).setCell ⟨B, 3, none⟩ u3).cell? ⟨w.heap.size, 0, none⟩ = some (.pointer (some ⟨g, 0, none⟩))) := fun W B u0 u1 u2 u3 hB h1 => SK.out _ (OS.out _ _ _ _ hB (OS.out _ _ _ _ hB (OS.out _ _ _ _ hB (OS.out _ _ _ _ hB h1))))
  go_region_held3 (fun w' => w'.cell? ⟨w.heap.size, 0, none⟩ = some (.pointer (some ⟨g, 0, none⟩)))
    (first
      | with_reducible exact O4s.out _ _ _ _ _ _ (Nat.le_refl _) O5.out
      | with_reducible exact O4s.out _ _ _ _ _ _ O3.out.size O5.out
      | with_reducible exact O4s.out _ _ _ _ _ _ O4.out.size O5.out
      | with_reducible exact O4s.out _ _ _ _ _ _ O5.out.size (OA.out _ _ O5.out)
      | with_reducible exact SK.out _ O5.out | with_reducible exact SK.out _ (OA.out _ _ O5.out) | with_reducible exact SK.out _ O4.out | with_reducible exact SK.out _ (OA.out _ _ O4.out) | with_reducible exact SK.out _ O3.out | with_reducible exact SK.out _ (OA.out _ _ O3.out) | with_reducible exact SK.out _ (OA.out _ _ OD.out) | go_keep)
    (first
      | (go_at_call 61; refine (H1.out _ HR1.out).mono ?_; rintro e w3 ⟨rfl, h3, ho3⟩; have O3 := Lib.hid (OG.out _ _ OD.out ho3))
      | (go_at_call 61; refine (H1.out _ (HR1.out.below ((Below.refl _ _).alloc (Nat.le_refl _) _))).mono ?_; rintro e w3 ⟨rfl, h3, ho3⟩; have O3 := Lib.hid (OG.out _ _ (OA.out _ _ OD.out) ho3); have a3 := Lib.hid ((ho3.block w1.heap.size (by simp) (HG.out _ (Nat.le_refl _))).trans (heap_alloc_new w1.drew _)))
      | (go_at_call 62; refine (H2.out _ h3).mono ?_; rintro e w4 ⟨rfl, h4, ho4⟩; have O4 := Lib.hid (OG.out _ _ O3.out ho4); try have a4 := Lib.hid ((ho4.block _ (heap_lt a3.out) (HG.out _ (Nat.le_refl _))).trans a3.out))
      | (go_at_call 62; refine (H2.out _ (h3.below ((Below.refl _ _).alloc (Nat.le_refl _) _))).mono ?_; rintro e w4 ⟨rfl, h4, ho4⟩; have O4 := Lib.hid (OG.out _ _ (OA.out _ _ O3.out) ho4); have a4 := Lib.hid ((ho4.block w3.heap.size (by simp) (HG.out _ O3.out.size)).trans (heap_alloc_new w3 _)))
      | (go_at_call 62; refine (H3.out _ h4).mono ?_; rintro e w5 ⟨rfl, h5, ho5⟩; have O5 := Lib.hid (OG.out _ _ O4.out ho5); try (have a5 := (ho5.block _ (heap_lt a4.out) (HG.out _ (by first | exact Nat.le_refl _ | exact O3.out.size))).trans a4.out; have z0 := cell_of_row w5 _ 0 _ _ _ a5; have z1 := cell_of_row w5 _ 1 _ _ _ a5; have z2 := cell_of_row w5 _ 2 _ _ _ a5; have z3 := cell_of_row w5 _ 3 _ _ _ a5; have y0 := row_free a5 0; have y1 := row_free a5 1; have y2 := row_free a5 2; have y3 := row_free a5 3; have A5 := Lib.hid a5; clear a5))
      | (go_at_call 62; refine (H3.out _ (h4.below ((Below.refl _ _).alloc (Nat.le_refl _) _))).mono ?_; rintro e w5 ⟨rfl, h5, ho5⟩; have O5 := Lib.hid (OG.out _ _ (OA.out _ _ O4.out) ho5); have a5 := (ho5.block w4.heap.size (by simp) (HG.out _ O4.out.size)).trans (heap_alloc_new w4 _); have z0 := cell_of_row w5 _ 0 _ _ _ a5; have z1 := cell_of_row w5 _ 1 _ _ _ a5; have z2 := cell_of_row w5 _ 2 _ _ _ a5; have z3 := cell_of_row w5 _ 3 _ _ _ a5; have y0 := row_free a5 0; have y1 := row_free a5 1; have y2 := row_free a5 2; have y3 := row_free a5 3; have A5 := Lib.hid a5; clear a5))
  have K1W : Hid (∀ W, Only (fun k => k = g ∨ w1.heap.size ≤ k) w1 W → W.heap[w.heap.size + 1]? = some (.cells #[.int .i64 0, .int .i64 0, .int .i64 0, .slice none 0 0] 59 (0, 0))) := fun W hW => (hW.block (w.heap.size + 1) (heap_lt K1.out) (by have := heap_lt K1.out; omega)).trans K1.out
  have T : ∃ W B, W = w5.alloc (.cells #[.int .i64 (n1 : Int), .int .i64 (vback n2), .int .i64 (vback n3), .slice none 0 0] 59) ∧ B = w5.heap.size ∧ W.heap[B]? = some (.cells #[.int .i64 (n1 : Int), .int .i64 (vback n2), .int .i64 (vback n3), .slice none 0 0] 59 (0, 0)) ∧ Only (fun k => k = g ∨ w1.heap.size ≤ k) w1 W ∧ Rdr W g y l p3 b3 ∧ w1.heap.size ≤ B := ⟨_, _, rfl, rfl, heap_alloc_new _ _, OA.out _ _ O5.out, h5.below ((Below.refl _ _).alloc (Nat.le_refl _) _), O5.out.size⟩
  obtain ⟨W, B, hW, hB, T1, T2, T3, T4⟩ := T
  rw [← hW, ← hB]; clear hW hB
  rotate_left 1
  have T : ∃ W B, W = ((((w5.setCell ⟨w4.heap.size, 0, none⟩ (.int .i64 (n1 : Int))).setCell ⟨w4.heap.size, 1, none⟩ (.int .i64 (vback n2))).setCell ⟨w4.heap.size, 2, none⟩ (.int .i64 (vback n3))).setCell ⟨w4.heap.size, 3, none⟩ (.slice none 0 0)) ∧ B = w4.heap.size ∧ W.heap[B]? = some (.cells #[.int .i64 (n1 : Int), .int .i64 (vback n2), .int .i64 (vback n3), .slice none 0 0] 59 (0, 0)) ∧ Only (fun k => k = g ∨ w1.heap.size ≤ k) w1 W ∧ Rdr W g y l p3 b3 ∧ w1.heap.size ≤ B := ⟨_, _, rfl, rfl, (row4_set _ _ _ _ A5.out).1, OO.out _ _ _ O5.out O4.out.size (row4_set _ _ _ _ A5.out).2, RO.out _ _ _ _ _ h5 O4.out.size (row4_set _ _ _ _ A5.out).2, O4.out.size⟩
  obtain ⟨W, B, hW, hB, T1, T2, T3, T4⟩ := T
  rw [← hW, ← hB]; clear hW hB
  rotate_left 1
  have T : ∃ W B, W = ((((w5.setCell ⟨w3.heap.size, 0, none⟩ (.int .i64 (n1 : Int))).setCell ⟨w3.heap.size, 1, none⟩ (.int .i64 (vback n2))).setCell ⟨w3.heap.size, 2, none⟩ (.int .i64 (vback n3))).setCell ⟨w3.heap.size, 3, none⟩ (.slice none 0 0)) ∧ B = w3.heap.size ∧ W.heap[B]? = some (.cells #[.int .i64 (n1 : Int), .int .i64 (vback n2), .int .i64 (vback n3), .slice none 0 0] 59 (0, 0)) ∧ Only (fun k => k = g ∨ w1.heap.size ≤ k) w1 W ∧ Rdr W g y l p3 b3 ∧ w1.heap.size ≤ B := ⟨_, _, rfl, rfl, (row4_set _ _ _ _ A5.out).1, OO.out _ _ _ O5.out O3.out.size (row4_set _ _ _ _ A5.out).2, RO.out _ _ _ _ _ h5 O3.out.size (row4_set _ _ _ _ A5.out).2, O3.out.size⟩
  obtain ⟨W, B, hW, hB, T1, T2, T3, T4⟩ := T
  rw [← hW, ← hB]; clear hW hB
  rotate_left 1
  have T : ∃ W B, W = ((((w5.setCell ⟨w1.heap.size, 0, none⟩ (.int .i64 (n1 : Int))).setCell ⟨w1.heap.size, 1, none⟩ (.int .i64 (vback n2))).setCell ⟨w1.heap.size, 2, none⟩ (.int .i64 (vback n3))).setCell ⟨w1.heap.size, 3, none⟩ (.slice none 0 0)) ∧ B = w1.heap.size ∧ W.heap[B]? = some (.cells #[.int .i64 (n1 : Int), .int .i64 (vback n2), .int .i64 (vback n3), .slice none 0 0] 59 (0, 0)) ∧ Only (fun k => k = g ∨ w1.heap.size ≤ k) w1 W ∧ Rdr W g y l p3 b3 ∧ w1.heap.size ≤ B := ⟨_, _, rfl, rfl, (row4_set _ _ _ _ A5.out).1, OO.out _ _ _ O5.out (Nat.le_refl _) (row4_set _ _ _ _ A5.out).2, RO.out _ _ _ _ _ h5 (Nat.le_refl _) (row4_set _ _ _ _ A5.out).2, Nat.le_refl _⟩
  obtain ⟨W, B, hW, hB, T1, T2, T3, T4⟩ := T
  rw [← hW, ← hB]; clear hW hB
  rotate_left 1
  all_goals
    have d1 := SK.out _ T2
    have U1 := Lib.hid T1
    have U2 := Lib.hid T2
    have U4 := Lib.hid T4
    clear T1 T2 T4
    go_wp2_with fail
    refine (H4.out _ T3).mono ?_
    rintro e w6 ⟨v, rfl, hov, h6, ho6⟩
    obtain ⟨xa, xc, hxs⟩ := hov.shape
    subst hxs
    have R6 := (ho6.block B (heap_lt U1.out) (HG.out _ U4.out)).trans U1.out
    have R7 := row_setCell R6 3 (.slice xa t.length xc)
    have q6 := cell_of_row w6 _ 3 _ _ _ R6
    have q7 := row_free R6 3
    have i0 := cell_of_row _ _ 0 _ _ _ R7
    have i1 := cell_of_row _ _ 1 _ _ _ R7
    have i2 := cell_of_row _ _ 2 _ _ _ R7
    have i3 := cell_of_row _ _ 3 _ _ _ R7
    have O7 := Lib.hid (OG.out _ _ U2.out ho6)
    have O8 := Lib.hid (OS.out _ B 3 (.slice xa t.length xc) U4.out O7.out)
    have S7 := K1W.out _ O8.out
    have j0 := cell_of_row _ _ 0 _ _ _ S7
    have j1 := cell_of_row _ _ 1 _ _ _ S7
    have j2 := cell_of_row _ _ 2 _ _ _ S7
    have j3 := cell_of_row _ _ 3 _ _ _ S7
    have m0 := row_free S7 0
    have m1 := row_free S7 1
    have m2 := row_free S7 2
    have m3 := row_free S7 3
    clear d1 R6
    have R8 := Lib.hid R7
    have S8 := Lib.hid S7
    clear R7 S7
    go_wp2_with fail
    obtain ⟨hrow, hon⟩ := row4_set (.int .i64 (n1 : Int)) (.int .i64 (vback n2)) (.int .i64 (vback n3)) (.slice xa t.length xc) S8.out
    obtain ⟨W9, hW9⟩ : ∃ W9, (((((w6.setCell ⟨B, 3, none⟩ (.slice xa t.length xc)).setCell ⟨w.heap.size + 1, 0, none⟩ (.int .i64 (n1 : Int))).setCell ⟨w.heap.size + 1, 1, none⟩ (.int .i64 (vback n2))).setCell ⟨w.heap.size + 1, 2, none⟩ (.int .i64 (vback n3))).setCell ⟨w.heap.size + 1, 3, none⟩ (.slice xa t.length xc)) = W9 := ⟨_, rfl⟩
    rw [hW9] at hrow hon ⊢
    have c0 := cell_of_row _ _ 0 _ _ _ hrow
    have c1 := cell_of_row _ _ 1 _ _ _ hrow
    have c2 := cell_of_row _ _ 2 _ _ _ hrow
    have c3 := cell_of_row _ _ 3 _ _ _ hrow
    have hBW := heap_lt U1.out
    have hWs := U2.out.size
    have hKs := heap_lt K1.out
    have hU4 := U4.out
    have o69 : Only (fun k => k = B ∨ k = w.heap.size + 1) w6 W9 := ((set_only w6 B 3 _).mono fun k _ hk => .inl hk).trans (hon.mono fun k _ hk => .inr hk)
    refine bodyPost_ret (v := .agg #[.int .i64 (n1 : Int), .int .i64 (vback n2), .int .i64 (vback n3), .slice xa t.length xc]) (by simp [results, Try.results86, go_sem, c0, c1, c2, c3]) rfl ⟨.slice xa t.length xc, rfl, ?_, ?_, ?_, ?_⟩
    · exact (hov.only o69 fun k hk => by have := (hov.lt k hk).1; omega).bs
    · intro _ k hk
      have := (hov.lt k hk).1
      omega
    · exact h6.only o69 (by omega) (fun hl k hk => by have := YL.out hl k hk; omega)
    · have o1 : Only (fun k => k = g ∨ w.heap.size ≤ k) w w1 := .of_below hb1
      have o2 : Only (fun k => k = g ∨ w.heap.size ≤ k) w1 (w6.setCell ⟨B, 3, none⟩ (.slice xa t.length xc)) := O8.out.mono fun k _ hk => by omega
      have o3 : Only (fun k => k = g ∨ w.heap.size ≤ k) (w6.setCell ⟨B, 3, none⟩ (.slice xa t.length xc)) W9 := hon.mono fun k _ hk => by omega
      exact ((o1.trans o2).trans o3).mono fun k hk hF => by omega

end Go.Proofs.Yticpmkdlnjnfgaa
