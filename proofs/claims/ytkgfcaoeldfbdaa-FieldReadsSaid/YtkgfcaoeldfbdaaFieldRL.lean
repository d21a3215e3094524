/- The walk of the statement FieldReads. -/
import Derived.Test.YtkgfcaoeldfbdaaFieldW
import Derived.Test.YtkgfcaoeldfbdaaReaderB
import Derived.Lib.QuietBelow
import Derived.Deep.RegionHeld3
namespace Go.Proofs.Ytkgfcaoeldfbdaa
open Go.RowKit Go.Sort

/-- both readers, at one place -/
structure Twin (w : World) (g1 g2 : Nat) (y : Value) (b : List UInt8) (pos bad : Nat) (W : World) : Prop where
  r1 : Rdr W g1 y b pos bad
  r2 : RRd W g2 y b pos bad
  bel : Below w.heap.size w W
  l1 : w.heap.size ≤ g1
  l2 : w.heap.size ≤ g2
  ne : g1 ≠ g2
  ya : b ≠ [] → ∀ k, y.ownBlock = some k → k < w.heap.size

section
variable {w W W' : World} {g1 g2 pos bad pos' bad' : Nat} {y : Value} {b : List UInt8}
theorem Twin.below (h : Twin w g1 g2 y b pos bad W) (hb : Below W.heap.size W W') : Twin w g1 g2 y b pos bad W' :=
  ⟨h.r1.below hb, h.r2.below hb, h.bel.trans (hb.mono h.bel.size), h.l1, h.l2, h.ne, h.ya⟩
theorem Twin.lt1 (h : Twin w g1 g2 y b pos bad W) : g1 < W.heap.size := h.r1.lt
theorem Twin.lt2 (h : Twin w g1 g2 y b pos bad W) : g2 < W.heap.size := h.r2.lt
/-- the first one has read -/
theorem Twin.half (h : Twin w g1 g2 y b pos bad W) (ho : Only (fun k => k = g1) W W') : RRd W' g2 y b pos bad :=
  h.r2.only ho (fun e => h.ne e.symm) (fun hl k hk e => by have := h.ya hl k hk; have := h.l1; omega)
/-- both have read -/
theorem Twin.both {W2 : World} (h : Twin w g1 g2 y b pos bad W) (h1 : Rdr W' g1 y b pos' bad') (ho : Only (fun k => k = g1) W W') (h2 : RRd W2 g2 y b pos' bad') (ho2 : Only (fun k => k = g2) W' W2) : Twin w g1 g2 y b pos' bad' W2 := by
  have hb1 : Below w.heap.size W W' := ho.below (fun k hk => by have := h.l1; omega) h.bel.size
  have hb2 : Below w.heap.size W' W2 := ho2.below (fun k hk => by have := h.l2; omega) (Nat.le_trans h.bel.size hb1.size)
  exact ⟨h1.only ho2 h.ne (fun hl k hk e => by have := h.ya hl k hk; have := h.l2; omega), h2, (h.bel.trans hb1).trans hb2, h.l1, h.l2, h.ne, h.ya⟩
end

theorem rerror_bel (g : Nat) (y : Value) (l : List UInt8) (pos bad : Nat) (w : World) (h : Rdr w g y l pos bad) : Calls Try.prog 54 #[.pointer (some ⟨g, 0, none⟩)] w fun e w' => e = .returned (.int .i64 bad) ∧ Below w.heap.size w w' :=
  (rerror_any g y l pos bad w h).mono fun _ _ ⟨h1, h2⟩ => ⟨h1, h2 ▸ Below.refl _ _⟩

set_option maxRecDepth 100000 in
set_option maxHeartbeats 3200000 in
theorem reads_walk (vb : Value) (b : List UInt8) (va : Value) (l : List Fld) (w : World) (hb : Bs w vb b) (ha : Fs w va l) :
    Calls Try.prog 10 #[vb, va] w fun e w' => e = .returned (.bool true) ∧ Below w.heap.size w w' := by
  obtain ⟨yb, cb, hs⟩ := hb.shape
  subst hs
  have hylt := hb.lt
  by_cases hlb : b.length ≤ 2000
  · have dlb : decide ((2000 : Int) < b.length) = false := by simp; omega
    go_enter Try.func10, Try.ntmps10
    go_wp2_with fail
    refine (awake3 _).mono ?_
    rintro e w1 ⟨rfl, hb1⟩
    go_wp2_with fail
    refine (small_any _ l _ (ha.below hb1)).mono ?_
    rintro e w2 ⟨sm, rfl, hS, hb2⟩
    have hw2 := hb1.trans (hb2.mono hb1.size)
    cases sm with
    | false =>
      clear hS
      go_wp2
      go_ret
      exact ⟨rfl, hw2⟩
    | true =>
      have HS := Lib.hid (hS rfl)
      clear hS
      go_wp2_with fail
      refine (read_any _ b _ (hb.below hw2)).mono ?_
      rintro e w3 ⟨rfl, hr3, hb3⟩
      have hw3 := hw2.trans (hb3.mono hw2.size)
      go_wp2_with fail
      refine (rread_any _ b _ (hb.below hw3)).mono ?_
      rintro e w4 ⟨rfl, hr4, hb4⟩
      have hw4 := hw3.trans (hb4.mono hw3.size)
      have hT := (show Twin w w2.heap.size w3.heap.size (.slice yb b.length cb) b 0 0 w4 from ⟨hr3.below hb4, hr4, hw4, hw2.size, hw3.size, by have := hr3.lt; omega, hylt⟩)
      have HA := Lib.hid ha
      obtain ⟨n, hn⟩ : ∃ n, l.length = n := ⟨_, rfl⟩
      obtain ⟨a, ca, b1, o1, hva, ha1, ha2, ha3, ha4, ha5⟩ := Fs.open_n ha n hn
      subst hva
      have HN := Lib.hid hn
      have hg2 := hw2.size
      have hg3 := hw3.size
      have hg4 := hw4.size
      clear hn hr3 hr4
      clear hw4 hb4 hb3 hw3 hw2 hb2
      go_wp2
      go_loopw [27] (fun i wr => ∃ (k pos bad : Nat), k ≤ n ∧ i = .int .i64 k ∧ Twin w w2.heap.size w3.heap.size (.slice yb b.length cb) b pos bad wr) (fun i _ => n - (intOf i).toNat)
      case atStart => exact ⟨0, 0, 0, by omega, rfl, hT⟩
      case round =>
        obtain ⟨k, pos, bad, hk, rfl, hTw⟩ := hrel
        clear hT
        have hwr := hTw.bel
        have hszr := hwr.size
        have hl1 := hTw.lt1
        have hl2 := hTw.lt2
        have hgne := hTw.ne
        by_cases hlt : k < n
        · obtain ⟨s, hs⟩ : ∃ s, l[k]? = some s := ⟨_, List.getElem?_eq_getElem (by have := HN.out; omega)⟩
          obtain ⟨p0, p1, p2, p3⟩ := ha5 k s hs
          have hbb := ha4 k hlt
          rw [← hwr.cell (by exact hbb)] at p0 p1 p2 p3
          have hbs := (HA.out.2 k s hs).1
          have hwf := (HA.out.2 k s hs).2
          have hsl : s.b.length ≤ 300 := HS.out.1 s (by obtain ⟨h1, h2⟩ := List.getElem?_eq_some_iff.1 hs; rw [← h2]; exact List.getElem_mem h1)
          obtain ⟨av, cv, hv⟩ := hbs.shape
          rw [hv] at p3
          unfold FWf at hwf
          obtain ⟨⟨k1, k2⟩, -, hwm⟩ := hwf
          clear hs ha4 ha5 hv hbs
          obtain ⟨wa, hwa⟩ : ∃ wa, wr.alloc (.cells #[.int .i64 s.k, .int .i64 s.n, .int .i64 s.m, .slice av s.b.length cv] 66) = wa := ⟨_, rfl⟩
          have HWW := Lib.hid hwa
          have hTa : Twin w w2.heap.size w3.heap.size (.slice yb b.length cb) b pos bad wa := by rw [← hwa]; exact hTw.below ((Below.refl _ _).alloc (Nat.le_refl _) _)
          have HWA : Hid (∀ i, wa.cell? ⟨wr.heap.size, i, none⟩ = #[Value.int .i64 s.k, .int .i64 s.n, .int .i64 s.m, .slice av s.b.length cv][i]?) := fun i => by rw [← hwa]; exact World.cell?_alloc_at _ _ _ _ rfl
          have hza : wa.heap.size = wr.heap.size + 1 := by rw [← hwa]; simp
          clear hwa hTw
          have hk5 : (s.k == 1) = true ∨ ((s.k == 1) = false ∧ (s.k == 2) = true) ∨ ((s.k == 1) = false ∧ (s.k == 2) = false ∧ (s.k == 3) = true) ∨ ((s.k == 1) = false ∧ (s.k == 2) = false ∧ (s.k == 3) = false ∧ (s.k == 4) = true) ∨ ((s.k == 1) = false ∧ (s.k == 2) = false ∧ (s.k == 3) = false ∧ (s.k == 4) = false) := by
            simp only [beq_iff_eq, beq_eq_false_iff_ne]
            omega
          rcases hk5 with q1 | ⟨q1, q2⟩ | ⟨q1, q2, q3⟩ | ⟨q1, q2, q3, q4⟩ | ⟨q1, q2, q3, q4⟩
          focus
            have dm : wa.cell? ⟨wr.heap.size, 2, none⟩ = some (.int .i64 s.m) := HWA.out 2
            have HTD := Lib.hid (hTa.below (Below.refl _ _).drew)
            go_wp2_with fail
            rw [HWW.out]
            go_region_held3 (fun w' => w'.cell? ⟨wr.heap.size, 2, none⟩ = some (.int .i64 s.m))
              (first | go_keep | exact (only_cell ho5 (by simp; omega) (by simp; omega)).trans dm | exact (only_cell ho6 (by simp; omega) (by have := ho5.size; simp at this ⊢; omega)).trans ((only_cell ho5 (by simp; omega) (by simp; omega)).trans dm))
              (first | (go_at_call 46; refine (rnumber_rd s.m _ _ b pos bad _ HTD.out.r1).mono ?_; rintro e w5 ⟨rfl, h5, ho5⟩) | (go_at_call 47; refine (rrnumber_rd s.m hwm _ _ b pos bad _ (HTD.out.half ho5)).mono ?_; rintro e w6 ⟨rfl, h6, ho6⟩))
            have hT6 := HTD.out.both h5 ho5 h6 ho6
            clear h5 h6 ho5 ho6 dm
            go_wp2_with fail
          rotate_left 1
          focus
            have dm : wa.cell? ⟨wr.heap.size, 2, none⟩ = some (.int .i64 s.m) := HWA.out 2
            have HTD := Lib.hid (hTa.below (Below.refl _ _).drew)
            go_wp2_with fail
            rw [HWW.out]
            go_region_held3 (fun w' => w'.cell? ⟨wr.heap.size, 2, none⟩ = some (.int .i64 s.m))
              (first | go_keep | exact (only_cell ho5 (by simp; omega) (by simp; omega)).trans dm | exact (only_cell ho6 (by simp; omega) (by have := ho5.size; simp at this ⊢; omega)).trans ((only_cell ho5 (by simp; omega) (by simp; omega)).trans dm))
              (first | (go_at_call 48; refine (rsigned_rd s.m _ _ b pos bad _ HTD.out.r1).mono ?_; rintro e w5 ⟨rfl, h5, ho5⟩) | (go_at_call 49; refine (rrsigned_rd s.m hwm _ _ b pos bad _ (HTD.out.half ho5)).mono ?_; rintro e w6 ⟨rfl, h6, ho6⟩))
            have hT6 := HTD.out.both h5 ho5 h6 ho6
            clear h5 h6 ho5 ho6 dm
            go_wp2_with fail
          rotate_left 1
          focus
            go_wp2_with fail
            rw [HWW.out]
            refine (rbyte_rd _ _ b pos bad _ hTa.r1).mono ?_
            rintro e w5 ⟨rfl, h5, ho5⟩
            go_wp2_with fail
            refine (rrbyte_rd _ _ b pos bad _ (hTa.half ho5)).mono ?_
            rintro e w6 ⟨rfl, h6, ho6⟩
            have hT6 := hTa.both h5 ho5 h6 ho6
            clear h5 h6 ho5 ho6
            go_wp2_with fail
          rotate_left 1
          focus
            have dm : wa.cell? ⟨wr.heap.size, 2, none⟩ = some (.int .i64 s.m) := HWA.out 2
            have HTD := Lib.hid (hTa.below (Below.refl _ _).drew)
            go_wp2_with fail
            rw [HWW.out]
            go_region_held3 (fun w' => w'.cell? ⟨wr.heap.size, 2, none⟩ = some (.int .i64 s.m))
              (first | go_keep | exact (only_cell ho5 (by simp; omega) (by simp; omega)).trans dm | exact (only_cell ho6 (by simp; omega) (by have := ho5.size; simp at this ⊢; omega)).trans ((only_cell ho5 (by simp; omega) (by simp; omega)).trans dm) | exact (hb7.cell (p := ⟨wr.heap.size, 2, none⟩) (by have := ho5.size; have := ho6.size; simp at *; omega)).trans ((only_cell ho6 (by simp; omega) (by have := ho5.size; simp at this ⊢; omega)).trans ((only_cell ho5 (by simp; omega) (by simp; omega)).trans dm)))
              (first | (go_at_call 52; refine (rbytes_rd s.m _ _ b pos bad _ HTD.out.r1 (by omega)).mono ?_; rintro e w5 ⟨v5, rfl, hv5, h5, ho5⟩) | (go_at_call 53; refine (rrbytes_rd s.m hwm _ _ b pos bad _ (HTD.out.half ho5) (by omega)).mono ?_; rintro e w6 ⟨v6, rfl, hv6, h6, ho6⟩) | (go_at_call 16; refine (same_any _ _ _ _ _ (hv5.bs.only ho6 (fun j hj e => by have := (hv5.lt j hj).1; simp at this; omega)) hv6.bs).mono ?_; rintro e w7 ⟨rfl, hb7⟩))
            have hT6 := (HTD.out.both h5 ho5 h6 ho6).below hb7
            clear h5 h6 ho5 ho6 dm hv5 hv6
            obtain ⟨w6, hw6⟩ : ∃ W, W = w7 := ⟨_, rfl⟩
            rw [← hw6] at hT6 ⊢
            clear hw6
            go_wp2_with fail
          rotate_left 1
          focus
            have hT6 := hTa
            obtain ⟨w6, hw6⟩ : ∃ W, W = wa := ⟨_, rfl⟩
            rw [← hw6] at hT6
            go_wp2_with fail
            rw [HWW.out, ← hw6]
            clear hw6
          rotate_left 1
          all_goals
            have c2 := fun d os => cell_regrown hT6.r2.c2 d os
            have HT6 := Lib.hid hT6
            clear hT6
            refine wp_region_quiet_below (by kernel_rfl) (by kernel_rfl) ?_
            repeat (go_big_quiet_step ((go_at_call 54; exact Calls.regrown_of (rerror_bel _ _ b _ _ _ (HT6.out.r1.below (below_regrown _ _ _))))))
            refine wpQuiet_nil ?_
            intro _ hw'
            obtain ⟨⟨dq, osq⟩, hw''⟩ := hw'
            subst hw''
            have hb8 := below_regrown w6 dq osq
            obtain ⟨w8, hwq⟩ : ∃ x, x = grow (redrawn w6 dq) osq := ⟨_, rfl⟩
            rw [← hwq] at hb8 ⊢
            clear hwq
            have hT8 := HT6.out.below hb8
            clear c2
            go_wp2
            go_roundw
            case rel => exact ⟨k + 1, _, _, by omega, by go_num, hT8⟩
            case measure => simp [intOf]; omega
        · have HTw := Lib.hid hTw
          clear hTw
          go_wp2_with fail
          refine (rnumber_nil 5 _).mono ?_
          rintro e v1 ⟨rfl, hv1⟩
          go_wp2_with fail
          refine (rsigned_nil 5 _).mono ?_
          rintro e v2 ⟨rfl, hv2⟩
          go_wp2_with fail
          refine (rbyte_nil _).mono ?_
          rintro e v3 ⟨rfl, hv3⟩
          go_wp2_with fail
          refine (rbytes_nil 5 _).mono ?_
          rintro e v4 ⟨rfl, hv4⟩
          go_wp2_with fail
          refine (rerror_nil _).mono ?_
          rintro e v5 ⟨rfl, rfl⟩
          go_wp2_with fail
          refine (rdone_nil _).mono ?_
          rintro e v6 ⟨rfl, hv6⟩
          have hT6 := ((((HTw.out.below hv1).below hv2).below hv3).below hv4).below hv6
          go_wp2_with fail
          refine (rdone_any _ _ b pos bad _ hT6.r1).mono ?_
          rintro e v7 ⟨rfl, hv7⟩
          have hT7 := hT6.below hv7
          go_wp2_with fail
          refine (rrdone_any _ _ b pos bad _ hT7.r2).mono ?_
          rintro e v8 ⟨rfl, hv8⟩
          have hT8 := hT7.below hv8
          go_wp2
          go_ret
          exact ⟨ret_bool (by simp), hT8.bel⟩
  · have dlb : decide ((2000 : Int) < b.length) = true := by simp; omega
    go_enter Try.func10, Try.ntmps10
    go_wp2_with fail
    refine (awake3 _).mono ?_
    rintro e w1 ⟨rfl, hb1⟩
    go_wp2
    go_ret
    exact ⟨rfl, hb1⟩

end Go.Proofs.Ytkgfcaoeldfbdaa
