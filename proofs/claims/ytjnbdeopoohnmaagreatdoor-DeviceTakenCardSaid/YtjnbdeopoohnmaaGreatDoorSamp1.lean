/- The walk of Put of layer 5's reference. -/
import Derived.Test.YtjnbdeopoohnmaaGreatDoorSmp0
import Derived.Test.YtjnbdeopoohnmaaGreatDoorRfield
import Derived.Deep.RegionHeld3
namespace Go.Proofs.YtjnbdeopoohnmaaGreatDoor
open Go.RowKit Go.Sort

/-- what samples' bytes are answered by -/
def SPutPost (l : List Smp) (w : World) (e : Ending) (w' : World) : Prop :=
  if 2048 < l.length then e = .returned (.tuple #[.slice none 0 0, .int .i64 3]) ∧ Below w.heap.size w w'
  else (SRight l ∧ ∃ v, e = .returned (.tuple #[v, .int .i64 0]) ∧ Ob w' w.heap.size 5 v (sputs szero l) ∧ Below w.heap.size w w') ∨
    (¬ SRight l ∧ e = .returned (.tuple #[.slice none 0 0, .int .i64 2]) ∧ Below w.heap.size w w')

/-- what a round of Put stands on: bytes of the call's own, and the sample ahead in the call's first block -/
structure RPut (w : World) (v : Value) (m : List UInt8) (p : Smp) (W : World) : Prop where
  ob : Ob W w.heap.size 5 v m
  blk : W.heap[w.heap.size]? = some (.cells #[.int .i64 p.t, .int .i64 p.x, .int .i64 p.y] 55 (0, 0))
  bel : Below w.heap.size w W

section
variable {w W W' : World} {v v' : Value} {m m' : List UInt8} {p : Smp}
theorem RPut.lt (h : RPut w v m p W) : w.heap.size < W.heap.size := (Array.getElem?_eq_some_iff.1 h.blk).1
theorem RPut.below (h : RPut w v m p W) (hb : Below W.heap.size W W') : RPut w v m p W' :=
  ⟨h.ob.below hb, (hb.block _ h.lt).trans h.blk, h.bel.trans (hb.mono h.bel.size)⟩
theorem RPut.grown (h : RPut w v m p W) (ho : Ob W' w.heap.size 5 v' m') (hg : W.grownBy W' v.ownBlock) : RPut w v' m' p W' :=
  ⟨ho, (hg.block _ h.lt (Ne.symm (h.ob.ne h.blk (by decide)))).trans h.blk, h.bel.trans ((grown_only hg).below (fun k hk => (h.ob.lt k hk).1) h.bel.size)⟩
theorem RPut.free (h : RPut w v m p W) (i : Nat) : W.frozen? ⟨w.heap.size, i, none⟩ = false := row_free h.blk i
theorem RPut.set (h : RPut w v m p W) (s : Smp) : RPut w v m s (((W.setCell ⟨w.heap.size, 0, none⟩ (.int .i64 s.t)).setCell ⟨w.heap.size, 1, none⟩ (.int .i64 s.x)).setCell ⟨w.heap.size, 2, none⟩ (.int .i64 s.y)) := by
  have b1 := row_setCell h.blk 0 (.int .i64 s.t)
  have b2 := row_setCell b1 1 (.int .i64 s.x)
  have b3 := row_setCell b2 2 (.int .i64 s.y)
  have o1 := ownsRow_setCell_other h.ob (h.ob.ne h.blk (by decide)) (a := ⟨w.heap.size, 0, none⟩) (.int .i64 s.t)
  have o2 := ownsRow_setCell_other o1 (Ob.ne o1 b1 (by decide)) (a := ⟨w.heap.size, 1, none⟩) (.int .i64 s.x)
  have o3 := ownsRow_setCell_other o2 (Ob.ne o2 b2 (by decide)) (a := ⟨w.heap.size, 2, none⟩) (.int .i64 s.y)
  exact ⟨o3, b3, ((h.bel.setCell (Nat.le_refl _) _).setCell (Nat.le_refl _) _).setCell (Nat.le_refl _) _⟩
theorem RPut.drew (h : RPut w v m p W) : RPut w v m p W.drew := h.below (Below.refl _ _).drew
theorem RPut.c0 (h : RPut w v m p W) : W.cell? ⟨w.heap.size, 0, none⟩ = some (.int .i64 p.t) := cell_of_row W _ 0 _ _ _ h.blk
theorem RPut.c1 (h : RPut w v m p W) : W.cell? ⟨w.heap.size, 1, none⟩ = some (.int .i64 p.x) := cell_of_row W _ 1 _ _ _ h.blk
theorem RPut.c2 (h : RPut w v m p W) : W.cell? ⟨w.heap.size, 2, none⟩ = some (.int .i64 p.y) := cell_of_row W _ 2 _ _ _ h.blk
end

set_option maxRecDepth 100000 in
set_option maxHeartbeats 3200000 in
theorem rsput_any (va : Value) (l : List Smp) (w : World) (ha : Ss w va l) : Calls Tryz.prog 34 #[va] w (SPutPost l w) := by
  obtain ⟨n, hn⟩ : ∃ n, l.length = n := ⟨_, rfl⟩
  obtain ⟨a, ca, b1, o1, rfl, ha1, ha2, ha3, ha4, ha5⟩ := Ss.open_n elS ha n hn
  clear ha
  have HN := Lib.hid hn
  clear hn
  by_cases hbig : 2048 < n
  · have e1 : (2048 : Int) < n := by omega
    go_enter Tryz.func34, Tryz.ntmps34
    go_wp2
    go_ret2
    unfold SPutPost
    rw [if_pos (by rw [HN.out]; exact hbig)]
    exact ⟨rfl, Below.refl _ _⟩
  · have hnot : Hid (∀ (e : Ending) (w' : World), ((SRight l ∧ ∃ v, e = .returned (.tuple #[v, .int .i64 0]) ∧ Ob w' w.heap.size 5 v (sputs szero l) ∧ Below w.heap.size w w') ∨
        (¬ SRight l ∧ e = .returned (.tuple #[.slice none 0 0, .int .i64 2]) ∧ Below w.heap.size w w')) → SPutPost l w e w') := by
      intro e w' h
      unfold SPutPost
      rw [if_neg (by rw [HN.out]; exact hbig)]
      exact h
    go_enter Tryz.func34, Tryz.ntmps34
    go_wp2
    go_loopw [4, 6] (fun v i wr => ∃ (k : Nat) (p : Smp), k ≤ n ∧ i = .int .i64 k ∧ Hid (p = slast szero (l.take k)) ∧ Hid (SRight (l.take k)) ∧ RPut w v (sputs szero (l.take k)) p wr) (fun _ i _ => n - (intOf i).toNat)
    case atStart => exact ⟨0, szero, by omega, rfl, rfl, fun i s h => by simp at h, ⟨Ob.nil _ _ _, heap_alloc_new w _, (Below.refl _ _).alloc (Nat.le_refl _) _⟩⟩
    case round =>
      obtain ⟨k, p, hk, rfl, HP, HR, hrp⟩ := hrel
      have hw := hrp.bel
      have hsz := hw.size
      have hA := hrp.lt
      have q0 : wr.cell? ⟨w.heap.size, 0, none⟩ = some (.int .i64 p.t) := hrp.c0
      have q1 : wr.cell? ⟨w.heap.size, 1, none⟩ = some (.int .i64 p.x) := hrp.c1
      have q2 : wr.cell? ⟨w.heap.size, 2, none⟩ = some (.int .i64 p.y) := hrp.c2
      by_cases hlt : k < n
      · obtain ⟨s, hs⟩ : ∃ s, l[k]? = some s := ⟨_, List.getElem?_eq_getElem (by have := HN.out; omega)⟩
        obtain ⟨p0, p1, p2⟩ := ha5 k s hs
        have P012 := Lib.hid (And.intro p0 (And.intro p1 p2))
        rw [← hw.cell (by exact ha4 k hlt)] at p0 p1 p2
        have hb1 := ha4 k hlt
        have HS := Lib.hid hs
        clear hs ha4 ha5
        have e1 : (k : Int) < n := by omega
        have r0 := fun d os => cell_regrown p0 d os
        have r1 := fun d os => cell_regrown p1 d os
        have r2 := fun d os => cell_regrown p2 d os
        have r3 := fun d os => cell_regrown q0 d os
        by_cases hm : mayB s = true
        · have HSM : Hid (SMay s) := (mayB_iff s).1 hm
          have HM := Lib.hid hm
          clear hm
          by_cases hle : 0 < k ∧ s.t ≤ p.t
          · have hd : decide (0 < k) = true := by simp; omega
            have hd2 : decide (s.t ≤ p.t) = true := by simp; omega
            have HLE := Lib.hid hle
            clear hle
            go_wp2
            refine wp_region_quiet_below (by kernel_rfl) (by kernel_rfl) ?_
            repeat (go_big_quiet_step ((go_at_call 72; exact Calls.regrown_of (rmay_is s true HM.out _))))
            refine wpQuiet_nil ?_
            intro _ hw'
            obtain ⟨⟨dq, osq⟩, hw''⟩ := hw'
            subst hw''
            have hb2 := below_regrown wr dq osq
            obtain ⟨w2, hwq⟩ : ∃ x, x = grow (redrawn wr dq) osq := ⟨_, rfl⟩
            rw [← hwq] at hb2 ⊢
            clear hwq
            go_wp2
            go_ret2
            refine hnot.out _ _ (.inr ⟨sright_no l k s HS.out (.inr ?_), rfl, hw.trans (hb2.mono hsz)⟩)
            rw [← HP.out]
            exact HLE.out
          · have HLE : Hid (0 < k → p.t < s.t) := fun h => by omega
            have hrange : -67108864 < s.x - p.x ∧ s.x - p.x < 67108864 ∧ -67108864 < s.y - p.y ∧ s.y - p.y < 67108864 ∧ 0 ≤ s.t - p.t ∧ s.t - p.t ≤ 1099511627776 := by
              have hsm := HSM.out
              have hl := sright_last l k HR.out
              rw [← HP.out] at hl
              have hk0 : k = 0 → p = szero := fun h => by rw [HP.out, h]; rfl
              rcases hl with e | e
              · rw [e]; unfold SMay at hsm; simp only [szero]; omega
              · by_cases h0 : k = 0
                · rw [hk0 h0]; unfold SMay at hsm; simp only [szero]; omega
                · unfold SMay at hsm e; omega
            have hlen : (sputs szero (l.take k)).length ≤ 61440 := by
              have h1 := sputs_len (l.take k) szero (.inl rfl) (fun x hx => by
                obtain ⟨i, hi, rfl⟩ := List.getElem_of_mem hx
                exact (HR.out i _ (List.getElem?_eq_getElem hi)).1)
              rw [List.length_take] at h1
              have := HN.out
              omega
            have HC : Hid (∀ W, Below w.heap.size w W → W.cell? ⟨b1, o1 k, none⟩ = some (.int .i64 s.t) ∧ W.cell? ⟨b1, o1 k + 1, none⟩ = some (.int .i64 s.x) ∧ W.cell? ⟨b1, o1 k + 2, none⟩ = some (.int .i64 s.y)) := by
              intro W hW
              obtain ⟨x0, x1, x2⟩ := P012.out
              exact ⟨(hW.cell (by exact hb1)).trans x0, (hW.cell (by exact hb1)).trans x1, (hW.cell (by exact hb1)).trans x2⟩
            have hv1 := vput_len10 (s.t - p.t).toNat (by omega)
            have hv2 := vput_len10 (vturn (s.x - p.x)).toNat (vturn_bound _ (by omega) (by omega))
            have hv3 := vput_len10 (vturn (s.y - p.y)).toNat (vturn_bound _ (by omega) (by omega))
            have hwr1 : IntKind.i64.wrap (s.t - p.t) = s.t - p.t := IntWalk.i64_in _ (by omega)
            have hwr2 : IntKind.i64.wrap (s.x - p.x) = s.x - p.x := IntWalk.i64_in _ (by omega)
            have hwr3 : IntKind.i64.wrap (s.y - p.y) = s.y - p.y := IntWalk.i64_in _ (by omega)
            have hdd : decide (0 < k) = false ∨ (decide (0 < k) = true ∧ decide (s.t ≤ p.t) = false) := by
              rcases (show (k = 0) ∨ (0 < k) by omega) with h | h
              · left; simp; omega
              · right; constructor <;> simp <;> omega
            clear hle q1 q2
            rcases hdd with hd | ⟨hd, hd2⟩
            all_goals
              go_wp2
              refine wp_region_quiet_below (by kernel_rfl) (by kernel_rfl) ?_
              repeat (go_big_quiet_step ((go_at_call 72; exact Calls.regrown_of (rmay_is s true HM.out _))))
              refine wpQuiet_nil ?_
              intro _ hw'
              obtain ⟨⟨dq, osq⟩, hw''⟩ := hw'
              subst hw''
              have hb2 := below_regrown wr dq osq
              obtain ⟨w2, hwq⟩ : ∃ x, x = grow (redrawn wr dq) osq := ⟨_, rfl⟩
              rw [← hwq] at hb2 ⊢
              clear hwq
              have RP0 := Lib.hid (hrp.below hb2)
              clear p0 p1 p2 q0 r0 r1 r2 r3
              have hrp1 := RP0.out
              have d1 := hrp1.c0
              have c1 := (HC.out _ hrp1.bel).1
              have s1 := hrp1.bel.size
              have t1 := hrp1.lt
              clear hrp1
              go_wp2_with fail
              go_region_held3 (fun w' => w'.cell? ⟨b1, o1 k, none⟩ = some (.int .i64 s.t) ∧ w'.cell? ⟨w.heap.size, 0, none⟩ = some (.int .i64 p.t))
                (first | go_keep | exact ⟨(HC.out _ RP1.out.bel).1, RP1.out.c0⟩ | exact ⟨(HC.out _ RP1b.out.bel).1, RP1b.out.c0⟩)
                (first | (go_at_call 36; refine (rnumber_any _ (by omega) (by omega) _).mono ?_; rintro e w1a ⟨v1a, rfl, ho1a, hb1a⟩; have RP1b := Lib.hid (RP0.out.drew.below hb1a)) | (refine step_append_bytes_mv RP1b.out.ob ho1a.bs elB (by first | omega | (simp only [List.length_append]; omega)) (by first | omega | (simp only [List.length_append]; omega)) (by have := RP1b.out.bel.size; omega) ?_ _ _ rfl rfl rfl rfl; intro v1c w1c ho1c hg1 _; have RP1 := Lib.hid (RP1b.out.grown ho1c hg1); clear ho1c hg1))
              clear c1 d1
              have hrp2 := RP1.out
              have d2 := hrp2.c1
              have c2 := (HC.out _ hrp2.bel).2.1
              have s2 := hrp2.bel.size
              have t2 := hrp2.lt
              clear hrp2
              go_wp2_with fail
              go_region_held3 (fun w' => w'.cell? ⟨b1, o1 k + 1, none⟩ = some (.int .i64 s.x) ∧ w'.cell? ⟨w.heap.size, 1, none⟩ = some (.int .i64 p.x))
                (first | go_keep | exact ⟨(HC.out _ RP2.out.bel).2.1, RP2.out.c1⟩ | exact ⟨(HC.out _ RP2b.out.bel).2.1, RP2b.out.c1⟩)
                (first | (go_at_call 73; refine (rsigned_any _ (by omega) (by omega) _).mono ?_; rintro e w2a ⟨v2a, rfl, ho2a, hb2a⟩; have RP2b := Lib.hid (RP1.out.drew.below hb2a)) | (refine step_append_bytes_mv RP2b.out.ob ho2a.bs elB (by first | omega | (simp only [List.length_append]; omega)) (by first | omega | (simp only [List.length_append]; omega)) (by have := RP2b.out.bel.size; omega) ?_ _ _ rfl rfl rfl rfl; intro v2c w2c ho2c hg2 _; have RP2 := Lib.hid (RP2b.out.grown ho2c hg2); clear ho2c hg2))
              clear c2 d2
              have hrp3 := RP2.out
              have d3 := hrp3.c2
              have c3 := (HC.out _ hrp3.bel).2.2
              have s3 := hrp3.bel.size
              have t3 := hrp3.lt
              clear hrp3
              go_wp2_with fail
              go_region_held3 (fun w' => w'.cell? ⟨b1, o1 k + 2, none⟩ = some (.int .i64 s.y) ∧ w'.cell? ⟨w.heap.size, 2, none⟩ = some (.int .i64 p.y))
                (first | go_keep | exact ⟨(HC.out _ RP3.out.bel).2.2, RP3.out.c2⟩ | exact ⟨(HC.out _ RP3b.out.bel).2.2, RP3b.out.c2⟩)
                (first | (go_at_call 73; refine (rsigned_any _ (by omega) (by omega) _).mono ?_; rintro e w3a ⟨v3a, rfl, ho3a, hb3a⟩; have RP3b := Lib.hid (RP2.out.drew.below hb3a)) | (refine step_append_bytes_mv RP3b.out.ob ho3a.bs elB (by first | omega | (simp only [List.length_append]; omega)) (by first | omega | (simp only [List.length_append]; omega)) (by have := RP3b.out.bel.size; omega) ?_ _ _ rfl rfl rfl rfl; intro v3c w3c ho3c hg3 _; have RP3 := Lib.hid (RP3b.out.grown ho3c hg3); clear ho3c hg3))
              clear c3 d3
              have hrp4 := RP3.out
              have d4 := hrp4.c0
              have d5 := hrp4.c1
              have d6 := hrp4.c2
              obtain ⟨c4, c5, c6⟩ := HC.out _ hrp4.bel
              have f4 := hrp4.free 0
              have f5 := hrp4.free 1
              have f6 := hrp4.free 2
              clear hrp4
              go_wp2
              go_roundw
              case rel =>
                refine ⟨k + 1, s, by omega, by go_num, ?_, sright_take l k s HS.out HR.out HSM.out (fun h => by rw [← HP.out]; exact HLE.out h), ?_⟩
                · show _ = _
                  exact (slast_take l (k + 1) (by omega) s HS.out szero).symm
                · have := RP3.out.set s
                  rw [List.take_add_one, HS.out]
                  simp only [Option.toList_some]
                  rw [sputs_snoc, ← HP.out]
                  simpa [sput1, List.append_assoc] using this
              case measure => simp [intOf]; omega
        · have hm' : mayB s = false := by simpa using hm
          have HM := Lib.hid hm'
          clear hm hm'
          go_wp2
          refine wp_region_quiet_below (by kernel_rfl) (by kernel_rfl) ?_
          repeat (go_big_quiet_step ((go_at_call 72; exact Calls.regrown_of (rmay_is s false HM.out _))))
          refine wpQuiet_nil ?_
          intro _ hw'
          obtain ⟨⟨dq, osq⟩, hw''⟩ := hw'
          subst hw''
          have hb2 := below_regrown wr dq osq
          obtain ⟨w2, hwq⟩ : ∃ x, x = grow (redrawn wr dq) osq := ⟨_, rfl⟩
          rw [← hwq] at hb2 ⊢
          clear hwq
          go_wp2
          go_ret2
          refine hnot.out _ _ (.inr ⟨sright_no l k s HS.out (.inl fun h => ?_), rfl, hw.trans (hb2.mono hsz)⟩)
          have := (mayB_iff s).2 h
          rw [HM.out] at this
          cases this
      · have htake : l.take k = l := List.take_of_length_le (by have := HN.out; omega)
        have HT := Lib.hid htake
        clear htake
        have HRP := Lib.hid hrp
        clear hrp
        go_wp2
        go_ret2
        have h1 := HR.out
        have h2 := HRP.out.ob
        rw [HT.out] at h1 h2
        exact hnot.out _ _ (.inl ⟨h1, _, rfl, h2, HRP.out.bel⟩)

end Go.Proofs.YtjnbdeopoohnmaaGreatDoor
