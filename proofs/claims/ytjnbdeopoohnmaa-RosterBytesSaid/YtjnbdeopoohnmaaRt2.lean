/- Layer 56 (roster): Right of the program, the law's few. -/
import Derived.Test.YtjnbdeopoohnmaaRt1
import Derived.Deep.RegionLaw
import Derived.Deep.DeepCutAuto
import Derived.Deep.CutBlock
import Derived.Lib.QuietBelow
set_option linter.unusedSimpArgs false
namespace Go.Proofs.Ytjnbdeopoohnmaa
open Go.RowKit Go.Sort

def accD (l : List AcX) : List AcD := l.map (·.1)
theorem accD_get {l : List AcX} {k : Nat} {x : AcX} (h : l[k]? = some x) : (accD l)[k]? = some x.1 := by unfold accD; rw [List.getElem?_map, h]; rfl
theorem accD_len (l : List AcX) : (accD l).length = l.length := by simp [accD]

set_option maxRecDepth 100000 in
set_option maxHeartbeats 1600000 in
theorem rtRight_any (v : Value) (l : List AcX) (w : World) (h : Acs w v l) : Calls Try.prog 22 #[v] w fun e w' => e = .returned (.bool (aright (accD l))) ∧ Below w.heap.size w w' := by
  obtain ⟨n, hn⟩ : ∃ n, l.length = n := ⟨_, rfl⟩
  obtain ⟨a, c, b, o, rfl, h1, h2, hix, hlt', hcell, -⟩ := h.1.open_n layA elA n hn
  have HC := Lib.hid hcell
  have HN := Lib.hid hn
  have HLT := Lib.hid hlt'
  have HX := Lib.hid h.2
  obtain ⟨R, hR⟩ : ∃ R, aright (accD l) = R := ⟨_, rfl⟩
  have HV : Hid (R = (aTo (accD l) n && decide (n ≤ 4096))) := by show _ = _; rw [← hR, ← hn]; unfold aright; rw [accD_len]
  rw [hR]
  clear h hn hcell hlt' hR
  go_enter Try.func22, Try.ntmps22
  go_wp2_with fail
  go_loopw [7] (fun vi wr => ∃ k : Nat, k ≤ n ∧ vi = .int .i64 k ∧ Hid (aTo (accD l) k = true) ∧ Hid (Below w.heap.size w wr)) (fun vi _ => n - (intOf vi).toNat)
  case atStart => exact ⟨0, by omega, rfl, rfl, Below.refl _ _⟩
  case round =>
    obtain ⟨k, hk, rfl, HP, HB⟩ := hrel
    by_cases hlt : k < n
    · have e2 : (k : Int) < n := by omega
      obtain ⟨x, hs⟩ : ∃ s, l[k]? = some s := ⟨_, List.getElem?_eq_getElem (by have := HN.out; omega)⟩
      have m0 := HC.out k x hs 0 _ rfl
      have m1 := HC.out k x hs 1 _ rfl
      have m2 := HC.out k x hs 2 _ rfl
      rw [Nat.add_zero] at m0
      have hbl := HLT.out k hlt
      rw [← HB.out.cell (by exact hbl)] at m0 m1 m2
      have hixk := fun W => hix W k hlt
      have hxv := (HX.out x (List.mem_of_getElem? hs)).below HB.out
      have hnext := aTo_next (accD l) k
      rw [HP.out, Bool.true_and] at hnext
      have HNO : Hid (aAt (accD l) k = false → R = false) := fun h => by rw [HV.out, aTo_no h hlt]; rfl
      have hD := accD_get hs
      obtain ⟨⟨id, bl, sp⟩, ⟨xa, xn, xc⟩⟩ := x
      unfold Sl3.v at m2
      simp only at m0 m1 m2 hD
      obtain ⟨g, hg⟩ : ∃ g, wr.heap.size = g := ⟨_, rfl⟩
      obtain ⟨W4, hW4⟩ : ∃ V, wr.alloc (.cells #[.int .i64 id, .int .i64 bl, .slice xa xn xc] 43) = V := ⟨_, rfl⟩
      have hr4 : W4.heap[g]? = some (.cells #[.int .i64 id, .int .i64 bl, .slice xa xn xc] 43 (0, 0)) := by rw [← hW4, ← hg]; exact heap_alloc_new _ _
      have hb4 : Below wr.heap.size wr W4 := by rw [← hW4]; exact (Below.refl _ _).alloc (Nat.le_refl _) _
      obtain ⟨b0, hb0⟩ : ∃ b, aone ⟨id, bl, sp⟩ = b := ⟨_, rfl⟩
      have CO : Hid (∀ V, Below W4.heap.size W4 V → Calls Try.prog 46 #[.agg #[.int .i64 id, .int .i64 bl, .slice xa xn xc]] V fun e w' => e = .returned (.bool b0) ∧ Below V.heap.size V w') := fun V hV => by
        have := rtOne_any (⟨id, bl, sp⟩, (xa, xn, xc)) V ((hxv.below hb4).below hV)
        rw [hb0] at this
        exact this
      obtain ⟨z0, z1, z2⟩ := acct_cells hr4
      have r0 := fun d os => cell_regrown z0 d os
      have r1 := fun d os => cell_regrown z1 d os
      have r2 := fun d os => cell_regrown z2 d os
      have HS := Lib.hid hs
      have HD := Lib.hid hD
      have HB0 := Lib.hid hb0
      have HNX := Lib.hid hnext
      have HLT2 := Lib.hid hlt
      have HB4 := Lib.hid (HB.out.trans (hb4.mono HB.out.size))
      have HNAT : Hid (∀ p, 0 < k → (accD l)[k - 1]? = some p → aAt (accD l) k = (b0 && decide (p.id < id))) := fun p h0 hp => by rw [aAtS h0 hD hp, hb0]
      have HAT0 : Hid (k = 0 → aAt (accD l) k = b0) := fun h0 => by subst h0; rw [aAt0 hD, hb0]
      clear hs hxv hbl hr4 hb4 hb0 hnext hlt hD
      cases b0 with
      | false =>
        have HF : Hid (R = false) := by
          refine HNO.out ?_
          by_cases h0 : 0 < k
          · obtain ⟨p, hp⟩ : ∃ p, (accD l)[k - 1]? = some p := ⟨_, List.getElem?_eq_getElem (by rw [accD_len]; have := HN.out; have := HLT2.out; omega)⟩
            rw [HNAT.out p h0 hp]; rfl
          · rw [HAT0.out (by omega)]
        go_upto_region 4 with fail
        refine wp_region_quiet_below (by kernel_rfl) (by kernel_rfl) ?_
        repeat (go_big_quiet_step ((go_at_call 46; with_reducible exact Calls.regrown_of (CO.out _ (below_regrown W4 _ _)))))
        refine wpQuiet_nil ?_
        intro _ hw'
        obtain ⟨⟨dq, osq⟩, hw''⟩ := hw'
        subst hw''
        have HB5 := below_regrown W4 dq osq
        obtain ⟨W5, hwq⟩ : ∃ x, x = grow (redrawn W4 dq) osq := ⟨_, rfl⟩
        rw [← hwq] at HB5 ⊢
        clear hwq
        have hbq := Lib.hid (HB4.out.trans (HB5.mono HB4.out.size))
        go_wp2
        go_ret
        exact ⟨by rw [HF.out]; rfl, hbq.out⟩
      | true =>
      by_cases hk0 : 0 < k
      case neg =>
        have hnx : Hid (aTo (accD l) (k + 1) = true) := by show _ = _; rw [HNX.out, HAT0.out (by omega)]
        clear HNX
        go_upto_region 4 with fail
        refine wp_region_quiet_below (by kernel_rfl) (by kernel_rfl) ?_
        repeat (go_big_quiet_step ((go_at_call 46; with_reducible exact Calls.regrown_of (CO.out _ (below_regrown W4 _ _)))))
        refine wpQuiet_nil ?_
        intro _ hw'
        obtain ⟨⟨dq, osq⟩, hw''⟩ := hw'
        subst hw''
        have HB5 := below_regrown W4 dq osq
        obtain ⟨W5, hwq⟩ : ∃ x, x = grow (redrawn W4 dq) osq := ⟨_, rfl⟩
        rw [← hwq] at HB5 ⊢
        clear hwq
        have hbq := Lib.hid (HB4.out.trans (HB5.mono HB4.out.size))
        go_wp2
        go_roundw
        case rel => exact ⟨k + 1, by have := HLT2.out; omega, by go_num, hnx, hbq⟩
        case measure => simp [intOf]; have := HLT2.out; omega
      obtain ⟨p, hp⟩ : ∃ p, l[k - 1]? = some p := ⟨_, List.getElem?_eq_getElem (by have := HN.out; have := HLT2.out; omega)⟩
      have hat := HNAT.out p.1 hk0 (accD_get hp)
      have n0 := HC.out (k - 1) p hp 0 _ rfl
      rw [Nat.add_zero] at n0
      have hbl := HLT.out (k - 1) (by have := HLT2.out; omega)
      rw [← HB4.out.cell (by exact hbl)] at n0
      have rn := fun d os => cell_regrown n0 d os
      have hixp := fun W => hix W (k - 1) (by have := HLT2.out; omega)
      rw [show ((k - 1 : Nat) : Int) = (k : Int) - 1 by omega] at hixp
      have HAT := Lib.hid hat
      clear hp hat hbl n0
      have hkb : k ≤ 9223372036854775807 := by omega
      by_cases e5 : id ≤ p.1.id
      · have HF : Hid (R = false) := HNO.out (by rw [HAT.out, decide_eq_false (by omega : ¬ p.1.id < id)]; rfl)
        go_upto_region 4 with fail
        refine wp_region_quiet_below (by kernel_rfl) (by kernel_rfl) ?_
        repeat (go_big_quiet_step ((go_at_call 46; with_reducible exact Calls.regrown_of (CO.out _ (below_regrown W4 _ _)))))
        refine wpQuiet_nil ?_
        intro _ hw'
        obtain ⟨⟨dq, osq⟩, hw''⟩ := hw'
        subst hw''
        have HB5 := below_regrown W4 dq osq
        obtain ⟨W5, hwq⟩ : ∃ x, x = grow (redrawn W4 dq) osq := ⟨_, rfl⟩
        rw [← hwq] at HB5 ⊢
        clear hwq
        have hbq := Lib.hid (HB4.out.trans (HB5.mono HB4.out.size))
        go_wp2
        go_ret
        exact ⟨by rw [HF.out]; rfl, hbq.out⟩
      · have hnx : Hid (aTo (accD l) (k + 1) = true) := by show _ = _; rw [HNX.out, HAT.out, decide_eq_true (by omega : p.1.id < id)]; rfl
        clear HNX
        go_upto_region 4 with fail
        refine wp_region_quiet_below (by kernel_rfl) (by kernel_rfl) ?_
        repeat (go_big_quiet_step ((go_at_call 46; with_reducible exact Calls.regrown_of (CO.out _ (below_regrown W4 _ _)))))
        refine wpQuiet_nil ?_
        intro _ hw'
        obtain ⟨⟨dq, osq⟩, hw''⟩ := hw'
        subst hw''
        have HB5 := below_regrown W4 dq osq
        obtain ⟨W5, hwq⟩ : ∃ x, x = grow (redrawn W4 dq) osq := ⟨_, rfl⟩
        rw [← hwq] at HB5 ⊢
        clear hwq
        have hbq := Lib.hid (HB4.out.trans (HB5.mono HB4.out.size))
        go_wp2
        go_roundw
        case rel => exact ⟨k + 1, by have := HLT2.out; omega, by go_num, hnx, hbq⟩
        case measure => simp [intOf]; have := HLT2.out; omega
    · obtain rfl : k = n := by omega
      have e2 : ¬ (k : Int) < k := by omega
      by_cases h4 : k ≤ 4096
      · have e3 : (k : Int) ≤ 4096 := by omega
        have HF : Hid (R = true) := by show _ = _; rw [HV.out, HP.out, decide_eq_true h4]; rfl
        go_wp2
        go_ret
        exact ⟨by rw [HF.out]; rfl, HB.out⟩
      · have e3 : ¬ (k : Int) ≤ 4096 := by omega
        have HF : Hid (R = false) := by show _ = _; rw [HV.out, decide_eq_false h4, Bool.and_false]
        go_wp2
        go_ret
        exact ⟨by rw [HF.out]; rfl, HB.out⟩

def rfew (l : List AcX) : Prop := (∀ x ∈ l, x.1.sp.length ≤ 60) ∧ l.length ≤ 30
def FewPost (w : World) (l : List AcX) (e : Ending) (w' : World) : Prop := ∃ b : Bool, e = .returned (.bool b) ∧ (b = true ↔ rfew l) ∧ Below w.heap.size w w'
set_option maxRecDepth 100000 in
set_option maxHeartbeats 1600000 in
theorem rtFew_any (v : Value) (l : List AcX) (w : World) (h : Acs w v l) : Calls Try.prog 21 #[v] w (FewPost w l) := by
  obtain ⟨n, hn⟩ : ∃ n, l.length = n := ⟨_, rfl⟩
  obtain ⟨a, c, b, o, rfl, h1, h2, hix, hlt', hcell, -⟩ := h.1.open_n layA elA n hn
  have HC := Lib.hid hcell
  have HN := Lib.hid hn
  have HLT := Lib.hid hlt'
  have HX := Lib.hid h.2
  clear h hn hcell hlt'
  go_enter Try.func21, Try.ntmps21
  go_wp2_with fail
  go_loopw [7] (fun vi wr => ∃ k : Nat, k ≤ n ∧ vi = .int .i64 k ∧ Hid (∀ x ∈ l.take k, x.1.sp.length ≤ 60) ∧ Hid (Below w.heap.size w wr)) (fun vi _ => n - (intOf vi).toNat)
  case atStart => exact ⟨0, by omega, rfl, fun x hx => by simp at hx, Below.refl _ _⟩
  case round =>
    obtain ⟨k, hk, rfl, HP, HB⟩ := hrel
    by_cases hlt : k < n
    · have e2 : (k : Int) < n := by omega
      obtain ⟨x, hs⟩ : ∃ s, l[k]? = some s := ⟨_, List.getElem?_eq_getElem (by have := HN.out; omega)⟩
      have m0 := HC.out k x hs 0 _ rfl
      have m1 := HC.out k x hs 1 _ rfl
      have m2 := HC.out k x hs 2 _ rfl
      rw [Nat.add_zero] at m0
      have hbl := HLT.out k hlt
      rw [← HB.out.cell (by exact hbl)] at m0 m1 m2
      have hixk := fun W => hix W k hlt
      have hxl : x.1.sp.length = x.2.2.1 := by
        have := (HX.out x (List.mem_of_getElem? hs)).1
        unfold Sl3.v at this
        exact this.len_eq.1.symm
      have HS := Lib.hid hs
      have HLT2 := Lib.hid hlt
      obtain ⟨⟨id, bl, sp⟩, ⟨xa, xn, xc⟩⟩ := x
      unfold Sl3.v at m2
      simp only at m0 m1 m2 hxl
      have hb4 := Lib.hid (bw_al HB.out (.cells #[.int .i64 id, .int .i64 bl, .slice xa xn xc] 43))
      have HXL := Lib.hid hxl
      clear hs hbl hlt hxl
      by_cases h60 : 60 < xn
      · have e3 : (60 : Int) < xn := by omega
        go_wp2
        go_ret
        refine ⟨false, rfl, ⟨(fun h => by cases h), fun h => ?_⟩, hb4.out⟩
        have := h.1 _ (List.mem_of_getElem? HS.out)
        simp only at this
        have := HXL.out
        omega
      · have e3 : ¬ (60 : Int) < xn := by omega
        have HP2 : Hid (∀ x ∈ l.take (k + 1), x.1.sp.length ≤ 60) := by
          intro p hp
          rw [List.take_add_one, HS.out] at hp
          rcases List.mem_append.1 hp with hp | hp
          · exact HP.out p hp
          · simp at hp; subst hp; simp only; have := HXL.out; omega
        go_wp2
        go_roundw
        case rel => exact ⟨k + 1, by have := HLT2.out; omega, by go_num, HP2, hb4⟩
        case measure => simp [intOf]; have := HLT2.out; omega
    · obtain rfl : k = n := by omega
      have e2 : ¬ (k : Int) < k := by omega
      have hall := HP.out
      rw [List.take_of_length_le (by rw [HN.out]; exact Nat.le_refl _)] at hall
      have HALL := Lib.hid hall
      clear hall
      by_cases h30 : k ≤ 30
      · have e3 : (k : Int) ≤ 30 := by omega
        go_wp2
        go_ret
        exact ⟨true, rfl, ⟨fun _ => ⟨HALL.out, by rw [HN.out]; exact h30⟩, fun _ => rfl⟩, HB.out⟩
      · have e3 : ¬ (k : Int) ≤ 30 := by omega
        go_wp2
        go_ret
        exact ⟨false, rfl, ⟨(fun h => by cases h), fun h => absurd (HN.out ▸ h.2) h30⟩, HB.out⟩
end Go.Proofs.Ytjnbdeopoohnmaa
